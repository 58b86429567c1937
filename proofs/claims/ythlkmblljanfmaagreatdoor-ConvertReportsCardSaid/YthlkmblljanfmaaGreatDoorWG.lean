/-
  Several texts in one: Sh Gt Gh Gg Gi
-/
import Derived.Shelf.Strconv.Itoa3
import Derived.Shelf.Spec.TrailingZeros
import Derived.Test.YthlkmblljanfmaaGreatDoorProg
import Derived.Test.YthlkmblljanfmaaGreatDoorWA
import Derived.Test.YthlkmblljanfmaaGreatDoorWF
section
namespace Go.Proofs
open Go.Shelf
def Tryz.laysM171_ren : Go.Shelf.Ren := ⟨fun | 171 => 25 | 243 => 48 | 246 => 87 | 283 => 132 | 284 => 133 | 285 => 134 | 286 => 135 | 129 => 181 | 317 => 180 | 318 => 182 | 319 => 183 | 320 => 184 | 337 => 228 | 338 => 229 | n => n, fun | 3 => 3 | 9 => 9 | 2 => 2 | 4 => 4 | 171 => 217 | 0 => 0 | 53 => 218 | 37 => 49 | 5 => 5 | 173 => 221 | 212 => 255 | 51 => 256 | 20 => 20 | 213 => 257 | 46 => 178 | 232 => 307 | 233 => 308 | n => n, fun | 17 => 0 | 18 => 2 | 19 => 3 | n => n⟩
theorem Tryz.laysM171 : Go.Proofs.LaysM.n171 Tryz.prog Tryz.laysM171_ren := {
  mixed := by kernel_rfl
  f129 := Tryz.func181.trans (congrArg some (by kernel_rfl))
  f171 := Tryz.func25.trans (congrArg some (by kernel_rfl))
  f243 := Tryz.func48.trans (congrArg some (by kernel_rfl))
  f246 := Tryz.func87.trans (congrArg some (by kernel_rfl))
  f283 := Tryz.func132.trans (congrArg some (by kernel_rfl))
  f284 := Tryz.func133.trans (congrArg some (by kernel_rfl))
  f285 := Tryz.func134.trans (congrArg some (by kernel_rfl))
  f286 := Tryz.func135.trans (congrArg some (by kernel_rfl))
  f317 := Tryz.func180.trans (congrArg some (by kernel_rfl))
  f318 := Tryz.func182.trans (congrArg some (by kernel_rfl))
  f319 := Tryz.func183.trans (congrArg some (by kernel_rfl))
  f320 := Tryz.func184.trans (congrArg some (by kernel_rfl))
  f337 := Tryz.func228.trans (congrArg some (by kernel_rfl))
  f338 := Tryz.func229.trans (congrArg some (by kernel_rfl))
  t0 := Tryz.underlying0
  a0 := Tryz.isAgg0
  z0 := Tryz.sizeOf0
  v0 := Tryz.zeroValue0
  t2 := Tryz.underlying2
  a2 := Tryz.isAgg2
  z2 := Tryz.sizeOf2
  v2 := Tryz.zeroValue2
  t3 := Tryz.underlying3
  a3 := Tryz.isAgg3
  z3 := Tryz.sizeOf3
  v3 := Tryz.zeroValue3
  t4 := Tryz.underlying4
  a4 := Tryz.isAgg4
  z4 := Tryz.sizeOf4
  v4 := Tryz.zeroValue4
  t5 := Tryz.underlying5
  a5 := Tryz.isAgg5
  z5 := Tryz.sizeOf5
  v5 := Tryz.zeroValue5
  t9 := Tryz.underlying9
  a9 := Tryz.isAgg9
  z9 := Tryz.sizeOf9
  v9 := Tryz.zeroValue9
  t20 := Tryz.underlying20
  a20 := Tryz.isAgg20
  z20 := Tryz.sizeOf20
  v20 := Tryz.zeroValue20
  t37 := Tryz.underlying49
  a37 := Tryz.isAgg49
  z37 := Tryz.sizeOf49
  v37 := Tryz.zeroValue49
  t46 := Tryz.underlying178
  a46 := Tryz.isAgg178
  z46 := Tryz.sizeOf178
  v46 := Tryz.zeroValue178
  t51 := Tryz.underlying256
  a51 := Tryz.isAgg256
  z51 := Tryz.sizeOf256
  v51 := Tryz.zeroValue256
  t53 := Tryz.underlying218
  a53 := Tryz.isAgg218
  z53 := Tryz.sizeOf218
  v53 := Tryz.zeroValue218
  t171 := Tryz.underlying217
  a171 := Tryz.isAgg217
  z171 := Tryz.sizeOf217
  v171 := Tryz.zeroValue217
  t173 := Tryz.underlying221
  a173 := Tryz.isAgg221
  z173 := Tryz.sizeOf221
  v173 := Tryz.zeroValue221
  t212 := Tryz.underlying255
  a212 := Tryz.isAgg255
  z212 := Tryz.sizeOf255
  v212 := Tryz.zeroValue255
  t213 := Tryz.underlying257
  a213 := Tryz.isAgg257
  z213 := Tryz.sizeOf257
  t232 := Tryz.underlying307
  a232 := Tryz.isAgg307
  z232 := Tryz.sizeOf307
  v232 := Tryz.zeroValue307
  t233 := Tryz.underlying308
  a233 := Tryz.isAgg308
  z233 := Tryz.sizeOf308
  v233 := Tryz.zeroValue308
  g17 := by kernel_rfl
  g18 := by kernel_rfl
  g19 := by kernel_rfl
  i0 := by kernel_rfl
  i2 := by kernel_rfl
  i3 := by kernel_rfl
  i4 := by kernel_rfl
  i5 := by kernel_rfl
  i9 := by kernel_rfl
  i20 := by kernel_rfl
  i37 := by kernel_rfl
  i46 := by kernel_rfl
  i51 := by kernel_rfl
  i53 := by kernel_rfl
  i171 := by kernel_rfl
  i173 := by kernel_rfl
  i212 := by kernel_rfl
  i232 := by kernel_rfl
  i233 := by kernel_rfl
  m17 := by kernel_rfl
  m18 := by kernel_rfl
  m19 := by kernel_rfl }
open Go.RowKit Go.Sort Go.Lib in
theorem Tryz.strconv_Itoa (n : Int) (h0 : -9223372036854775808 ≤ n) (h1 : n ≤ 9223372036854775807) (w : World) (htab : Lib.TabIs Tryz.prog w "internal/strconv.uint64pow10" .u64 Lib.pow10Tab) :
    Calls Tryz.prog 25 #[.int .i64 n] w fun e w' => e = .returned (.string ⟨(Lib.itoa n).toArray⟩) ∧ ∃ k os, w' = grow (w.drewN k) os := Any.strconv_Itoa Tryz.laysM171 n h0 h1 w htab
def Tryz.lays27_ren : Go.Shelf.Ren := ⟨fun | 27 => 184 | 28 => 228 | 29 => 229 | n => n, fun | 25 => 178 | 3 => 3 | 27 => 256 | 22 => 218 | 4 => 4 | 53 => 307 | 0 => 0 | 5 => 5 | 54 => 308 | n => n, fun | 0 => 2 | 1 => 3 | n => n⟩
theorem Tryz.lays27 : Go.Proofs.Lays7.n27 Tryz.prog Tryz.lays27_ren := {
  mixed := by kernel_rfl
  f27 := Tryz.func184.trans (congrArg some (by kernel_rfl))
  f28 := Tryz.func228.trans (congrArg some (by kernel_rfl))
  f29 := Tryz.func229.trans (congrArg some (by kernel_rfl))
  t0 := Tryz.underlying0
  a0 := Tryz.isAgg0
  z0 := Tryz.sizeOf0
  v0 := Tryz.zeroValue0
  i0 := by kernel_rfl
  t3 := Tryz.underlying3
  a3 := Tryz.isAgg3
  z3 := Tryz.sizeOf3
  v3 := Tryz.zeroValue3
  i3 := by kernel_rfl
  t4 := Tryz.underlying4
  a4 := Tryz.isAgg4
  z4 := Tryz.sizeOf4
  v4 := Tryz.zeroValue4
  i4 := by kernel_rfl
  t5 := Tryz.underlying5
  a5 := Tryz.isAgg5
  z5 := Tryz.sizeOf5
  v5 := Tryz.zeroValue5
  i5 := by kernel_rfl
  t22 := Tryz.underlying218
  a22 := Tryz.isAgg218
  z22 := Tryz.sizeOf218
  v22 := Tryz.zeroValue218
  i22 := by kernel_rfl
  t25 := Tryz.underlying178
  a25 := Tryz.isAgg178
  z25 := Tryz.sizeOf178
  v25 := Tryz.zeroValue178
  i25 := by kernel_rfl
  t27 := Tryz.underlying256
  a27 := Tryz.isAgg256
  z27 := Tryz.sizeOf256
  v27 := Tryz.zeroValue256
  i27 := by kernel_rfl
  t53 := Tryz.underlying307
  a53 := Tryz.isAgg307
  z53 := Tryz.sizeOf307
  v53 := Tryz.zeroValue307
  i53 := by kernel_rfl
  t54 := Tryz.underlying308
  a54 := Tryz.isAgg308
  z54 := Tryz.sizeOf308
  g0 := by kernel_rfl
  g1 := by kernel_rfl }
end Go.Proofs
end
section
set_option linter.unusedVariables false
namespace Go.Dk
open Go Go.RowKit Go.Lib
section
variable {P : Program} {ops : Array Oper} {Q : Exit → Act → World → Prop} {rest : List Oper} {o : Oper} {n : Nat} {f : Nat → Value} {w w0 : World} {L : List (Nat × Obj)} {R : List Row} {ρ : Operand → Value}
theorem v_subK {t t' : TypeId} {x y : Operand} {k : IntKind} {p q : Int} (ho : o.op = .binOp .sub t x y t') (hx : ρ x = .int k p) (hy : ρ y = .int k q) : (execOp ρ o).run P w = .ok (.value (.int k (k.wrap (p - q)))) w := by
  unfold execOp; rw [ho]
  simp [hx, hy, eqGuard, binOp, Op.intArith]
theorem v_cw64 {s t : TypeId} {x : Operand} {m : Nat} {d : TypeDesc} (ho : o.op = .convert s t x) (hx : ρ x = .int .i64 m) (hs : P.underlying s = some d) (ht : P.underlying t = some (.int .u64)) (h : m < 256) : (execOp ρ o).run P w = .ok (.value (.int .u64 m)) w := by
  have := v_conv (w := w) ho hx hs ht
  have e : IntKind.u64.wrap (m : Int) = (m : Int) := by simp [IntKind.wrap, IntKind.signed, IntKind.bits]; omega
  rwa [e] at this
theorem v_cmpF {t t' : TypeId} {x y : Operand} {k : IntKind} {p q : Int} (ho : o.op = .binOp .lss t x y t') (hx : ρ x = .int k p) (hy : ρ y = .int k q) (h : ¬ p < q) : (execOp ρ o).run P w = .ok (.value (.bool false)) w := by
  have := v_cmp (P := P) (w := w) (b := decide (p < q)) ho hx hy rfl
  rwa [decide_eq_false h] at this
theorem v_slA {t e : TypeId} {x y : Operand} {len s b k : Nat} {kd : IntKind} {m : Int} (ho : o.op = .slice t x (some y) none none) (hx : ρ x = .pointer (some ⟨b, k, none⟩)) (hy : ρ y = .int kd m) (hu : P.underlying t = some (.array len e)) (hs : (P.info? e).map (·.size) = some s) (h0 : 0 ≤ m) (h1 : m < len) :
    (execOp ρ o).run P w = .ok (.value (.slice (some ⟨b, k + m.toNat * s, none⟩) (len - m.toNat) (len - m.toNat))) w := by
  unfold execOp; rw [ho]
  have h2 : m ≤ (len : Int) := by omega
  have h3 : ¬ len = m.toNat := by omega
  simp [hx, hy, Instr.sliceAt, Instr.sureAddr, Instr.sliceBounds, Instr.sliceBound, asIntOf, run_underlying hu, h0, h2, run_size (w := w) hs, add_addr, h3]
end
theorem below_gr (w : World) (q : Nat) (os : Array Obj) : Below w.heap.size w (Go.Sort.grow (w.drewN q) os) :=
  ⟨rfl, rfl, rfl, by simp [Go.Sort.grow], fun i hi => by
    show ((w.drewN q).heap ++ os)[i]? = _
    rw [Array.getElem?_append_left (by show i < w.heap.size; omega)]
    rfl⟩
theorem cell_up {w w' : World} (hb : Below w.heap.size w w') {a : Addr} {v : Value} (h : w.cell? a = some v) : w'.cell? a = some v := by
  have h2 := block_lt_of_cell h
  have h3 := hb.block a.block (by simpa using h2)
  have h4 : w'.cell? a = w.cell? a := by simp [World.cell?, h3]
  rw [h4]; exact h
theorem tab_up {P : Program} {nm : String} {g : Nat} {k : IntKind} {zs : List Int} (hgn : P.globalNamed nm = some g) {w w' : World} (hb : Below w.heap.size w w') (h : Lib.TabIs P w nm k zs) : Lib.TabIs P w' nm k zs := by
  unfold Lib.TabIs World.var? at h ⊢
  rw [hgn] at h ⊢
  simp only [Option.bind_some] at h ⊢
  have hlt : g < w.heap.size := by
    rcases Nat.lt_or_ge g w.heap.size with h' | h'
    · exact h'
    · rw [Array.getElem?_eq_none h'] at h; cases h
  rw [hb.block g hlt]
  exact h
end Go.Dk
namespace Go.Proofs.YthlkmblljanfmaaGreatDoor
open Go Go.Dk Go.RowKit Go.Lib
structure Tabs (w : World) : Prop where
  pow : Lib.TabIs Tryz.prog w "internal/strconv.uint64pow10" .u64 Lib.pow10Tab
  bit : Go.Proofs.TabAt 3 Lib.deBruijn64tab w
theorem Tabs.up {w w' : World} (h : Tabs w) (hb : Below w.heap.size w w') : Tabs w' :=
  ⟨tab_up (g := 0) (by kernel_rfl) hb h.pow, fun j hj => cell_up hb (h.bit j hj)⟩
theorem c25 (n : Int) (w0 : World) (ht : Tabs w0) (h0 : -9223372036854775808 ≤ n) (h1 : n ≤ 9223372036854775807) : Fc Tryz.prog 25 [.int .i64 n] w0 (fun v _ => v = .string (bs (itoa n))) :=
  Calls.mono (Go.Proofs.Tryz.strconv_Itoa n h0 h1 w0 ht.pow) fun e w' ⟨he, k, os, hw⟩ => ⟨_, he, by rw [hw]; exact below_gr _ _ _, rfl⟩
theorem c184 (w0 : World) (ht : Tabs w0) : Fc Tryz.prog 184 [.int .u64 16] w0 (IsI fun m => m = 4) :=
  Calls.mono (Go.Proofs.Any7.bits_TrailingZeros Go.Proofs.Tryz.lays27 16 (by decide) w0 fun _ => ht.bit) fun e w' ⟨he, hw⟩ => ⟨_, he, by rw [hw]; exact Below.refl _ _, _, rfl, by decide⟩
end Go.Proofs.YthlkmblljanfmaaGreatDoor
end
section
set_option linter.unusedSimpArgs false
set_option linter.unusedVariables false
namespace Go.Proofs.YthlkmblljanfmaaGreatDoor
open Go Go.Dk Go.RowKit Go.Lib
attribute [local irreducible] Go.wpList Go.Code.wp Go.bodyPost Go.wpStill
theorem szA : (Tryz.prog.info? 5).map (·.size) = some 1 := by kernel_rfl
theorem zA : Zero Tryz.prog 257 (List.replicate 65 (.int .u8 0)) := zero_of (v := .agg (List.replicate 65 (.int .u8 0)).toArray) (by kernel_rfl) rfl
set_option maxHeartbeats 4000000 in
set_option maxRecDepth 10000 in
theorem c183 (w0 : World) : Fc Tryz.prog 183 [.int .i64 16] w0 (IsB fun b => b = true) := by
  refine ret_enter Tryz.func183 rfl Tryz.ntmps183 rfl ?_
  have cx := Ctx.start w0
  refine wp_seq ?_
  refine wp_region_lit ?_
  refine s_val rfl rfl (v_assign rfl rfl) ?_
  refine wpList_nil ?_
  refine wp_seq ?_
  refine wp_region_lit ?_
  refine s_val rfl rfl (v_move rfl rfl) ?_
  refine s_val rfl rfl (v_move rfl rfl) ?_
  refine s_val rfl rfl (v_sub rfl rfl rfl (by omega) (by omega)) ?_
  refine s_val rfl rfl (v_band rfl rfl rfl) ?_
  refine s_val rfl rfl (v_cmp rfl rfl rfl rfl) ?_
  refine s_val rfl rfl (v_assign rfl rfl) ?_
  refine wpList_nil ?_
  refine wp_ret ?_
  refine ret_tmp Tryz.results183 rfl ?_
  exact ⟨cx.ext, _, rfl, by decide⟩
theorem and15u {m : Nat} (h : m < 256) : bitOp .and .u64 (m : Int) 15 = ((m % 16 : Nat) : Int) := by
  have : ∀ b : Fin 256, bitOp .and .u64 (b.val : Int) 15 = ((b.val % 16 : Nat) : Int) := by decide +kernel
  exact this ⟨m, h⟩
theorem shr4u {m : Nat} (h : m < 256) : shr .u64 (m : Int) 4 = ((m / 16 : Nat) : Int) := by
  have : ∀ b : Fin 256, shr .u64 (b.val : Int) 4 = ((b.val / 16 : Nat) : Int) := by decide +kernel
  exact this ⟨m, h⟩
def dgb : ByteArray := ⟨#[48, 49, 50, 51, 52, 53, 54, 55, 56, 57, 97, 98, 99, 100, 101, 102, 103, 104, 105, 106, 107, 108, 109, 110, 111, 112, 113, 114, 115, 116, 117, 118, 119, 120, 121, 122]⟩
theorem digs {m : Nat} (h : m < 16) : byteAt dgb (m : Int) = ((hexd m).toNat : Int) := by
  have : ∀ b : Fin 16, byteAt dgb (b.val : Int) = ((hexd b.val).toNat : Int) := by decide +kernel
  exact this ⟨m, h⟩
theorem dig_and {m : Nat} (h : m < 256) : byteAt dgb (bitOp .and .u64 (m : Int) 15) = ((hexd (m % 16)).toNat : Int) := by rw [and15u h]; exact digs (by omega)
theorem strOf_a {a : UInt8} : strOf [(a.toNat : Int)] = bs [a] := strOf_bs [a]
theorem strOf_ab {a b : UInt8} : strOf [(a.toNat : Int), (b.toNat : Int)] = bs [a, b] := strOf_bs [a, b]
set_option maxHeartbeats 4000000 in
set_option maxRecDepth 10000 in
theorem c135a (m : Nat) (w0 : World) (hm : m < 16) (ht : Tabs w0) : Fc Tryz.prog 135 [.slice none 0 0, .int .u64 m, .int .i64 16, .bool false, .bool false] w0 (fun v _ => ∃ x, v = .tuple #[x, .string (bs (hexs m))]) := by
  refine ret_enter Tryz.func135 rfl Tryz.ntmps135 rfl ?_
  have cx := Ctx.start w0
  refine wp_seq ?_
  refine wp_region_lit ?_
  refine s_val rfl rfl (v_assign rfl rfl) ?_
  refine s_val rfl rfl (v_assign rfl rfl) ?_
  refine wpList_nil ?_
  refine wp_seq ?_
  refine wp_seq ?_
  refine wp_region_lit ?_
  refine s_val rfl rfl (v_move rfl rfl) ?_
  refine s_val rfl rfl (v_cmp rfl rfl rfl rfl) ?_
  refine s_val rfl rfl (v_move rfl rfl) ?_
  refine s_gval rfl rfl rfl (by first | exact w_ff rfl | exact w_gf rfl) (fun hc => v_move rfl (by first | exact gve hc rfl | exact gve (and_l hc) rfl | exact gve (and_l (and_l hc)) rfl | rfl)) ?_
  refine s_gval rfl rfl rfl (by first | exact w_ff rfl | exact w_gf rfl) (fun hc => v_cmp rfl (by first | exact gve hc rfl | exact gve (and_l hc) rfl | exact gve (and_l (and_l hc)) rfl | rfl) rfl rfl) ?_
  refine s_val rfl rfl (v_or rfl rfl rfl rfl) ?_
  refine s_val rfl rfl (v_move rfl rfl) ?_
  refine s_gval rfl rfl rfl (by first | exact w_ff rfl | exact w_gf rfl) (fun hc => v_move rfl (by first | exact gve hc rfl | exact gve (and_l hc) rfl | exact gve (and_l (and_l hc)) rfl | rfl)) ?_
  refine s_gval rfl rfl rfl (by first | exact w_ff rfl | exact w_gf rfl) (fun hc => v_cmp rfl (by first | exact gve hc rfl | exact gve (and_l hc) rfl | exact gve (and_l (and_l hc)) rfl | rfl) rfl rfl) ?_
  refine s_val rfl rfl (v_or rfl rfl rfl rfl) ?_
  refine wpList_nil ?_
  refine wp_cond_false (show (St _ _).eval _ = _ by rw [eval_St]; rfl) ?_
  refine wp_skip ?_
  refine wp_seq ?_
  refine wp_region_lit ?_
  refine s_alloc cx zA rfl rfl rfl ?_; intro b12 w cx hb12 hw12
  refine wpList_nil ?_
  refine wp_seq ?_
  refine wp_region_lit ?_
  refine s_val rfl rfl (v_assign rfl rfl) ?_
  refine wpList_nil ?_
  refine wp_seq ?_
  refine wp_seq ?_
  refine wp_region_lit ?_
  refine s_val rfl rfl (v_move rfl rfl) ?_
  refine wpList_nil ?_
  refine wp_cond_false (show (St _ _).eval _ = _ by rw [eval_St]; rfl) ?_
  refine wp_skip ?_
  refine wp_seq ?_
  refine wp_seq ?_
  refine wp_region_lit ?_
  refine s_val rfl rfl (v_move rfl rfl) ?_
  refine s_fnB cx (c183 _) Tryz.func183 rfl rfl rfl rfl rfl rfl ?_; intro q34 w cx hw34 hp34
  subst hp34
  refine wpList_nil ?_
  refine wp_cond_true (show (St _ _).eval _ = _ by rw [eval_St]; rfl) ?_
  refine wp_seq ?_
  refine wp_region_lit ?_
  refine s_val rfl rfl (v_move rfl rfl) ?_
  refine s_val rfl rfl (v_conv rfl rfl Tryz.underlying3 Tryz.underlying178) ?_
  refine s_fnI cx (c184 _ (ht.up cx.ext)) Tryz.func184 rfl rfl rfl rfl rfl rfl ?_; intro q37 w cx hw37 hp37
  subst hp37
  refine s_val rfl rfl (v_conv rfl rfl Tryz.underlying3 Tryz.underlying178) ?_
  refine s_val rfl rfl (v_assign rfl rfl) ?_
  refine wpList_nil ?_
  refine wp_seq ?_
  refine wp_region_lit ?_
  refine s_val rfl rfl (v_move rfl rfl) ?_
  refine s_val rfl rfl (v_conv rfl rfl Tryz.underlying3 Tryz.underlying218) ?_
  refine s_val rfl rfl (v_assign rfl rfl) ?_
  refine wpList_nil ?_
  refine wp_seq ?_
  refine wp_region_lit ?_
  refine s_val rfl rfl (v_move rfl rfl) ?_
  refine s_val rfl rfl (v_conv rfl rfl Tryz.underlying3 Tryz.underlying178) ?_
  refine s_val rfl rfl (v_subK rfl rfl rfl) ?_
  refine s_val rfl rfl (v_assign rfl rfl) ?_
  refine wpList_nil ?_
  refine wp_seq ?_
  refine wp_block ?_
  refine w_loop (fun k f w1 => f 1 = .int .u64 m ∧ f 13 = .int .i64 65 ∧ (∃ b12, f 12 = .pointer (some ⟨b12, 0, none⟩) ∧ Ctx w0 w1 [(b12, .cells (List.replicate 65 (Value.int .u8 0)).toArray 257)]) ∧ f 15 = .int .u64 16 ∧ f 16 = .int .u64 15 ∧ f 14 = .int .u64 4 ∧ f 3 = .bool false ∧ f 4 = .bool false ∧ f 10 = .slice none 0 0) (0) ?_ ?_
  · skip
    exact ⟨rfl, rfl, ⟨_, rfl, cx⟩, rfl, rfl, rfl, rfl, rfl, rfl⟩
  intro gk11 f w hJ
  obtain ⟨hs1, hs13, ⟨b12, hs12, cx⟩, hs15, hs16, hs14, hs3, hs4, hs10⟩ := hJ
  refine wp_seq ?_
  refine wp_seq ?_
  refine wp_region_lit ?_
  refine s_val rfl rfl (v_move rfl hs1) ?_
  refine s_val rfl rfl (v_move rfl hs15) ?_
  refine s_val rfl rfl (v_cmp rfl rfl rfl rfl) ?_
  refine wpList_nil ?_
  refine c_split rfl (fun hc46 => ?_) (fun hc46 => ?_)
  · skip
    exfalso
    simp at hc46
    omega
  · skip
    try simp only [Bool.and_eq_true, Bool.or_eq_true, Bool.and_eq_false_iff, Bool.or_eq_false_iff, Bool.not_eq_true', Bool.not_eq_false', decide_eq_true_eq, decide_eq_false_iff_not, beq_iff_eq, beq_eq_false_iff_ne, bne_iff_ne, bne_eq_false_iff_eq, ne_eq, Classical.not_not] at hc46
    refine wp_exit ?_
    refine wp_seq ?_
    refine wp_region_lit ?_
    refine s_val rfl rfl (v_move rfl hs13) ?_
    refine s_val rfl rfl (v_sub rfl rfl rfl (by omega) (by omega)) ?_
    refine s_val rfl rfl (v_assign rfl rfl) ?_
    refine wpList_nil ?_
    refine wp_region_lit ?_
    refine s_val rfl rfl (v_move rfl rfl) ?_
    refine s_val rfl rfl (v_move rfl hs1) ?_
    refine s_val rfl rfl (v_idxStr rfl rfl rfl Tryz.underlying9 (by omega) (by show _ < (36 : Int); omega)) ?_
    refine s_val rfl rfl (v_iaA Tryz.underlying257 szA rfl hs12 rfl (by decide) (by decide)) ?_
    refine s_store1 (v := .int .u8 (hexd (m)).toNat) cx 0 rfl rfl rfl rfl (congrArg (Value.int .u8) (digs (by omega))) rfl rfl rfl sz5 ?_; intro w cx hwS16
    refine wpList_nil ?_
    refine wp_seq ?_
    refine wp_seq ?_
    refine wp_region_lit ?_
    refine s_val rfl rfl (v_move rfl hs3) ?_
    refine wpList_nil ?_
    refine wp_cond_false (show (St _ _).eval _ = _ by rw [eval_St]; rfl) ?_
    refine wp_skip ?_
    refine wp_seq ?_
    refine wp_seq ?_
    refine wp_region_lit ?_
    refine s_val rfl rfl (v_move rfl hs4) ?_
    refine wpList_nil ?_
    refine wp_cond_false (show (St _ _).eval _ = _ by rw [eval_St]; rfl) ?_
    refine wp_skip ?_
    refine wp_seq ?_
    refine wp_region_lit ?_
    refine s_val rfl rfl (v_move rfl rfl) ?_
    refine s_val rfl rfl (v_slA rfl hs12 rfl Tryz.underlying257 szA (by decide) (by decide)) ?_
    refine s_val rfl rfl (v_b2s rfl Tryz.underlying49 Tryz.underlying5 Tryz.underlying9 (ns := [((hexd m).toNat : Int)]) ((cx.row 0 rfl).sub 64 rfl) rfl rfl) ?_
    refine s_val rfl rfl (v_assign rfl rfl) ?_
    refine wpList_nil ?_
    refine wp_ret ?_
    refine ret_tmp2 Tryz.results135 hs10 rfl ?_
    refine ⟨cx.ext, _, congrArg (fun z => Value.tuple #[_, Value.string z]) ?_⟩
    rw [strOf_a]
    unfold hexs
    rw [if_pos (by omega)]
set_option maxHeartbeats 4000000 in
set_option maxRecDepth 10000 in
theorem c135b (m : Nat) (w0 : World) (hm : 16 ≤ m) (hm2 : m < 256) (ht : Tabs w0) : Fc Tryz.prog 135 [.slice none 0 0, .int .u64 m, .int .i64 16, .bool false, .bool false] w0 (fun v _ => ∃ x, v = .tuple #[x, .string (bs (hexs m))]) := by
  refine ret_enter Tryz.func135 rfl Tryz.ntmps135 rfl ?_
  have cx := Ctx.start w0
  refine wp_seq ?_
  refine wp_region_lit ?_
  refine s_val rfl rfl (v_assign rfl rfl) ?_
  refine s_val rfl rfl (v_assign rfl rfl) ?_
  refine wpList_nil ?_
  refine wp_seq ?_
  refine wp_seq ?_
  refine wp_region_lit ?_
  refine s_val rfl rfl (v_move rfl rfl) ?_
  refine s_val rfl rfl (v_cmp rfl rfl rfl rfl) ?_
  refine s_val rfl rfl (v_move rfl rfl) ?_
  refine s_gval rfl rfl rfl (by first | exact w_ff rfl | exact w_gf rfl) (fun hc => v_move rfl (by first | exact gve hc rfl | exact gve (and_l hc) rfl | exact gve (and_l (and_l hc)) rfl | rfl)) ?_
  refine s_gval rfl rfl rfl (by first | exact w_ff rfl | exact w_gf rfl) (fun hc => v_cmp rfl (by first | exact gve hc rfl | exact gve (and_l hc) rfl | exact gve (and_l (and_l hc)) rfl | rfl) rfl rfl) ?_
  refine s_val rfl rfl (v_or rfl rfl rfl rfl) ?_
  refine s_val rfl rfl (v_move rfl rfl) ?_
  refine s_gval rfl rfl rfl (by first | exact w_ff rfl | exact w_gf rfl) (fun hc => v_move rfl (by first | exact gve hc rfl | exact gve (and_l hc) rfl | exact gve (and_l (and_l hc)) rfl | rfl)) ?_
  refine s_gval rfl rfl rfl (by first | exact w_ff rfl | exact w_gf rfl) (fun hc => v_cmp rfl (by first | exact gve hc rfl | exact gve (and_l hc) rfl | exact gve (and_l (and_l hc)) rfl | rfl) rfl rfl) ?_
  refine s_val rfl rfl (v_or rfl rfl rfl rfl) ?_
  refine wpList_nil ?_
  refine wp_cond_false (show (St _ _).eval _ = _ by rw [eval_St]; rfl) ?_
  refine wp_skip ?_
  refine wp_seq ?_
  refine wp_region_lit ?_
  refine s_alloc cx zA rfl rfl rfl ?_; intro b12 w cx hb12 hw12
  refine wpList_nil ?_
  refine wp_seq ?_
  refine wp_region_lit ?_
  refine s_val rfl rfl (v_assign rfl rfl) ?_
  refine wpList_nil ?_
  refine wp_seq ?_
  refine wp_seq ?_
  refine wp_region_lit ?_
  refine s_val rfl rfl (v_move rfl rfl) ?_
  refine wpList_nil ?_
  refine wp_cond_false (show (St _ _).eval _ = _ by rw [eval_St]; rfl) ?_
  refine wp_skip ?_
  refine wp_seq ?_
  refine wp_seq ?_
  refine wp_region_lit ?_
  refine s_val rfl rfl (v_move rfl rfl) ?_
  refine s_fnB cx (c183 _) Tryz.func183 rfl rfl rfl rfl rfl rfl ?_; intro q34 w cx hw34 hp34
  subst hp34
  refine wpList_nil ?_
  refine wp_cond_true (show (St _ _).eval _ = _ by rw [eval_St]; rfl) ?_
  refine wp_seq ?_
  refine wp_region_lit ?_
  refine s_val rfl rfl (v_move rfl rfl) ?_
  refine s_val rfl rfl (v_conv rfl rfl Tryz.underlying3 Tryz.underlying178) ?_
  refine s_fnI cx (c184 _ (ht.up cx.ext)) Tryz.func184 rfl rfl rfl rfl rfl rfl ?_; intro q37 w cx hw37 hp37
  subst hp37
  refine s_val rfl rfl (v_conv rfl rfl Tryz.underlying3 Tryz.underlying178) ?_
  refine s_val rfl rfl (v_assign rfl rfl) ?_
  refine wpList_nil ?_
  refine wp_seq ?_
  refine wp_region_lit ?_
  refine s_val rfl rfl (v_move rfl rfl) ?_
  refine s_val rfl rfl (v_conv rfl rfl Tryz.underlying3 Tryz.underlying218) ?_
  refine s_val rfl rfl (v_assign rfl rfl) ?_
  refine wpList_nil ?_
  refine wp_seq ?_
  refine wp_region_lit ?_
  refine s_val rfl rfl (v_move rfl rfl) ?_
  refine s_val rfl rfl (v_conv rfl rfl Tryz.underlying3 Tryz.underlying178) ?_
  refine s_val rfl rfl (v_subK rfl rfl rfl) ?_
  refine s_val rfl rfl (v_assign rfl rfl) ?_
  refine wpList_nil ?_
  refine wp_seq ?_
  refine wp_block ?_
  refine w_loop (fun k f w1 => ∃ (u : Nat) (cs : List Value), ((k = 1 ∧ m = u ∧ cs = List.replicate 65 (Value.int .u8 0)) ∨ (k = 0 ∧ m / 16 = u ∧ cs = (List.replicate 65 (Value.int .u8 0)).set 64 (.int .u8 (hexd (m % 16)).toNat))) ∧ f 1 = .int .u64 u ∧ f 13 = .int .i64 ((64 + k : Nat) : Int) ∧ (∃ b12, f 12 = .pointer (some ⟨b12, 0, none⟩) ∧ Ctx w0 w1 [(b12, .cells cs.toArray 257)]) ∧ f 15 = .int .u64 16 ∧ f 16 = .int .u64 15 ∧ f 14 = .int .u64 4 ∧ f 3 = .bool false ∧ f 4 = .bool false ∧ f 10 = .slice none 0 0) (1) ?_ ?_
  · skip
    exact ⟨m, _, .inl ⟨rfl, rfl, rfl⟩, rfl, rfl, ⟨_, rfl, cx⟩, rfl, rfl, rfl, rfl, rfl, rfl⟩
  intro gk11 f w hJ
  obtain ⟨u, cs, hcase, hs1, hs13, ⟨b12, hs12, cx⟩, hs15, hs16, hs14, hs3, hs4, hs10⟩ := hJ
  refine wp_seq ?_
  refine wp_seq ?_
  refine wp_region_lit ?_
  refine s_val rfl rfl (v_move rfl hs1) ?_
  refine s_val rfl rfl (v_move rfl hs15) ?_
  refine s_val rfl rfl (v_cmp rfl rfl rfl rfl) ?_
  refine wpList_nil ?_
  refine c_split rfl (fun hc46 => ?_) (fun hc46 => ?_)
  · skip
    try simp only [Bool.and_eq_true, Bool.or_eq_true, Bool.and_eq_false_iff, Bool.or_eq_false_iff, Bool.not_eq_true', Bool.not_eq_false', decide_eq_true_eq, decide_eq_false_iff_not, beq_iff_eq, beq_eq_false_iff_ne, bne_iff_ne, bne_eq_false_iff_eq, ne_eq, Classical.not_not] at hc46
    rcases hcase with ⟨rfl, rfl, rfl⟩ | ⟨rfl, rfl, rfl⟩
    case inr => exfalso; omega
    refine wp_skip ?_
    refine wp_block ?_
    refine wp_seq ?_
    refine wp_region_lit ?_
    refine s_val rfl rfl (v_move rfl hs13) ?_
    refine s_val rfl rfl (v_sub rfl rfl rfl (by omega) (by omega)) ?_
    refine s_val rfl rfl (v_assign rfl rfl) ?_
    refine wpList_nil ?_
    refine wp_seq ?_
    refine wp_region_lit ?_
    refine s_val rfl rfl (v_move rfl rfl) ?_
    refine s_val rfl rfl (v_move rfl hs1) ?_
    refine s_val rfl rfl (v_move rfl hs16) ?_
    refine s_val rfl rfl (v_band rfl rfl rfl) ?_
    refine s_val rfl rfl (v_idxStr rfl rfl rfl Tryz.underlying9 (by rw [and15u (by omega)]; omega) (by rw [and15u (by omega)]; show _ < (36 : Int); omega)) ?_
    refine s_val rfl rfl (v_iaA Tryz.underlying257 szA rfl hs12 rfl (by decide) (by decide)) ?_
    refine s_store1 (v := .int .u8 (hexd (m % 16)).toNat) cx 0 rfl rfl rfl rfl (congrArg (Value.int .u8) (dig_and (by omega))) rfl rfl rfl sz5 ?_; intro w cx hwS13
    refine wpList_nil ?_
    refine wp_region_lit ?_
    refine s_val rfl rfl (v_move rfl hs1) ?_
    refine s_val rfl rfl (v_move rfl hs14) ?_
    refine s_val rfl rfl (v_shr rfl rfl rfl (by decide)) ?_
    refine s_val rfl rfl (v_assign rfl rfl) ?_
    refine wpList_nil ?_
    refine ⟨0, _, by omega, rfl, m / 16, _, .inr ⟨rfl, rfl, rfl⟩, congrArg (Value.int .u64) (shr4u (by omega)), rfl, ⟨_, hs12, cx⟩, hs15, hs16, hs14, hs3, hs4, hs10⟩
  · skip
    try simp only [Bool.and_eq_true, Bool.or_eq_true, Bool.and_eq_false_iff, Bool.or_eq_false_iff, Bool.not_eq_true', Bool.not_eq_false', decide_eq_true_eq, decide_eq_false_iff_not, beq_iff_eq, beq_eq_false_iff_ne, bne_iff_ne, bne_eq_false_iff_eq, ne_eq, Classical.not_not] at hc46
    rcases hcase with ⟨rfl, rfl, rfl⟩ | ⟨rfl, rfl, rfl⟩
    case inl => exfalso; omega
    refine wp_exit ?_
    refine wp_seq ?_
    refine wp_region_lit ?_
    refine s_val rfl rfl (v_move rfl hs13) ?_
    refine s_val rfl rfl (v_sub rfl rfl rfl (by omega) (by omega)) ?_
    refine s_val rfl rfl (v_assign rfl rfl) ?_
    refine wpList_nil ?_
    refine wp_region_lit ?_
    refine s_val rfl rfl (v_move rfl rfl) ?_
    refine s_val rfl rfl (v_move rfl hs1) ?_
    refine s_val rfl rfl (v_idxStr rfl rfl rfl Tryz.underlying9 (by omega) (by show _ < (36 : Int); omega)) ?_
    refine s_val rfl rfl (v_iaA Tryz.underlying257 szA rfl hs12 rfl (by decide) (by decide)) ?_
    refine s_store1 (v := .int .u8 (hexd (m / 16)).toNat) cx 0 rfl rfl rfl rfl (congrArg (Value.int .u8) (digs (by omega))) rfl rfl rfl sz5 ?_; intro w cx hwS16
    refine wpList_nil ?_
    refine wp_seq ?_
    refine wp_seq ?_
    refine wp_region_lit ?_
    refine s_val rfl rfl (v_move rfl hs3) ?_
    refine wpList_nil ?_
    refine wp_cond_false (show (St _ _).eval _ = _ by rw [eval_St]; rfl) ?_
    refine wp_skip ?_
    refine wp_seq ?_
    refine wp_seq ?_
    refine wp_region_lit ?_
    refine s_val rfl rfl (v_move rfl hs4) ?_
    refine wpList_nil ?_
    refine wp_cond_false (show (St _ _).eval _ = _ by rw [eval_St]; rfl) ?_
    refine wp_skip ?_
    refine wp_seq ?_
    refine wp_region_lit ?_
    refine s_val rfl rfl (v_move rfl rfl) ?_
    refine s_val rfl rfl (v_slA rfl hs12 rfl Tryz.underlying257 szA (by decide) (by decide)) ?_
    refine s_val rfl rfl (v_b2s rfl Tryz.underlying49 Tryz.underlying5 Tryz.underlying9 (ns := [((hexd (m / 16)).toNat : Int), ((hexd (m % 16)).toNat : Int)]) ((cx.row 0 rfl).sub 63 rfl) rfl rfl) ?_
    refine s_val rfl rfl (v_assign rfl rfl) ?_
    refine wpList_nil ?_
    refine wp_ret ?_
    refine ret_tmp2 Tryz.results135 hs10 rfl ?_
    refine ⟨cx.ext, _, congrArg (fun z => Value.tuple #[_, Value.string z]) ?_⟩
    rw [strOf_ab]
    unfold hexs
    rw [if_neg (by omega)]
theorem c135 (m : Nat) (w0 : World) (hm2 : m < 256) (ht : Tabs w0) : Fc Tryz.prog 135 [.slice none 0 0, .int .u64 m, .int .i64 16, .bool false, .bool false] w0 (fun v _ => ∃ x, v = .tuple #[x, .string (bs (hexs m))]) := by
  by_cases h : m < 16
  · exact c135a m w0 h ht
  · exact c135b m w0 (by omega) hm2 ht
theorem wrap64 {m : Nat} (h : m < 256) : IntKind.u64.wrap (m : Int) = (m : Int) := by simp [IntKind.wrap, IntKind.signed, IntKind.bits]; omega
set_option maxHeartbeats 4000000 in
set_option maxRecDepth 10000 in
theorem c87 (m : Nat) (w0 : World) (hm : m < 256) (ht : Tabs w0) : Fc Tryz.prog 87 [.int .i64 m, .int .i64 16] w0 (fun v _ => v = .string (bs (hexs m))) := by
  refine ret_enter Tryz.func87 rfl Tryz.ntmps87 rfl ?_
  have cx := Ctx.start w0
  refine wp_seq ?_
  refine wp_region_lit ?_
  refine s_val rfl rfl (v_assign rfl rfl) ?_
  refine wpList_nil ?_
  refine wp_seq ?_
  refine wp_seq ?_
  refine wp_region_lit ?_
  refine s_val rfl rfl (v_move rfl rfl) ?_
  refine s_val rfl rfl (v_cmp rfl rfl rfl rfl) ?_
  refine wpList_nil ?_
  refine wp_cond_false (show (St _ _).eval _ = _ by rw [eval_St]; rfl) ?_
  refine wp_skip ?_
  refine wp_seq ?_
  refine wp_region_lit ?_
  refine s_val rfl rfl (v_move rfl rfl) ?_
  refine s_val rfl rfl (v_cw64 rfl rfl Tryz.underlying2 Tryz.underlying218 hm) ?_
  refine s_val rfl rfl (v_move rfl rfl) ?_
  refine s_val rfl rfl (v_move rfl rfl) ?_
  refine s_val rfl rfl (v_cmpF rfl rfl rfl (by omega)) ?_
  refine s_fn cx (c135 _ _ hm (ht.up cx.ext)) Tryz.func135 rfl rfl rfl rfl rfl rfl ?_; intro q50 w cx hw50 hp50
  obtain ⟨ex50, rfl⟩ := hp50
  refine s_val rfl rfl (v_move rfl rfl) ?_
  refine s_val rfl rfl (v_extract rfl rfl rfl) ?_
  refine s_val rfl rfl (v_extract rfl rfl rfl) ?_
  refine s_val rfl rfl (v_assign rfl rfl) ?_
  refine s_val rfl rfl (v_assign rfl rfl) ?_
  refine wpList_nil ?_
  refine wp_seq ?_
  refine wp_region_lit ?_
  refine s_val rfl rfl (v_move rfl rfl) ?_
  refine s_val rfl rfl (v_assign rfl rfl) ?_
  refine wpList_nil ?_
  refine wp_ret ?_
  refine ret_tmp Tryz.results87 rfl ?_
  exact ⟨cx.ext, rfl⟩
set_option maxHeartbeats 4000000 in
set_option maxRecDepth 10000 in
theorem c49n (m : Nat) (w0 : World) (hm : m < 256) (ht : Tabs w0) : Fc Tryz.prog 49 [.int .i64 m, .int .i64 16] w0 (fun v _ => v = .string (bs (hexs m))) := by
  refine ret_enter Tryz.func49 rfl Tryz.ntmps49 rfl ?_
  have cx := Ctx.start w0
  refine wp_seq ?_
  refine wp_region_lit ?_
  refine s_val rfl rfl (v_assign rfl rfl) ?_
  refine wpList_nil ?_
  refine wp_seq ?_
  refine wp_region_lit ?_
  refine s_val rfl rfl (v_move rfl rfl) ?_
  refine s_val rfl rfl (v_move rfl rfl) ?_
  refine s_fn cx (c87 _ _ hm (ht.up cx.ext)) Tryz.func87 rfl rfl rfl rfl rfl rfl ?_; intro q7 w cx hw7 hp7
  subst hp7
  refine s_val rfl rfl (v_assign rfl rfl) ?_
  refine wpList_nil ?_
  refine wp_ret ?_
  refine ret_tmp Tryz.results49 rfl ?_
  exact ⟨cx.ext, rfl⟩
theorem c49 (m : Int) (w0 : World) (ht : Tabs w0) (h0 : 0 ≤ m) (hm : m < 256) : Fc Tryz.prog 49 [.int .i64 m, .int .i64 16] w0 (fun v _ => v = .string (bs (hexs m.toNat))) := by
  have h := c49n m.toNat w0 (by omega) ht
  rw [show ((m.toNat : Nat) : Int) = m by omega] at h
  exact h
end Go.Proofs.YthlkmblljanfmaaGreatDoor
end
section
set_option linter.unusedSimpArgs false
set_option linter.unusedVariables false
namespace Go.Proofs.YthlkmblljanfmaaGreatDoor
open Go Go.Dk Go.RowKit Go.Lib
attribute [local irreducible] Go.wpList Go.Code.wp Go.bodyPost Go.wpStill
set_option maxRecDepth 10000 in
theorem c26 (s : ByteArray) (w0 : World) (hs : s.size ≤ 1073741824) : Fc Tryz.prog 26 [.string s] w0 (fun u _ => u = .int .i64 (folN s)) := by
  refine ret_enter Tryz.func26 rfl Tryz.ntmps26 rfl ?_
  have cx := Ctx.start w0
  refine wp_seq ?_
  refine wp_region_lit ?_
  refine s_val rfl rfl (v_assign rfl rfl) ?_
  refine wpList_nil ?_
  refine wp_seq ?_
  refine wp_region_lit ?_
  refine s_val rfl rfl (v_assign rfl rfl) ?_
  refine wpList_nil ?_
  refine wp_seq ?_
  refine wp_block ?_
  refine w_loop (fun k f w1 => ∃ i : Nat, k + i = s.size ∧ f 0 = .string s ∧ f 3 = .int .i64 i ∧ (∀ j : Nat, j < i → okN s j) ∧ Ctx w0 w1 []) (s.size) ?_ ?_
  · skip
    exact ⟨0, by omega, rfl, rfl, fun j h => by omega, cx⟩
  intro gk2 f w hJ
  obtain ⟨i, hk, hs0, hs3, hall, cx⟩ := hJ
  refine wp_seq ?_
  refine wp_seq ?_
  refine wp_region_lit ?_
  refine s_val rfl rfl (v_move rfl hs3) ?_
  refine s_val rfl rfl (v_move rfl hs0) ?_
  refine s_val rfl rfl (v_lenString rfl rfl Tryz.underlying9) ?_
  refine s_val rfl rfl (v_cmp rfl rfl rfl rfl) ?_
  refine s_val rfl rfl (v_move rfl rfl) ?_
  refine s_gval rfl rfl rfl (by first | exact w_tt rfl | exact w_gt rfl) (fun hc => v_move rfl hs0) ?_
  refine s_gval rfl rfl rfl (by first | exact w_tt rfl | exact w_gt rfl) (fun hc => v_move rfl hs3) ?_
  refine s_gval rfl rfl rfl (by first | exact w_tt rfl | exact w_gt rfl) (fun hc => v_idxStr rfl (by first | exact gve hc rfl | exact gve (and_l hc) rfl | exact gve (and_l (and_l hc)) rfl | rfl) (by first | exact gve hc rfl | exact gve (and_l hc) rfl | exact gve (and_l (and_l hc)) rfl | rfl) Tryz.underlying9 (by first | omega | (simp only [Bool.and_eq_true, Bool.or_eq_true, Bool.and_eq_false_iff, Bool.or_eq_false_iff, Bool.not_eq_true', Bool.not_eq_false', decide_eq_true_eq, decide_eq_false_iff_not, beq_iff_eq, beq_eq_false_iff_ne, bne_iff_ne, bne_eq_false_iff_eq, ne_eq, Classical.not_not] at hc; omega)) (by first | omega | (simp only [Bool.and_eq_true, Bool.or_eq_true, Bool.and_eq_false_iff, Bool.or_eq_false_iff, Bool.not_eq_true', Bool.not_eq_false', decide_eq_true_eq, decide_eq_false_iff_not, beq_iff_eq, beq_eq_false_iff_ne, bne_iff_ne, bne_eq_false_iff_eq, ne_eq, Classical.not_not] at hc; omega))) ?_
  refine s_gval rfl rfl rfl (by first | exact w_tt rfl | exact w_gt rfl) (fun hc => v_cmp rfl (by first | exact gve hc rfl | exact gve (and_l hc) rfl | exact gve (and_l (and_l hc)) rfl | rfl) rfl rfl) ?_
  refine s_gval rfl rfl rfl (by first | exact w_tt rfl | exact w_gt rfl) (fun hc => v_move rfl (by first | exact gve hc rfl | exact gve (and_l hc) rfl | exact gve (and_l (and_l hc)) rfl | rfl)) ?_
  refine s_gval rfl rfl rfl (by first | exact w_tt rfl | exact w_gt rfl) (fun hc => v_move rfl hs0) ?_
  refine s_gval rfl rfl rfl (by first | exact w_tt rfl | exact w_gt rfl) (fun hc => v_move rfl hs3) ?_
  refine s_gval rfl rfl rfl (by first | exact w_tt rfl | exact w_gt rfl) (fun hc => v_idxStr rfl (by first | exact gve hc rfl | exact gve (and_l hc) rfl | exact gve (and_l (and_l hc)) rfl | rfl) (by first | exact gve hc rfl | exact gve (and_l hc) rfl | exact gve (and_l (and_l hc)) rfl | rfl) Tryz.underlying9 (by first | omega | (simp only [Bool.and_eq_true, Bool.or_eq_true, Bool.and_eq_false_iff, Bool.or_eq_false_iff, Bool.not_eq_true', Bool.not_eq_false', decide_eq_true_eq, decide_eq_false_iff_not, beq_iff_eq, beq_eq_false_iff_ne, bne_iff_ne, bne_eq_false_iff_eq, ne_eq, Classical.not_not] at hc; omega)) (by first | omega | (simp only [Bool.and_eq_true, Bool.or_eq_true, Bool.and_eq_false_iff, Bool.or_eq_false_iff, Bool.not_eq_true', Bool.not_eq_false', decide_eq_true_eq, decide_eq_false_iff_not, beq_iff_eq, beq_eq_false_iff_ne, bne_iff_ne, bne_eq_false_iff_eq, ne_eq, Classical.not_not] at hc; omega))) ?_
  refine s_gval rfl rfl rfl (by first | exact w_tt rfl | exact w_gt rfl) (fun hc => v_cmp rfl (by first | exact gve hc rfl | exact gve (and_l hc) rfl | exact gve (and_l (and_l hc)) rfl | rfl) rfl rfl) ?_
  refine s_gval rfl rfl rfl (by first | exact w_tt rfl | exact w_gt rfl) (fun hc => v_and_g hc rfl rfl rfl rfl) ?_
  refine s_gval rfl rfl rfl (by first | exact w_tt rfl | exact w_gt rfl) (fun hc => v_move rfl (by first | exact gve hc rfl | exact gve (and_l hc) rfl | exact gve (and_l (and_l hc)) rfl | rfl)) ?_
  refine s_gval rfl rfl rfl (by first | exact w_ff rfl | exact w_gf rfl) (fun hc => v_move rfl hs0) ?_
  refine s_gval rfl rfl rfl (by first | exact w_ff rfl | exact w_gf rfl) (fun hc => v_move rfl hs3) ?_
  refine s_gval rfl rfl rfl (by first | exact w_ff rfl | exact w_gf rfl) (fun hc => v_idxStr rfl (by first | exact gve hc rfl | exact gve (and_l hc) rfl | exact gve (and_l (and_l hc)) rfl | rfl) (by first | exact gve hc rfl | exact gve (and_l hc) rfl | exact gve (and_l (and_l hc)) rfl | rfl) Tryz.underlying9 (by first | omega | (simp only [Bool.and_eq_true, Bool.or_eq_true, Bool.and_eq_false_iff, Bool.or_eq_false_iff, Bool.not_eq_true', Bool.not_eq_false', decide_eq_true_eq, decide_eq_false_iff_not, beq_iff_eq, beq_eq_false_iff_ne, bne_iff_ne, bne_eq_false_iff_eq, ne_eq, Classical.not_not] at hc; omega)) (by first | omega | (simp only [Bool.and_eq_true, Bool.or_eq_true, Bool.and_eq_false_iff, Bool.or_eq_false_iff, Bool.not_eq_true', Bool.not_eq_false', decide_eq_true_eq, decide_eq_false_iff_not, beq_iff_eq, beq_eq_false_iff_ne, bne_iff_ne, bne_eq_false_iff_eq, ne_eq, Classical.not_not] at hc; omega))) ?_
  refine s_gval rfl rfl rfl (by first | exact w_ff rfl | exact w_gf rfl) (fun hc => v_cmp rfl (by first | exact gve hc rfl | exact gve (and_l hc) rfl | exact gve (and_l (and_l hc)) rfl | rfl) rfl rfl) ?_
  refine s_gval rfl rfl rfl (by first | exact w_ff rfl | exact w_gf rfl) (fun hc => v_move rfl (by first | exact gve hc rfl | exact gve (and_l hc) rfl | exact gve (and_l (and_l hc)) rfl | rfl)) ?_
  refine s_gval rfl rfl rfl (by first | exact w_tt rfl | exact w_gt rfl) (fun hc => v_move rfl hs0) ?_
  refine s_gval rfl rfl rfl (by first | exact w_tt rfl | exact w_gt rfl) (fun hc => v_move rfl hs3) ?_
  refine s_gval rfl rfl rfl (by first | exact w_tt rfl | exact w_gt rfl) (fun hc => v_idxStr rfl (by first | exact gve hc rfl | exact gve (and_l hc) rfl | exact gve (and_l (and_l hc)) rfl | rfl) (by first | exact gve hc rfl | exact gve (and_l hc) rfl | exact gve (and_l (and_l hc)) rfl | rfl) Tryz.underlying9 (by first | omega | (simp only [Bool.and_eq_true, Bool.or_eq_true, Bool.and_eq_false_iff, Bool.or_eq_false_iff, Bool.not_eq_true', Bool.not_eq_false', decide_eq_true_eq, decide_eq_false_iff_not, beq_iff_eq, beq_eq_false_iff_ne, bne_iff_ne, bne_eq_false_iff_eq, ne_eq, Classical.not_not] at hc; omega)) (by first | omega | (simp only [Bool.and_eq_true, Bool.or_eq_true, Bool.and_eq_false_iff, Bool.or_eq_false_iff, Bool.not_eq_true', Bool.not_eq_false', decide_eq_true_eq, decide_eq_false_iff_not, beq_iff_eq, beq_eq_false_iff_ne, bne_iff_ne, bne_eq_false_iff_eq, ne_eq, Classical.not_not] at hc; omega))) ?_
  refine s_gval rfl rfl rfl (by first | exact w_tt rfl | exact w_gt rfl) (fun hc => v_cmp rfl (by first | exact gve hc rfl | exact gve (and_l hc) rfl | exact gve (and_l (and_l hc)) rfl | rfl) rfl rfl) ?_
  refine s_gval rfl rfl rfl (by first | exact w_ff rfl | exact w_gf rfl) (fun hc => v_and_g hc rfl rfl rfl rfl) ?_
  refine s_gval rfl rfl rfl (by first | exact w_tt rfl | exact w_gt rfl) (fun hc => v_or_g hc rfl rfl rfl rfl) ?_
  refine s_gval rfl rfl rfl (by first | exact w_tt rfl | exact w_gt rfl) (fun hc => v_move rfl (by first | exact gve hc rfl | exact gve (and_l hc) rfl | exact gve (and_l (and_l hc)) rfl | rfl)) ?_
  refine s_gval rfl rfl rfl (by first | exact w_ff rfl | exact w_gf rfl) (fun hc => v_move rfl hs0) ?_
  refine s_gval rfl rfl rfl (by first | exact w_ff rfl | exact w_gf rfl) (fun hc => v_move rfl hs3) ?_
  refine s_gval rfl rfl rfl (by first | exact w_ff rfl | exact w_gf rfl) (fun hc => v_idxStr rfl (by first | exact gve hc rfl | exact gve (and_l hc) rfl | exact gve (and_l (and_l hc)) rfl | rfl) (by first | exact gve hc rfl | exact gve (and_l hc) rfl | exact gve (and_l (and_l hc)) rfl | rfl) Tryz.underlying9 (by first | omega | (simp only [Bool.and_eq_true, Bool.or_eq_true, Bool.and_eq_false_iff, Bool.or_eq_false_iff, Bool.not_eq_true', Bool.not_eq_false', decide_eq_true_eq, decide_eq_false_iff_not, beq_iff_eq, beq_eq_false_iff_ne, bne_iff_ne, bne_eq_false_iff_eq, ne_eq, Classical.not_not] at hc; omega)) (by first | omega | (simp only [Bool.and_eq_true, Bool.or_eq_true, Bool.and_eq_false_iff, Bool.or_eq_false_iff, Bool.not_eq_true', Bool.not_eq_false', decide_eq_true_eq, decide_eq_false_iff_not, beq_iff_eq, beq_eq_false_iff_ne, bne_iff_ne, bne_eq_false_iff_eq, ne_eq, Classical.not_not] at hc; omega))) ?_
  refine s_gval rfl rfl rfl (by first | exact w_ff rfl | exact w_gf rfl) (fun hc => v_cmp rfl (by first | exact gve hc rfl | exact gve (and_l hc) rfl | exact gve (and_l (and_l hc)) rfl | rfl) rfl rfl) ?_
  refine s_gval rfl rfl rfl (by first | exact w_tt rfl | exact w_gt rfl) (fun hc => v_or_g hc rfl rfl rfl rfl) ?_
  refine s_gval rfl rfl rfl (by first | exact w_tt rfl | exact w_gt rfl) (fun hc => v_move rfl (by first | exact gve hc rfl | exact gve (and_l hc) rfl | exact gve (and_l (and_l hc)) rfl | rfl)) ?_
  refine s_gval rfl rfl rfl (by first | exact w_ff rfl | exact w_gf rfl) (fun hc => v_move rfl hs3) ?_
  refine s_gval rfl rfl rfl (by first | exact w_ff rfl | exact w_gf rfl) (fun hc => v_cmp rfl (by first | exact gve hc rfl | exact gve (and_l hc) rfl | exact gve (and_l (and_l hc)) rfl | rfl) rfl rfl) ?_
  refine s_gval rfl rfl rfl (by first | exact w_ff rfl | exact w_gf rfl) (fun hc => v_move rfl (by first | exact gve hc rfl | exact gve (and_l hc) rfl | exact gve (and_l (and_l hc)) rfl | rfl)) ?_
  refine s_gval rfl rfl rfl (by first | exact w_tt rfl | exact w_gt rfl) (fun hc => v_move rfl hs0) ?_
  refine s_gval rfl rfl rfl (by first | exact w_tt rfl | exact w_gt rfl) (fun hc => v_move rfl hs3) ?_
  refine s_gval rfl rfl rfl (by first | exact w_tt rfl | exact w_gt rfl) (fun hc => v_idxStr rfl (by first | exact gve hc rfl | exact gve (and_l hc) rfl | exact gve (and_l (and_l hc)) rfl | rfl) (by first | exact gve hc rfl | exact gve (and_l hc) rfl | exact gve (and_l (and_l hc)) rfl | rfl) Tryz.underlying9 (by first | omega | (simp only [Bool.and_eq_true, Bool.or_eq_true, Bool.and_eq_false_iff, Bool.or_eq_false_iff, Bool.not_eq_true', Bool.not_eq_false', decide_eq_true_eq, decide_eq_false_iff_not, beq_iff_eq, beq_eq_false_iff_ne, bne_iff_ne, bne_eq_false_iff_eq, ne_eq, Classical.not_not] at hc; omega)) (by first | omega | (simp only [Bool.and_eq_true, Bool.or_eq_true, Bool.and_eq_false_iff, Bool.or_eq_false_iff, Bool.not_eq_true', Bool.not_eq_false', decide_eq_true_eq, decide_eq_false_iff_not, beq_iff_eq, beq_eq_false_iff_ne, bne_iff_ne, bne_eq_false_iff_eq, ne_eq, Classical.not_not] at hc; omega))) ?_
  refine s_gval rfl rfl rfl (by first | exact w_tt rfl | exact w_gt rfl) (fun hc => v_cmp rfl (by first | exact gve hc rfl | exact gve (and_l hc) rfl | exact gve (and_l (and_l hc)) rfl | rfl) rfl rfl) ?_
  refine s_gval rfl rfl rfl (by first | exact w_ff rfl | exact w_gf rfl) (fun hc => v_and_g hc rfl rfl rfl rfl) ?_
  refine s_gval rfl rfl rfl (by first | exact w_ff rfl | exact w_gf rfl) (fun hc => v_move rfl (by first | exact gve hc rfl | exact gve (and_l hc) rfl | exact gve (and_l (and_l hc)) rfl | rfl)) ?_
  refine s_gval rfl rfl rfl (by first | exact w_tt rfl | exact w_gt rfl) (fun hc => v_move rfl hs0) ?_
  refine s_gval rfl rfl rfl (by first | exact w_tt rfl | exact w_gt rfl) (fun hc => v_move rfl hs3) ?_
  refine s_gval rfl rfl rfl (by first | exact w_tt rfl | exact w_gt rfl) (fun hc => v_idxStr rfl (by first | exact gve hc rfl | exact gve (and_l hc) rfl | exact gve (and_l (and_l hc)) rfl | rfl) (by first | exact gve hc rfl | exact gve (and_l hc) rfl | exact gve (and_l (and_l hc)) rfl | rfl) Tryz.underlying9 (by first | omega | (simp only [Bool.and_eq_true, Bool.or_eq_true, Bool.and_eq_false_iff, Bool.or_eq_false_iff, Bool.not_eq_true', Bool.not_eq_false', decide_eq_true_eq, decide_eq_false_iff_not, beq_iff_eq, beq_eq_false_iff_ne, bne_iff_ne, bne_eq_false_iff_eq, ne_eq, Classical.not_not] at hc; omega)) (by first | omega | (simp only [Bool.and_eq_true, Bool.or_eq_true, Bool.and_eq_false_iff, Bool.or_eq_false_iff, Bool.not_eq_true', Bool.not_eq_false', decide_eq_true_eq, decide_eq_false_iff_not, beq_iff_eq, beq_eq_false_iff_ne, bne_iff_ne, bne_eq_false_iff_eq, ne_eq, Classical.not_not] at hc; omega))) ?_
  refine s_gval rfl rfl rfl (by first | exact w_tt rfl | exact w_gt rfl) (fun hc => v_cmp rfl (by first | exact gve hc rfl | exact gve (and_l hc) rfl | exact gve (and_l (and_l hc)) rfl | rfl) rfl rfl) ?_
  refine s_gval rfl rfl rfl (by first | exact w_ff rfl | exact w_gf rfl) (fun hc => v_and_g hc rfl rfl rfl rfl) ?_
  refine s_gval rfl rfl rfl (by first | exact w_tt rfl | exact w_gt rfl) (fun hc => v_or_g hc rfl rfl rfl rfl) ?_
  refine s_val rfl rfl (v_and rfl rfl rfl rfl) ?_
  refine wpList_nil ?_
  refine c_split rfl (fun hc53 => ?_) (fun hc53 => ?_)
  · skip
    try simp only [Bool.and_eq_true, Bool.or_eq_true, Bool.and_eq_false_iff, Bool.or_eq_false_iff, Bool.not_eq_true', Bool.not_eq_false', decide_eq_true_eq, decide_eq_false_iff_not, beq_iff_eq, beq_eq_false_iff_ne, bne_iff_ne, bne_eq_false_iff_eq, ne_eq, Classical.not_not] at hc53
    refine wp_skip ?_
    refine wp_block ?_
    refine wp_region_lit ?_
    refine s_val rfl rfl (v_move rfl hs3) ?_
    refine s_val rfl rfl (v_add rfl rfl rfl (by omega) (by omega)) ?_
    refine s_val rfl rfl (v_assign rfl rfl) ?_
    refine wpList_nil ?_
    refine ⟨gk2 - 1, _, by omega, rfl, i + 1, by omega, hs0, rfl, fun j hj => ?_, cx⟩
    rcases Nat.lt_or_ge j i with h | h
    · exact hall j h
    · obtain rfl : j = i := by omega
      unfold okN lowc digc
      omega
  · skip
    try simp only [Bool.and_eq_true, Bool.or_eq_true, Bool.and_eq_false_iff, Bool.or_eq_false_iff, Bool.not_eq_true', Bool.not_eq_false', decide_eq_true_eq, decide_eq_false_iff_not, beq_iff_eq, beq_eq_false_iff_ne, bne_iff_ne, bne_eq_false_iff_eq, ne_eq, Classical.not_not] at hc53
    refine wp_exit ?_
    refine wp_seq ?_
    refine wp_region_lit ?_
    refine s_val rfl rfl (v_move rfl hs3) ?_
    refine s_val rfl rfl (v_assign rfl rfl) ?_
    refine wpList_nil ?_
    refine wp_ret ?_
    refine ret_tmp Tryz.results26 rfl ?_
    have hf : folP s i := by
      refine ⟨by omega, hall, fun hlt h1 => ?_⟩
      unfold okN lowc digc at h1
      have hlt' : (i : Int) < (s.size : Int) := by omega
      simp only [hlt', not_true_eq_false, false_or] at hc53
      omega
    exact ⟨cx.ext, congrArg (fun z : Nat => Value.int .i64 (z : Int)) (folN_eq hf).symm⟩
set_option maxRecDepth 10000 in
theorem c27 (s : ByteArray) (w0 : World) (hs : s.size ≤ 1073741824) (ht : Tabs w0) : Fc Tryz.prog 27 [.string s] w0 (fun v _ => v = .string (bs ([34] ++ qtd s.data.toList ++ [34]))) := by
  refine ret_enter Tryz.func27 rfl Tryz.ntmps27 rfl ?_
  have cx := Ctx.start w0
  refine wp_seq ?_
  refine wp_region_lit ?_
  refine s_val rfl rfl (v_assign rfl rfl) ?_
  refine wpList_nil ?_
  refine wp_seq ?_
  refine wp_region_lit ?_
  refine s_bsl1 cx Tryz.underlying49 sz5 z5 rfl rfl rfl rfl rfl rfl rfl rfl ?_; intro b6 w cx hb6 hw6
  replace cx := Cxr.toRow (size := 1) (k := 1) cx rfl (by decide)
  refine s_val rfl rfl (v_assign rfl rfl) ?_
  refine wpList_nil ?_
  refine wp_seq ?_
  refine wp_seq ?_
  refine wp_region_lit ?_
  refine s_val rfl rfl (v_move rfl rfl) ?_
  refine s_val rfl rfl (v_lenString rfl rfl Tryz.underlying9) ?_
  refine s_val rfl rfl (v_move rfl rfl) ?_
  refine wpList_nil ?_
  refine wp_block ?_
  refine w_loop (fun k f w1 => ∃ (i : Nat) (v : Value), k + i = s.size ∧ f 0 = .string s ∧ f 8 = .int .i64 s.size ∧ f 9 = .int .i64 i ∧ f 3 = v ∧ Cxr w0 w1 [] [⟨5, 1, v, 1 + (qtd (s.data.toList.take i)).length, (34 :: qtd (s.data.toList.take i)).map bv⟩]) (s.size) ?_ ?_
  · skip
    exact ⟨0, _, by omega, rfl, rfl, rfl, rfl, cx.row_eq rfl rfl⟩
  intro gk3 f w hJ
  obtain ⟨i, v, hk, hs0, hs8, hs9, hs3, cx⟩ := hJ
  have hlq := qtd_len (s.data.toList.take i)
  have hlt := List.length_take_le i s.data.toList
  have hls : s.data.toList.length = s.size := by simp
  obtain ⟨c, hcc⟩ : ∃ c, s.data.toList.getD i 0 = c := ⟨_, rfl⟩
  have hbc : byteAt s (i : Int) = (c.toNat : Int) := by unfold byteAt; rw [Int.toNat_natCast, hcc]
  have hlx := hexs_len (byteAt s (i : Int)).toNat
  have hlx2 := hexs_len c.toNat
  refine wp_seq ?_
  refine wp_region_lit ?_
  refine s_val rfl rfl (v_cmp rfl hs9 hs8 rfl) ?_
  refine wpList_nil ?_
  refine wp_seq ?_
  refine c_split rfl (fun hc10 => ?_) (fun hc10 => ?_)
  · skip
    try simp only [Bool.and_eq_true, Bool.or_eq_true, Bool.and_eq_false_iff, Bool.or_eq_false_iff, Bool.not_eq_true', Bool.not_eq_false', decide_eq_true_eq, decide_eq_false_iff_not, beq_iff_eq, beq_eq_false_iff_ne, bne_iff_ne, bne_eq_false_iff_eq, ne_eq, Classical.not_not] at hc10
    refine wp_skip ?_
    refine wp_seq ?_
    refine wp_block ?_
    refine wp_seq ?_
    refine wp_region_lit ?_
    refine s_val rfl rfl (v_move rfl hs9) ?_
    refine s_val rfl rfl (v_assign rfl rfl) ?_
    refine wpList_nil ?_
    refine wp_seq ?_
    refine wp_region_lit ?_
    refine s_val rfl rfl (v_move rfl hs0) ?_
    refine s_val rfl rfl (v_move rfl rfl) ?_
    refine s_val rfl rfl (v_idxStr rfl rfl rfl Tryz.underlying9 (by omega) (by omega)) ?_
    refine s_val rfl rfl (v_assign rfl rfl) ?_
    refine wpList_nil ?_
    refine wp_block ?_
    refine wp_seq ?_
    refine wp_region_lit ?_
    refine s_val rfl rfl (v_move rfl rfl) ?_
    refine s_val rfl rfl (v_cmp rfl rfl rfl rfl) ?_
    refine s_val rfl rfl (v_move rfl rfl) ?_
    refine s_gval rfl rfl rfl (by first | exact w_ff rfl | exact w_gf rfl) (fun hc => v_move rfl (by first | exact gve hc rfl | exact gve (and_l hc) rfl | exact gve (and_l (and_l hc)) rfl | rfl)) ?_
    refine s_gval rfl rfl rfl (by first | exact w_ff rfl | exact w_gf rfl) (fun hc => v_cmp rfl (by first | exact gve hc rfl | exact gve (and_l hc) rfl | exact gve (and_l (and_l hc)) rfl | rfl) rfl rfl) ?_
    refine s_val rfl rfl (v_or rfl rfl rfl rfl) ?_
    refine s_val rfl rfl (v_assign rfl rfl) ?_
    refine wpList_nil ?_
    refine c_split rfl (fun hc19 => ?_) (fun hc19 => ?_)
    · skip
      simp only [Bool.or_eq_true, decide_eq_true_eq, beq_iff_eq] at hc19
      refine wp_region_lit ?_
      refine s_val rfl rfl (v_move rfl hs3) ?_
      refine s_val rfl rfl (v_move rfl rfl) ?_
      refine s_bsl2 cx Tryz.underlying49 sz5 z5 rfl rfl rfl rfl rfl rfl rfl ?_; intro b28 w cx hb28 hw28
      refine s_append cx ei5 Tryz.underlying49 rfl rfl rfl rfl rfl (cx.row 0 rfl) rfl rfl (by omega) ?_; intro v29 w cx hgr29
      replace cx := cx.drop 1
      refine s_val rfl rfl (v_assign rfl rfl) ?_
      refine wpList_nil ?_
      refine wp_region_lit ?_
      refine s_val rfl rfl (v_add rfl hs9 rfl (by omega) (by omega)) ?_
      refine s_val rfl rfl (v_move rfl rfl) ?_
      refine wpList_nil ?_
      have hsg := sgn_a (c := c) (by rw [hbc] at hc19; omega)
      have hq := qtd_take s i (by omega)
      rw [hcc, hsg] at hq
      refine ⟨gk3 - 1, _, by omega, rfl, i + 1, _, by omega, hs0, hs8, rfl, rfl, row_next cx hq ?_ ?_⟩
      · simp only [List.length_append, List.length_cons, List.length_nil, hbc, Int.toNat_natCast] <;> omega
      · exact congrArg (fun z => (34 :: qtd (s.data.toList.take i)).map bv ++ z) (show [Value.int .u8 92, Value.int .u8 (byteAt s (i : Int))] = _ by rw [hbc]; rfl)
    · skip
      simp only [Bool.or_eq_false_iff, decide_eq_false_iff_not, beq_eq_false_iff_ne] at hc19
      refine wp_seq ?_
      refine wp_region_lit ?_
      refine s_val rfl rfl (v_move rfl rfl) ?_
      refine s_val rfl rfl (v_cmp rfl rfl rfl rfl) ?_
      refine s_val rfl rfl (v_assign rfl rfl) ?_
      refine wpList_nil ?_
      refine c_split rfl (fun hc30 => ?_) (fun hc30 => ?_)
      · skip
        simp only [Bool.or_eq_true, decide_eq_true_eq, beq_iff_eq] at hc30
        refine wp_region_lit ?_
        refine s_val rfl rfl (v_move rfl hs3) ?_
        refine s_appendB cx ei8 Tryz.underlying49 Tryz.underlying9 rfl rfl rfl rfl rfl (by simp only [List.length_append, List.length_cons, List.length_nil]; omega) ?_; intro v34 w cx hgr34
        refine s_val rfl rfl (v_assign rfl rfl) ?_
        refine wpList_nil ?_
        refine wp_region_lit ?_
        refine s_val rfl rfl (v_add rfl hs9 rfl (by omega) (by omega)) ?_
        refine s_val rfl rfl (v_move rfl rfl) ?_
        refine wpList_nil ?_
        have hsg := sgn_10 (c := c) (by rw [hbc] at hc30; omega)
        have hq := qtd_take s i (by omega)
        rw [hcc, hsg] at hq
        refine ⟨gk3 - 1, _, by omega, rfl, i + 1, _, by omega, hs0, hs8, rfl, rfl, row_next cx hq ?_ ?_⟩
        · simp only [List.length_append, List.length_cons, List.length_nil, hbc, Int.toNat_natCast] <;> omega
        · exact congrArg (fun z => (34 :: qtd (s.data.toList.take i)).map bv ++ z) (rfl)
      · skip
        simp only [Bool.or_eq_false_iff, decide_eq_false_iff_not, beq_eq_false_iff_ne] at hc30
        refine wp_seq ?_
        refine wp_region_lit ?_
        refine s_val rfl rfl (v_move rfl rfl) ?_
        refine s_val rfl rfl (v_cmp rfl rfl rfl rfl) ?_
        refine s_val rfl rfl (v_assign rfl rfl) ?_
        refine wpList_nil ?_
        refine c_split rfl (fun hc35 => ?_) (fun hc35 => ?_)
        · skip
          simp only [Bool.or_eq_true, decide_eq_true_eq, beq_iff_eq] at hc35
          refine wp_region_lit ?_
          refine s_val rfl rfl (v_move rfl hs3) ?_
          refine s_appendB cx ei8 Tryz.underlying49 Tryz.underlying9 rfl rfl rfl rfl rfl (by simp only [List.length_append, List.length_cons, List.length_nil]; omega) ?_; intro v39 w cx hgr39
          refine s_val rfl rfl (v_assign rfl rfl) ?_
          refine wpList_nil ?_
          refine wp_region_lit ?_
          refine s_val rfl rfl (v_add rfl hs9 rfl (by omega) (by omega)) ?_
          refine s_val rfl rfl (v_move rfl rfl) ?_
          refine wpList_nil ?_
          have hsg := sgn_9 (c := c) (by rw [hbc] at hc35; omega)
          have hq := qtd_take s i (by omega)
          rw [hcc, hsg] at hq
          refine ⟨gk3 - 1, _, by omega, rfl, i + 1, _, by omega, hs0, hs8, rfl, rfl, row_next cx hq ?_ ?_⟩
          · simp only [List.length_append, List.length_cons, List.length_nil, hbc, Int.toNat_natCast] <;> omega
          · exact congrArg (fun z => (34 :: qtd (s.data.toList.take i)).map bv ++ z) (rfl)
        · skip
          simp only [Bool.or_eq_false_iff, decide_eq_false_iff_not, beq_eq_false_iff_ne] at hc35
          refine wp_seq ?_
          refine wp_region_lit ?_
          refine s_val rfl rfl (v_move rfl rfl) ?_
          refine s_val rfl rfl (v_cmp rfl rfl rfl rfl) ?_
          refine s_val rfl rfl (v_assign rfl rfl) ?_
          refine wpList_nil ?_
          refine c_split rfl (fun hc40 => ?_) (fun hc40 => ?_)
          · skip
            simp only [Bool.or_eq_true, decide_eq_true_eq, beq_iff_eq] at hc40
            refine wp_region_lit ?_
            refine s_val rfl rfl (v_move rfl hs3) ?_
            refine s_appendB cx ei8 Tryz.underlying49 Tryz.underlying9 rfl rfl rfl rfl rfl (by simp only [List.length_append, List.length_cons, List.length_nil]; omega) ?_; intro v44 w cx hgr44
            refine s_val rfl rfl (v_assign rfl rfl) ?_
            refine wpList_nil ?_
            refine wp_region_lit ?_
            refine s_val rfl rfl (v_add rfl hs9 rfl (by omega) (by omega)) ?_
            refine s_val rfl rfl (v_move rfl rfl) ?_
            refine wpList_nil ?_
            have hsg := sgn_13 (c := c) (by rw [hbc] at hc40; omega)
            have hq := qtd_take s i (by omega)
            rw [hcc, hsg] at hq
            refine ⟨gk3 - 1, _, by omega, rfl, i + 1, _, by omega, hs0, hs8, rfl, rfl, row_next cx hq ?_ ?_⟩
            · simp only [List.length_append, List.length_cons, List.length_nil, hbc, Int.toNat_natCast] <;> omega
            · exact congrArg (fun z => (34 :: qtd (s.data.toList.take i)).map bv ++ z) (rfl)
          · skip
            simp only [Bool.or_eq_false_iff, decide_eq_false_iff_not, beq_eq_false_iff_ne] at hc40
            refine wp_seq ?_
            refine wp_region_lit ?_
            refine s_val rfl rfl (v_move rfl rfl) ?_
            refine s_val rfl rfl (v_cmp rfl rfl rfl rfl) ?_
            refine s_val rfl rfl (v_move rfl rfl) ?_
            refine s_gval rfl rfl rfl (by first | exact w_ff rfl | exact w_gf rfl) (fun hc => v_move rfl (by first | exact gve hc rfl | exact gve (and_l hc) rfl | exact gve (and_l (and_l hc)) rfl | rfl)) ?_
            refine s_gval rfl rfl rfl (by first | exact w_ff rfl | exact w_gf rfl) (fun hc => v_cmp rfl (by first | exact gve hc rfl | exact gve (and_l hc) rfl | exact gve (and_l (and_l hc)) rfl | rfl) rfl rfl) ?_
            refine s_val rfl rfl (v_or rfl rfl rfl rfl) ?_
            refine s_val rfl rfl (v_assign rfl rfl) ?_
            refine wpList_nil ?_
            refine c_split rfl (fun hc45 => ?_) (fun hc45 => ?_)
            · skip
              simp only [Bool.or_eq_true, decide_eq_true_eq, beq_iff_eq] at hc45
              refine wp_region_lit ?_
              refine s_val rfl rfl (v_move rfl hs3) ?_
              refine s_val rfl rfl (v_move rfl rfl) ?_
              refine s_val rfl rfl (v_ofByte rfl rfl Tryz.underlying5 Tryz.underlying2 (byteAt_lo _ _) (byteAt_hi _ _)) ?_
              refine s_fn cx (c49 _ _ (ht.up cx.ext) (byteAt_lo _ _) (byteAt_hi _ _)) Tryz.func49 rfl rfl rfl rfl rfl rfl ?_; intro q55 w cx hw55 hp55
              subst hp55
              refine s_val rfl rfl (v_strAddB rfl rfl rfl (by simp only [List.length_append, List.length_cons, List.length_nil]; omega)) ?_
              refine s_val rfl rfl (v_strAddB rfl rfl rfl (by simp only [List.length_append, List.length_cons, List.length_nil]; omega)) ?_
              refine s_appendB cx ei8 Tryz.underlying49 Tryz.underlying9 rfl rfl rfl rfl rfl (by simp only [List.length_append, List.length_cons, List.length_nil]; omega) ?_; intro v58 w cx hgr58
              refine s_val rfl rfl (v_assign rfl rfl) ?_
              refine wpList_nil ?_
              refine wp_region_lit ?_
              refine s_val rfl rfl (v_add rfl hs9 rfl (by omega) (by omega)) ?_
              refine s_val rfl rfl (v_move rfl rfl) ?_
              refine wpList_nil ?_
              have hsg := sgn_u (c := c) (by rw [hbc] at hc30; omega) (by rw [hbc] at hc35; omega) (by rw [hbc] at hc40; omega) (by rw [hbc] at hc45; omega)
              have hq := qtd_take s i (by omega)
              rw [hcc, hsg] at hq
              refine ⟨gk3 - 1, _, by omega, rfl, i + 1, _, by omega, hs0, hs8, rfl, rfl, row_next cx hq ?_ ?_⟩
              · simp only [List.length_append, List.length_cons, List.length_nil, hbc, Int.toNat_natCast] <;> omega
              · exact congrArg (fun z => (34 :: qtd (s.data.toList.take i)).map bv ++ z) (congrArg (List.map bv) (show [92, 117, 123] ++ hexs (byteAt s (i : Int)).toNat ++ [125] = _ by rw [hbc, Int.toNat_natCast]))
            · skip
              simp only [Bool.or_eq_false_iff, decide_eq_false_iff_not, beq_eq_false_iff_ne] at hc45
              refine wp_region_lit ?_
              refine s_val rfl rfl (v_move rfl hs3) ?_
              refine s_val rfl rfl (v_move rfl rfl) ?_
              refine s_bsl1 cx Tryz.underlying49 sz5 z5 rfl rfl rfl rfl rfl rfl rfl rfl ?_; intro b17 w cx hb17 hw17
              refine s_append cx ei5 Tryz.underlying49 rfl rfl rfl rfl rfl (cx.row 0 rfl) rfl rfl (by omega) ?_; intro v18 w cx hgr18
              replace cx := cx.drop 1
              refine s_val rfl rfl (v_assign rfl rfl) ?_
              refine wpList_nil ?_
              refine wp_region_lit ?_
              refine s_val rfl rfl (v_add rfl hs9 rfl (by omega) (by omega)) ?_
              refine s_val rfl rfl (v_move rfl rfl) ?_
              refine wpList_nil ?_
              have hsg := sgn_o (c := c) (by rw [hbc] at hc19; omega) (by rw [hbc] at hc45; omega)
              have hq := qtd_take s i (by omega)
              rw [hcc, hsg] at hq
              refine ⟨gk3 - 1, _, by omega, rfl, i + 1, _, by omega, hs0, hs8, rfl, rfl, row_next cx hq ?_ ?_⟩
              · simp only [List.length_append, List.length_cons, List.length_nil, hbc, Int.toNat_natCast] <;> omega
              · exact congrArg (fun z => (34 :: qtd (s.data.toList.take i)).map bv ++ z) (show [Value.int .u8 (byteAt s (i : Int))] = _ by rw [hbc]; rfl)
  · skip
    try simp only [Bool.and_eq_true, Bool.or_eq_true, Bool.and_eq_false_iff, Bool.or_eq_false_iff, Bool.not_eq_true', Bool.not_eq_false', decide_eq_true_eq, decide_eq_false_iff_not, beq_iff_eq, beq_eq_false_iff_ne, bne_iff_ne, bne_eq_false_iff_eq, ne_eq, Classical.not_not] at hc10
    refine wp_exit ?_
    refine wp_seq ?_
    refine wp_region_lit ?_
    refine s_val rfl rfl (v_move rfl hs3) ?_
    refine s_bsl1 cx Tryz.underlying49 sz5 z5 rfl rfl rfl rfl rfl rfl rfl rfl ?_; intro b61 w cx hb61 hw61
    refine s_append cx ei5 Tryz.underlying49 rfl rfl rfl rfl rfl (cx.row 0 rfl) rfl rfl (by omega) ?_; intro v62 w cx hgr62
    replace cx := cx.drop 1
    have hq1 : i = s.size := by omega
    subst hq1
    rw [show s.data.toList.take s.size = s.data.toList from List.take_of_length_le (by simp)] at cx
    replace cx := row_next (q' := qtd s.data.toList ++ [34]) (sg := [34]) cx rfl (by simp only [List.length_cons, List.length_nil] <;> omega) rfl
    obtain ⟨g62, c62, rfl, hrow62⟩ := cx.bytes (l := 34 :: (qtd s.data.toList ++ [34])) (by simp only [List.length_append, List.length_cons, List.length_nil] <;> omega) rfl (by omega)
    refine s_val rfl rfl (v_b2s rfl Tryz.underlying49 Tryz.underlying5 Tryz.underlying9 (ns := (34 :: (qtd s.data.toList ++ [34])).map fun x : UInt8 => (x.toNat : Int)) (by rw [List.map_map]; exact hrow62) (by simp only [List.length_map, List.length_append, List.length_cons, List.length_nil] <;> omega) rfl) ?_
    refine s_val rfl rfl (v_assign rfl rfl) ?_
    refine wpList_nil ?_
    refine wp_ret ?_
    refine ret_tmp Tryz.results27 rfl ?_
    refine ⟨cx.ext, ?_⟩
    exact congrArg Value.string (strOf_bs (34 :: (qtd s.data.toList ++ [34])))
end Go.Proofs.YthlkmblljanfmaaGreatDoor
end
section
set_option linter.unusedSimpArgs false
set_option linter.unusedVariables false
namespace Go.Proofs.YthlkmblljanfmaaGreatDoor
open Go Go.Dk Go.RowKit Go.Lib
attribute [local irreducible] Go.wpList Go.Code.wp Go.bodyPost Go.wpStill Go.wpQuiet
set_option maxHeartbeats 4000000 in
set_option maxRecDepth 10000 in
theorem c12 (u : Value) (l : List Stp) (w0 : World) (hv : Pth w0 u l) (hg : ∀ s ∈ l, GdS s) (hl : l.length ≤ 48) (ht : Tabs w0) : Fc Tryz.prog 12 [u] w0 (fun v _ => v = .string (bs (pathT l))) := by
  obtain ⟨a, c, b, o, rfl, ha, hr⟩ := hv.form
  refine ret_enter Tryz.func12 rfl Tryz.ntmps12 rfl ?_
  have cx := Ctx.start w0
  refine wp_seq ?_
  refine wp_region_lit ?_
  refine s_val rfl rfl (v_assign rfl rfl) ?_
  refine wpList_nil ?_
  refine wp_seq ?_
  refine wp_seq ?_
  refine wp_region_lit ?_
  refine s_val rfl rfl (v_move rfl rfl) ?_
  refine s_val rfl rfl (v_lenSlice rfl rfl Tryz.underlying25) ?_
  refine s_val rfl rfl (v_cmp rfl rfl rfl rfl) ?_
  refine wpList_nil ?_
  refine c_split rfl (fun hc8 => ?_) (fun hc8 => ?_)
  · skip
    try simp only [Bool.and_eq_true, Bool.or_eq_true, Bool.and_eq_false_iff, Bool.or_eq_false_iff, Bool.not_eq_true', Bool.not_eq_false', decide_eq_true_eq, decide_eq_false_iff_not, beq_iff_eq, beq_eq_false_iff_ne, bne_iff_ne, bne_eq_false_iff_eq, ne_eq, Classical.not_not] at hc8
    refine wp_seq ?_
    refine wp_region_lit ?_
    refine s_val rfl rfl (v_assign rfl rfl) ?_
    refine wpList_nil ?_
    refine wp_ret ?_
    refine ret_tmp Tryz.results12 rfl ?_
    have e : l = [] := List.eq_nil_of_length_eq_zero (by omega)
    subst e
    exact ⟨cx.ext, rfl⟩
  · skip
    try simp only [Bool.and_eq_true, Bool.or_eq_true, Bool.and_eq_false_iff, Bool.or_eq_false_iff, Bool.not_eq_true', Bool.not_eq_false', decide_eq_true_eq, decide_eq_false_iff_not, beq_iff_eq, beq_eq_false_iff_ne, bne_iff_ne, bne_eq_false_iff_eq, ne_eq, Classical.not_not] at hc8
    refine wp_skip ?_
    refine wp_seq ?_
    refine wp_region_lit ?_
    have hne : l ≠ [] := by rintro rfl; simp at hc8
    have hpos : 0 < l.length := List.length_pos_iff.2 hne
    obtain ⟨x0, hx0⟩ : ∃ x, l[0]? = some x := ⟨l[0]'hpos, List.getElem?_eq_getElem _⟩
    have hr0 := hr 0 x0 hx0
    obtain rfl := ha hpos
    replace cx := cx.nilRow 5 1
    refine s_val rfl rfl (v_assign rfl rfl) ?_
    refine wpList_nil ?_
    refine w_cut (fun f w1 => ∃ v, f 0 = .slice (some ⟨b, o, none⟩) l.length c ∧ f 3 = v ∧ Cxr w0 w1 [] [⟨5, 1, v, (ldp l).length, (ldp l).map bv⟩]) ?_ ?_
    · skip
      refine wp_seq ?_
      refine wp_region_lit ?_
      refine s_val rfl rfl (v_move rfl rfl) ?_
      refine s_val rfl rfl (v_ia Tryz.underlying25 sz46 rfl rfl rfl (by omega) (by omega)) ?_
      refine s_val rfl rfl (v_fa fa46_0 rfl rfl) ?_
      refine s_val rfl rfl (v_load1 rfl rfl Tryz.underlying4 rfl ((hr0.up cx.ext).cell 0 rfl)) ?_
      refine wpList_nil ?_
      refine c_split rfl (fun hc12 => ?_) (fun hc12 => ?_)
      · skip
        try simp only [Bool.and_eq_true, Bool.or_eq_true, Bool.and_eq_false_iff, Bool.or_eq_false_iff, Bool.not_eq_true', Bool.not_eq_false', decide_eq_true_eq, decide_eq_false_iff_not, beq_iff_eq, beq_eq_false_iff_ne, bne_iff_ne, bne_eq_false_iff_eq, ne_eq, Classical.not_not] at hc12
        refine wp_region_lit ?_
        refine s_val rfl rfl (v_move rfl rfl) ?_
        refine s_bsl1 cx Tryz.underlying49 sz5 z5 rfl rfl rfl rfl rfl rfl rfl rfl ?_; intro b14 w cx hb14 hw14
        refine s_append cx ei5 Tryz.underlying49 rfl rfl rfl rfl rfl (cx.row 0 rfl) rfl rfl (by omega) ?_; intro v15 w cx hgr15
        replace cx := cx.drop 1
        refine s_val rfl rfl (v_assign rfl rfl) ?_
        refine wpList_nil ?_
        first | exact ⟨_, rfl, _, rfl, rfl, cx.row_eq (by rw [ldp_T hx0 hc12]; rfl) (by rw [ldp_T hx0 hc12]; rfl)⟩ | exact ⟨_, rfl, _, rfl, rfl, cx.row_eq (by rw [ldp_F hx0 hc12]; rfl) (by rw [ldp_F hx0 hc12]; rfl)⟩
      · skip
        try simp only [Bool.and_eq_true, Bool.or_eq_true, Bool.and_eq_false_iff, Bool.or_eq_false_iff, Bool.not_eq_true', Bool.not_eq_false', decide_eq_true_eq, decide_eq_false_iff_not, beq_iff_eq, beq_eq_false_iff_ne, bne_iff_ne, bne_eq_false_iff_eq, ne_eq, Classical.not_not] at hc12
        refine wp_skip ?_
        first | exact ⟨_, rfl, _, rfl, rfl, cx.row_eq (by rw [ldp_T hx0 hc12]; rfl) (by rw [ldp_T hx0 hc12]; rfl)⟩ | exact ⟨_, rfl, _, rfl, rfl, cx.row_eq (by rw [ldp_F hx0 hc12]; rfl) (by rw [ldp_F hx0 hc12]; rfl)⟩
    intro f w hJ
    obtain ⟨v, hs0, hs3, cx⟩ := hJ
    refine wp_seq ?_
    refine wp_seq ?_
    refine wp_region_lit ?_
    refine s_val rfl rfl (v_move rfl hs0) ?_
    refine s_val rfl rfl (v_lenSlice rfl rfl Tryz.underlying25) ?_
    refine s_val rfl rfl (v_move rfl rfl) ?_
    refine wpList_nil ?_
    refine wp_block ?_
    refine w_loop (fun k f w1 => ∃ (i : Nat) (v : Value), k + i = l.length ∧ f 16 = .slice (some ⟨b, o, none⟩) l.length c ∧ f 17 = .int .i64 l.length ∧ f 18 = .int .i64 i ∧ f 3 = v ∧ Cxr w0 w1 [] [⟨5, 1, v, (ldp l ++ (l.take i).flatMap stpT).length, (ldp l ++ (l.take i).flatMap stpT).map bv⟩]) (l.length) ?_ ?_
    · skip
      exact ⟨0, _, by omega, rfl, rfl, rfl, hs3, cx.row_eq (by simp) (by simp)⟩
    intro gk7 f w hJ
    obtain ⟨i, v, hk, hs16, hs17, hs18, hs3, cx⟩ := hJ
    refine wp_seq ?_
    refine wp_region_lit ?_
    refine s_val rfl rfl (v_cmp rfl hs18 hs17 rfl) ?_
    refine wpList_nil ?_
    refine wp_seq ?_
    refine c_split rfl (fun hc19 => ?_) (fun hc19 => ?_)
    · skip
      try simp only [Bool.and_eq_true, Bool.or_eq_true, Bool.and_eq_false_iff, Bool.or_eq_false_iff, Bool.not_eq_true', Bool.not_eq_false', decide_eq_true_eq, decide_eq_false_iff_not, beq_iff_eq, beq_eq_false_iff_ne, bne_iff_ne, bne_eq_false_iff_eq, ne_eq, Classical.not_not] at hc19
      obtain ⟨x, hx⟩ : ∃ x, l[i]? = some x := ⟨l[i]'(by omega), List.getElem?_eq_getElem _⟩
      have hrw := hr i x hx
      have hgx := hg x (List.mem_of_getElem? hx)
      have hll := ldp_le l
      have hfl := flat_len (l := l.take i) (fun y hy => hg y (List.mem_of_mem_take hy))
      rw [List.length_take] at hfl
      have hsl := stepT_len hgx
      have hqx := qtd_len x.key.data.toList
      have hkx : x.key.data.toList.length = x.key.size := by simp
      refine wp_skip ?_
      refine wp_seq ?_
      refine wp_block ?_
      refine wp_seq ?_
      refine wp_region_lit ?_
      refine s_val rfl rfl (v_ia Tryz.underlying25 sz46 rfl hs16 hs18 (by omega) (by omega)) ?_
      refine s_val rfl rfl (v_load rfl rfl Tryz.underlying46 rfl sz46 (hrw.up cx.ext) rfl) ?_
      refine s_alloc cx z46 rfl rfl rfl ?_; intro b5 w cx hb5 hw5
      refine s_storeAll cx 0 rfl rfl rfl rfl rfl rfl sz46 rfl rfl ?_; intro w cx hwS
      refine wpList_nil ?_
      refine wp_block ?_
      refine wp_seq ?_
      refine wp_region_lit ?_
      refine s_val rfl rfl (v_fa fa46_0 rfl rfl) ?_
      refine s_val rfl rfl (v_load1 rfl rfl Tryz.underlying4 rfl (cx.cell 0 rfl rfl)) ?_
      refine s_val rfl rfl (v_assign rfl rfl) ?_
      refine wpList_nil ?_
      refine c_split rfl (fun hc28 => ?_) (fun hc28 => ?_)
      · skip
        try simp only [Bool.and_eq_true, Bool.or_eq_true, Bool.and_eq_false_iff, Bool.or_eq_false_iff, Bool.not_eq_true', Bool.not_eq_false', decide_eq_true_eq, decide_eq_false_iff_not, beq_iff_eq, beq_eq_false_iff_ne, bne_iff_ne, bne_eq_false_iff_eq, ne_eq, Classical.not_not] at hc28
        have hix := hgx.1 hc28
        have hil := itoa_le hix.1 (by omega)
        refine wp_region_lit ?_
        refine s_val rfl rfl (v_move rfl hs3) ?_
        refine s_val rfl rfl (v_fa fa46_2 rfl rfl) ?_
        refine s_val rfl rfl (v_load1 rfl rfl Tryz.underlying3 rfl (cx.cell 0 rfl rfl)) ?_
        refine s_fn cx (c25 _ _ (ht.up cx.ext) (by omega) (by omega)) Tryz.func25 rfl rfl rfl rfl rfl rfl ?_; intro q34 w cx hw34 hp34
        subst hp34
        refine s_val rfl rfl (v_strAddB rfl rfl rfl (by simp only [List.length_append, List.length_cons, List.length_nil]; omega)) ?_
        refine s_val rfl rfl (v_strAddB rfl rfl rfl (by simp only [List.length_append, List.length_cons, List.length_nil]; omega)) ?_
        refine s_appendB cx ei8 Tryz.underlying49 Tryz.underlying9 rfl rfl rfl rfl rfl (by simp only [List.length_append, List.length_cons, List.length_nil] at hfl hll ⊢; omega) ?_; intro v37 w cx hgr37
        refine s_val rfl rfl (v_assign rfl rfl) ?_
        refine wpList_nil ?_
        refine wp_region_lit ?_
        refine s_val rfl rfl (v_add rfl hs18 rfl (by omega) (by omega)) ?_
        refine s_val rfl rfl (v_move rfl rfl) ?_
        refine wpList_nil ?_
        have hsg := step_ix hc28
        have hq : ldp l ++ (l.take (i + 1)).flatMap stpT = (ldp l ++ (l.take i).flatMap stpT) ++ stpT x := by rw [flat_take l i x hx, List.append_assoc]
        rw [hsg] at hq
        refine ⟨gk7 - 1, _, by omega, rfl, i + 1, _, by omega, hs16, hs17, rfl, rfl, row_more (cx.drop 1) hq ?_ ?_⟩
        · simp only [List.length_append, List.length_cons, List.length_nil] <;> omega
        · exact congrArg (fun z => (ldp l ++ (l.take i).flatMap stpT).map bv ++ z) rfl
      · skip
        try simp only [Bool.and_eq_true, Bool.or_eq_true, Bool.and_eq_false_iff, Bool.or_eq_false_iff, Bool.not_eq_true', Bool.not_eq_false', decide_eq_true_eq, decide_eq_false_iff_not, beq_iff_eq, beq_eq_false_iff_ne, bne_iff_ne, bne_eq_false_iff_eq, ne_eq, Classical.not_not] at hc28
        have hkl := hgx.2 hc28
        refine wp_seq ?_
        refine w_quiet cx mixed (by kernel_rfl) ?_
        refine q_val rfl rfl (fun w cx hwQ => v_fa fa46_1 rfl rfl) ?_
        refine q_val rfl rfl (fun w cx hwQ => v_load1 rfl rfl Tryz.underlying9 rfl (cx.cell 0 rfl rfl)) ?_
        refine q_val rfl rfl (fun w cx hwQ => v_strNe rfl rfl rfl) ?_
        refine q_val rfl rfl (fun w cx hwQ => v_move rfl rfl) ?_
        refine q_gval rfl rfl rfl (by exact w_tt rfl) (fun hc w cx hwQ => v_fa fa46_1 rfl rfl) ?_
        refine q_gval rfl rfl rfl (by exact w_tt rfl) (fun hc w cx hwQ => v_load1 rfl (gve hc rfl) Tryz.underlying9 rfl (cx.cell 0 rfl rfl)) ?_
        refine q_gcall rfl rfl rfl (by exact w_tt rfl) (fun hc => runs_fn Tryz.func26 rfl rfl rfl (cons_eq (gve hc rfl) rfl)) (fun hc w cx hwQ => c26 x.key w (by omega)) ?_
        refine q_gval rfl rfl rfl (by exact w_tt rfl) (fun hc w cx hwQ => v_fa fa46_1 rfl rfl) ?_
        refine q_gval rfl rfl rfl (by exact w_tt rfl) (fun hc w cx hwQ => v_load1 rfl (gve hc rfl) Tryz.underlying9 rfl (cx.cell 0 rfl rfl)) ?_
        refine q_gval rfl rfl rfl (by exact w_tt rfl) (fun hc w cx hwQ => v_lenString rfl (gve hc rfl) Tryz.underlying9) ?_
        refine q_gval rfl rfl rfl (by exact w_tt rfl) (fun hc w cx hwQ => v_cmp rfl (gve hc rfl) (gve hc rfl) rfl) ?_
        refine q_val rfl rfl (fun w cx hwQ => v_and rfl rfl rfl rfl) ?_
        refine q_val rfl rfl (fun w cx hwQ => v_assign rfl rfl) ?_
        refine q_nil ?_; rintro w ⟨cx, hwQ12⟩
        refine c_split rfl (fun hc38 => ?_) (fun hc38 => ?_)
        · skip
          try simp only [Bool.and_eq_true, Bool.or_eq_true, Bool.and_eq_false_iff, Bool.or_eq_false_iff, Bool.not_eq_true', Bool.not_eq_false', decide_eq_true_eq, decide_eq_false_iff_not, beq_iff_eq, beq_eq_false_iff_ne, bne_iff_ne, bne_eq_false_iff_eq, ne_eq, Classical.not_not] at hc38
          have hnm := (nm_iff x.key).1 hc38
          refine wp_region_lit ?_
          refine s_val rfl rfl (v_move rfl hs3) ?_
          refine s_val rfl rfl (v_fa fa46_1 rfl rfl) ?_
          refine s_val rfl rfl (v_load1 rfl rfl Tryz.underlying9 rfl (cx.cell 0 rfl rfl)) ?_
          refine s_val rfl rfl (v_strAddB (a := [46]) (b := x.key.data.toList) rfl rfl rfl (by simp only [List.length_cons, List.length_nil]; omega)) ?_
          refine s_appendB cx ei8 Tryz.underlying49 Tryz.underlying9 rfl rfl rfl rfl rfl (by simp only [List.length_append, List.length_cons, List.length_nil] at hfl hll ⊢; omega) ?_; intro v55 w cx hgr55
          refine s_val rfl rfl (v_assign rfl rfl) ?_
          refine wpList_nil ?_
          refine wp_region_lit ?_
          refine s_val rfl rfl (v_add rfl hs18 rfl (by omega) (by omega)) ?_
          refine s_val rfl rfl (v_move rfl rfl) ?_
          refine wpList_nil ?_
          have hsg := step_nm hc28 hnm
          have hq : ldp l ++ (l.take (i + 1)).flatMap stpT = (ldp l ++ (l.take i).flatMap stpT) ++ stpT x := by rw [flat_take l i x hx, List.append_assoc]
          rw [hsg] at hq
          refine ⟨gk7 - 1, _, by omega, rfl, i + 1, _, by omega, hs16, hs17, rfl, rfl, row_more (cx.drop 1) hq ?_ ?_⟩
          · simp only [List.length_append, List.length_cons, List.length_nil] <;> omega
          · exact congrArg (fun z => (ldp l ++ (l.take i).flatMap stpT).map bv ++ z) rfl
        · skip
          try simp only [Bool.and_eq_true, Bool.or_eq_true, Bool.and_eq_false_iff, Bool.or_eq_false_iff, Bool.not_eq_true', Bool.not_eq_false', decide_eq_true_eq, decide_eq_false_iff_not, beq_iff_eq, beq_eq_false_iff_ne, bne_iff_ne, bne_eq_false_iff_eq, ne_eq, Classical.not_not] at hc38
          have hnm : ¬ isNm x.key := fun h => by have := (nm_iff x.key).2 h; rcases hc38 with h | h; exact this.1 h; exact h this.2
          refine wp_region_lit ?_
          refine s_val rfl rfl (v_move rfl hs3) ?_
          refine s_val rfl rfl (v_fa fa46_1 rfl rfl) ?_
          refine s_val rfl rfl (v_load1 rfl rfl Tryz.underlying9 rfl (cx.cell 0 rfl rfl)) ?_
          refine s_fn cx (c27 _ _ (by omega) (ht.up cx.ext)) Tryz.func27 rfl rfl rfl rfl rfl rfl ?_; intro q25 w cx hw25 hp25
          subst hp25
          refine s_val rfl rfl (v_strAddB rfl rfl rfl (by simp only [List.length_append, List.length_cons, List.length_nil]; omega)) ?_
          refine s_appendB cx ei8 Tryz.underlying49 Tryz.underlying9 rfl rfl rfl rfl rfl (by simp only [List.length_append, List.length_cons, List.length_nil] at hfl hll ⊢; omega) ?_; intro v27 w cx hgr27
          refine s_val rfl rfl (v_assign rfl rfl) ?_
          refine wpList_nil ?_
          refine wp_region_lit ?_
          refine s_val rfl rfl (v_add rfl hs18 rfl (by omega) (by omega)) ?_
          refine s_val rfl rfl (v_move rfl rfl) ?_
          refine wpList_nil ?_
          have hsg := step_qt hc28 hnm
          have hq : ldp l ++ (l.take (i + 1)).flatMap stpT = (ldp l ++ (l.take i).flatMap stpT) ++ stpT x := by rw [flat_take l i x hx, List.append_assoc]
          rw [hsg] at hq
          refine ⟨gk7 - 1, _, by omega, rfl, i + 1, _, by omega, hs16, hs17, rfl, rfl, row_more (cx.drop 1) hq ?_ ?_⟩
          · simp only [List.length_append, List.length_cons, List.length_nil] <;> omega
          · exact congrArg (fun z => (ldp l ++ (l.take i).flatMap stpT).map bv ++ z) rfl
    · skip
      try simp only [Bool.and_eq_true, Bool.or_eq_true, Bool.and_eq_false_iff, Bool.or_eq_false_iff, Bool.not_eq_true', Bool.not_eq_false', decide_eq_true_eq, decide_eq_false_iff_not, beq_iff_eq, beq_eq_false_iff_ne, bne_iff_ne, bne_eq_false_iff_eq, ne_eq, Classical.not_not] at hc19
      refine wp_exit ?_
      refine wp_seq ?_
      refine wp_region_lit ?_
      have hi : i = l.length := by omega
      subst hi
      rw [List.take_length] at cx
      have hpl : 0 < (ldp l ++ l.flatMap stpT).length := by rw [← path_ldp hne]; exact path_pos l
      obtain ⟨g57, c57, rfl, hrow57⟩ := cx.bytes (l := ldp l ++ l.flatMap stpT) rfl rfl hpl
      refine s_val rfl rfl (v_move rfl hs3) ?_
      refine s_val rfl rfl (v_b2s rfl Tryz.underlying49 Tryz.underlying5 Tryz.underlying9 (ns := (ldp l ++ l.flatMap stpT).map fun x : UInt8 => (x.toNat : Int)) (by rw [List.map_map]; exact hrow57) (by rw [List.length_map]) rfl) ?_
      refine s_val rfl rfl (v_assign rfl rfl) ?_
      refine wpList_nil ?_
      refine wp_ret ?_
      refine ret_tmp Tryz.results12 rfl ?_
      exact ⟨cx.ext, congrArg Value.string ((strOf_bs _).trans (congrArg bs (path_ldp hne).symm))⟩
end Go.Proofs.YthlkmblljanfmaaGreatDoor
end
