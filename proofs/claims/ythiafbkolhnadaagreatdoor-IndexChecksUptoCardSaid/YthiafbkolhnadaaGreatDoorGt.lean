/-
  The tables that the library's functions read, and the contracts that the shelf gives.
-/
import Derived.Test.YthiafbkolhnadaaGreatDoorSh
import Derived.Test.YthiafbkolhnadaaGreatDoorGa
import Derived.Test.YthiafbkolhnadaaGreatDoorBd
import Derived.Test.YthiafbkolhnadaaGreatDoorPx
set_option linter.unusedVariables false
namespace Go.Dk
open Go Go.RowKit Go.Lib
section
variable {P : Program} {ops : Array Oper} {Q : Exit → Act → World → Prop} {rest : List Oper} {o : Oper} {n : Nat} {f : Nat → Value} {w w0 : World} {L : List (Nat × Obj)} {R : List Row} {ρ : Operand → Value}
theorem v_subK {t t' : TypeId} {x y : Operand} {k : IntKind} {p q : Int} (ho : o.op = .binOp .sub t x y t') (hx : ρ x = .int k p) (hy : ρ y = .int k q) : (execOp ρ o).run P w = .ok (.value (.int k (k.wrap (p - q)))) w := by
  unfold execOp; rw [ho]
  simp [hx, hy, eqGuard, binOp, Op.intArith]
theorem v_cw64 {s t : TypeId} {x : Operand} {m : Nat} {d : TypeDesc} (ho : o.op = .convert s t x) (hx : ρ x = .int .i64 m) (hs : P.underlying s = some d) (ht : P.underlying t = some (.int .u64)) (h : m < 256) : (execOp ρ o).run P w = .ok (.value (.int .u64 m)) w := by
  have := v_conv (w := w) ho hx hs ht
  have e : IntKind.u64.wrap (m : Int) = (m : Int) := by simp [IntKind.wrap, IntKind.signed, IntKind.bits]; omega
  rwa [e] at this
/-- a number that is not below 0 -/
theorem v_cmpF {t t' : TypeId} {x y : Operand} {k : IntKind} {p q : Int} (ho : o.op = .binOp .lss t x y t') (hx : ρ x = .int k p) (hy : ρ y = .int k q) (h : ¬ p < q) : (execOp ρ o).run P w = .ok (.value (.bool false)) w := by
  have := v_cmp (P := P) (w := w) (b := decide (p < q)) ho hx hy rfl
  rwa [decide_eq_false h] at this
/-- the end of an array, as a slice -/
theorem v_slA {t e : TypeId} {x y : Operand} {len s b k : Nat} {kd : IntKind} {m : Int} (ho : o.op = .slice t x (some y) none none) (hx : ρ x = .pointer (some ⟨b, k, none⟩)) (hy : ρ y = .int kd m) (hu : P.underlying t = some (.array len e)) (hs : (P.info? e).map (·.size) = some s) (h0 : 0 ≤ m) (h1 : m < len) :
    (execOp ρ o).run P w = .ok (.value (.slice (some ⟨b, k + m.toNat * s, none⟩) (len - m.toNat) (len - m.toNat))) w := by
  unfold execOp; rw [ho]
  have h2 : m ≤ (len : Int) := by omega
  have h3 : ¬ len = m.toNat := by omega
  simp [hx, hy, Instr.sliceAt, Instr.sureAddr, Instr.sliceBounds, Instr.sliceBound, asIntOf, run_underlying hu, h0, h2, run_size (w := w) hs, add_addr, h3]
end
theorem below_gr (w : World) (q : Nat) (os : Array Obj) : Below w.heap.size w (Go.Sort.grow (w.drewN q) os) :=
  ⟨rfl, rfl, rfl, by simp [Go.Sort.grow], fun i hi => by
    show ((w.drewN q).heap ++ os)[i]? = _
    rw [Array.getElem?_append_left (by show i < w.heap.size; omega)]
    rfl⟩
theorem cell_up {w w' : World} (hb : Below w.heap.size w w') {a : Addr} {v : Value} (h : w.cell? a = some v) : w'.cell? a = some v := by
  have h2 := block_lt_of_cell h
  have h3 := hb.block a.block (by simpa using h2)
  have h4 : w'.cell? a = w.cell? a := by simp [World.cell?, h3]
  rw [h4]; exact h
theorem tab_up {P : Program} {nm : String} {g : Nat} {k : IntKind} {zs : List Int} (hgn : P.globalNamed nm = some g) {w w' : World} (hb : Below w.heap.size w w') (h : Lib.TabIs P w nm k zs) : Lib.TabIs P w' nm k zs := by
  unfold Lib.TabIs World.var? at h ⊢
  rw [hgn] at h ⊢
  simp only [Option.bind_some] at h ⊢
  have hlt : g < w.heap.size := by
    rcases Nat.lt_or_ge g w.heap.size with h' | h'
    · exact h'
    · rw [Array.getElem?_eq_none h'] at h; cases h
  rw [hb.block g hlt]
  exact h
end Go.Dk
namespace Go.Proofs.YthiafbkolhnadaaGreatDoor
open Go Go.Dk Go.RowKit Go.Lib
/-- the tables lie as the library's text lays them -/
structure Tabs (w : World) : Prop where
  pow : Lib.TabIs Tryz.prog w "internal/strconv.uint64pow10" .u64 Lib.pow10Tab
  bit : Go.Proofs.TabAt 7 Lib.deBruijn64tab w
  utf : Lib.Utf8Tabs 0 1 w
theorem Tabs.up {w w' : World} (h : Tabs w) (hb : Below w.heap.size w w') : Tabs w' :=
  ⟨tab_up (g := 2) (by kernel_rfl) hb h.pow, fun j hj => cell_up hb (h.bit j hj), Go.Proofs.Utf8Tabs_below h.utf hb⟩
theorem c47 (n : Int) (w0 : World) (ht : Tabs w0) (h0 : -9223372036854775808 ≤ n) (h1 : n ≤ 9223372036854775807) : Fc Tryz.prog 47 [.int .i64 n] w0 (fun v _ => v = .string (bs (itoa n))) :=
  Calls.mono (Go.Proofs.Tryz.strconv_Itoa n h0 h1 w0 ht.pow) fun e w' ⟨he, k, os, hw⟩ => ⟨_, he, by rw [hw]; exact below_gr _ _ _, rfl⟩
theorem c91 (s : ByteArray) (w0 : World) (ht : Tabs w0) (hs : s.size ≤ 9223372036854775807) : Fc Tryz.prog 91 [.string s] w0 (IsB fun b => b = validD s.data.toList) :=
  Calls.mono (Go.Proofs.Any.utf8_ValidString Go.Proofs.Tryz.lays196 s w0 hs ht.utf) fun e w' ⟨he, hb⟩ => ⟨_, he, hb, _, rfl, rfl⟩
theorem c293 (w0 : World) (ht : Tabs w0) : Fc Tryz.prog 293 [.int .u64 16] w0 (IsI fun m => m = 4) :=
  Calls.mono (Go.Proofs.Any7.bits_TrailingZeros Go.Proofs.Tryz.lays27 16 (by decide) w0 fun _ => ht.bit) fun e w' ⟨he, hw⟩ => ⟨_, he, by rw [hw]; exact Below.refl _ _, _, rfl, by decide⟩
end Go.Proofs.YthiafbkolhnadaaGreatDoor
