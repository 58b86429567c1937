/-
  The position behind the three characters of one source: a range over a function.
-/
import Derived.RangeFuncNested
import Derived.RangeFuncBound
import Derived.RangeFuncCalls
import Derived.RangeFuncLeaves
import Derived.RangeFuncFrom
import Derived.Shelf.Abstract
import Derived.Shelf.RegionOpen
import Derived.WalkKit
import Derived.OwnWalkIn
import Derived.TacticsInMore
import Derived.LoopNIn
import Derived.LoopIn
import Derived.Test.YtooaknpffjcakaaGreatFa
set_option linter.unusedVariables false
set_option maxRecDepth 100000
namespace Go.Proofs.YtooaknpffjcakaaGreat
open Go Go.RowKit Go.Shelf

theorem env0_ok : Ev.EnvOk Tryz.prog env0 := by
  refine ⟨fun f hf => ?_, fun f args v h w => ?_, fun f g args v h => by cases h⟩
  · have h1 : Nat.blt f 354 = true ∧ Ev.memN f bad = false := by simpa [env0] using hf
    have h2 : f < 354 := by have := h1.1; rw [Dk.blt_iff] at this; simpa using this
    have h3 := List.all_eq_true.1 good_all f (by simpa using h2)
    rw [h1.2, Bool.false_or] at h3
    unfold goodF at h3
    split at h3
    · rename_i fn hfn
      simp only [Bool.and_eq_true, Bool.not_eq_true'] at h3
      exact ⟨fn, hfn, h3.1, h3.2⟩
    · cases h3
  · have h1 : (bif Nat.beq f 123 then ixRow args else none) = some v := h
    cases hb : Nat.beq f 123 with
    | false => rw [hb] at h1; cases h1
    | true =>
      rw [hb] at h1
      have := Nat.eq_of_beq_eq_true hb
      subst this
      exact run123 args v h1 w
theorem mixed : Tryz.prog.follows .mixedOrders = true := by kernel_rfl
theorem call_of {d : Nat} {f : FuncId} {args : List Value} {v : Value} (h : Ev.evalE Tryz.prog env0 d f args = some v) (w : World) : Calls Tryz.prog f args.toArray w fun e w' => e = .returned v ∧ Below w.heap.size w w' :=
  Ev.eval_ok mixed env0_ok h w

/-- the source, and its bytes -/
def src : ByteArray := ⟨#[91, 49, 44]⟩
def rb : Nat → Int
  | 0 => 91
  | 1 => 49
  | 2 => 44
  | _ => 0
theorem dec0 : Ev.evalE Tryz.prog env0 20 27 [.string src, .int .i64 0] = some (.tuple #[.int .i64 91, .int .i64 1]) := by kernel_rfl
theorem dec1 : Ev.evalE Tryz.prog env0 20 27 [.string src, .int .i64 1] = some (.tuple #[.int .i64 49, .int .i64 1]) := by kernel_rfl
theorem dec2 : Ev.evalE Tryz.prog env0 20 27 [.string src, .int .i64 2] = some (.tuple #[.int .i64 44, .int .i64 1]) := by kernel_rfl
theorem dec (k : Nat) (hk : k < 3) (w : World) : Calls Tryz.prog 27 #[.string src, .int .i64 (k : Int)] w fun e w' => e = .returned (.tuple #[.int .i64 (rb k), .int .i64 1]) ∧ Below w.heap.size w w' := by
  match k, hk with
  | 0, _ => exact call_of dec0 w
  | 1, _ => exact call_of dec1 w
  | 2, _ => exact call_of dec2 w

attribute [local go_sem] Oper.semAt_some

/-- what has come when k rounds are over -/
def upto (k : Nat) : List Nat := List.range k
theorem upto_succ (k : Nat) : upto (k + 1) = upto k ++ [k] := by simp [upto, List.range_succ]
theorem upto_length (k : Nat) : (upto k).length = k := by simp [upto]

/-- a block stays as it is -/
def Kp (Bs : Nat) (W W' : World) : Prop := W'.heap[Bs]? = W.heap[Bs]?
theorem blk_cell {W : World} {b j : Nat} {arr : Array Value} {e : TypeId} {v : Value} (h : W.heap[b]? = some (.cells arr e)) (hj : arr[j]? = some v) : W.cell? ⟨b, j, none⟩ = some v := by
  rw [cell_of_row W b j arr e (0, 0) h]; exact hj
theorem blk_fr {W : World} {b j : Nat} {arr : Array Value} {e : TypeId} (h : W.heap[b]? = some (.cells arr e)) : W.frozen? ⟨b, j, none⟩ = false := frozen_of_row W b j arr e h
theorem blk_lt {W : World} {b : Nat} {o : Obj} (h : W.heap[b]? = some o) : b < W.heap.size := (Array.getElem?_eq_some_iff.1 h).1
theorem blk_alloc {W : World} {b : Nat} {o : Obj} (h : W.heap[b]? = some o) (o' : Obj) : (W.alloc o').heap[b]? = some o := (Below.heap_alloc W o' b (blk_lt h)).trans h
theorem blk_below' {W W' : World} {b : Nat} {o : Obj} (h : W.heap[b]? = some o) (hb : Below W.heap.size W W') : W'.heap[b]? = some o := (hb.block b (blk_lt h)).trans h
set_option maxHeartbeats 2000000 in
theorem runes1_in (F : Fence) (n : Nat) (h27 : ∀ k : Nat, k < 3 → ∀ w, CallsIn F (n - 1) Tryz.prog 27 #[.string src, .int .i64 (k : Int)] w fun e w' => e = .returned (.tuple #[.int .i64 (rb k), .int .i64 1]) ∧ Below w.heap.size w w')
    (h27f : F.fn 27) (h26 : F.fn 26) (hro : F.round = none) (hn : 1 ≤ n) (l Bs : Nat) (J Jx : List Nat → World → Prop) (hJb : ∀ xs W W', J xs W → Below W.heap.size W W' → J xs W')
    (hY : ∀ pre x W, J pre W → pre.length < 3 → YieldAt F (n - 1) Tryz.prog l #[.int .i64 (rb x)] W fun e W' =>
      (e = .returned (.bool true) ∧ J (pre ++ [x]) W' ∧ Kp Bs W W') ∨ (e = .returned (.bool false) ∧ Jx (pre ++ [x]) W'))
    (W : World) (hBs : W.heap[Bs]? = some (.cells #[.string src] 9)) (h0 : J [] W) :
    CallsIn F n Tryz.prog 26 #[.func (.yield l) #[] #[], .pointer (some ⟨Bs, 0, none⟩)] W fun e W' => (∃ v, e = .returned v) ∧
      ((∃ ys, ys = upto 3 ∧ J ys W') ∨ (∃ pre, (∃ k, k ≤ 3 ∧ pre = upto k) ∧ Jx pre W')) := by
  refine callsIn_of_wp Tryz.func26 rfl h26 ?_ hro
  simp only [Tryz.ntmps26, List.size_toArray, List.length_cons, List.length_nil, Nat.reduceAdd, Nat.reduceSub, Array.replicate_succ, Array.replicate_zero, List.push_toArray, List.append_toArray, List.nil_append, List.cons_append]
  gi_wp2
  gi_loopw [3] (fun i wr => ∃ k : Nat, k ≤ 3 ∧ i = .int .i64 k ∧ J (upto k) wr ∧ wr.heap[Bs]? = some (.cells #[.string src] 9))
    (fun i _ => 3 - (intOf i).toNat)
  case atStart => exact ⟨0, Nat.zero_le _, rfl, h0, hBs⟩
  case round =>
    obtain ⟨k, hk, rfl, hJs, hnx⟩ := hrel
    have hcs : wr.cell? ⟨Bs, 0, none⟩ = some (.string src) := blk_cell hnx rfl
    have hsz : src.size = 3 := rfl
    by_cases hlt : k < 3
    · gi_wp2_with (gi_at_call 27; refine (h27 k hlt _).mono ?_; rintro e w' ⟨rfl, hbw⟩; obtain ⟨fn, tmps, assign, body, hy, hR⟩ := hY (upto k) k w' (hJb _ _ _ hJs hbw) (by rw [upto_length]; exact hlt))
      refine hR.mono ?_
      rintro e W3 (⟨rfl, hJ3, hk3⟩ | ⟨rfl, hJx3⟩)
      · gi_wp2
        exact ⟨⟨k + 1, by omega, by simp, by rw [upto_succ]; exact hJ3, by rw [show W3.heap[Bs]? = w'.heap[Bs]? from hk3]; exact blk_below' hnx hbw⟩, by simp [intOf]; omega⟩
      · gi_wp2
        refine bodyPost_ret (results_none rfl _ _ _) rfl ?_
        exact ⟨⟨_, rfl⟩, .inr ⟨_, ⟨k + 1, by omega, (upto_succ _).symm⟩, hJx3⟩⟩
    · obtain rfl : k = 3 := by omega
      gi_wp2
      go_end0
      exact ⟨⟨_, rfl⟩, .inl ⟨_, rfl, hJs⟩⟩

theorem below_grown {W W' : World} (hb : Below W.heap.size W W') : W.grownBy W' none := ⟨hb.os, hb.tape, hb.output, hb.size, fun k hk _ => hb.block k hk⟩
theorem dec_in (n k : Nat) (hk : k < 3) (w : World) : CallsIn Fence.wide n Tryz.prog 27 #[.string src, .int .i64 (k : Int)] w fun e w' => e = .returned (.tuple #[.int .i64 (rb k), .int .i64 1]) ∧ Below w.heap.size w w' := callsIn_wide.2 (dec k hk w)
theorem runes_stops (n : Nat) (hn : 1 ≤ n) (Bs : Nat) (w : World) (hc : w.heap[Bs]? = some (.cells #[.string src] 9)) :
    SeqStopsK Fence.wide n Tryz.prog 26 #[.pointer (some ⟨Bs, 0, none⟩)] (fun x : Nat => #[Value.int .i64 (rb x)]) (Kp Bs) (fun ys => ys = upto 3) (fun pre => ∃ k, k ≤ 3 ∧ pre = upto k) 3 w := fun l J Jx W hW hJ _ hY h0 =>
  runes1_in Fence.wide n (fun k hk w => dec_in _ k hk w) trivial trivial rfl hn l Bs J Jx (fun xs A B h hb => hJ xs A B none h (below_grown hb) (fun r e => by cases e)) hY W (blk_below' hc hW) h0

theorem wid0 : Ev.evalE Tryz.prog env0 20 23 [.int .i64 91] = some (.int .i64 1) := by kernel_rfl
theorem wid1 : Ev.evalE Tryz.prog env0 20 23 [.int .i64 49] = some (.int .i64 1) := by kernel_rfl
theorem wid2 : Ev.evalE Tryz.prog env0 20 23 [.int .i64 44] = some (.int .i64 1) := by kernel_rfl
theorem wid3 : Ev.evalE Tryz.prog env0 20 23 [.int .i64 0] = some (.int .i64 1) := by kernel_rfl
theorem wid (x : Nat) (w : World) : Calls Tryz.prog 23 #[.int .i64 (rb x)] w fun e w' => e = .returned (.int .i64 1) ∧ Below w.heap.size w w' := by
  match x with
  | 0 => exact call_of wid0 w
  | 1 => exact call_of wid1 w
  | 2 => exact call_of wid2 w
  | _ + 3 => exact call_of wid3 w
theorem aft0 (x : Nat) : ∀ w, Calls Tryz.prog 24 #[.agg #[.int .i64 1, .int .i64 1], .int .i64 (rb x)] w fun e w' => e = .returned (.agg #[.int .i64 1, .int .i64 2]) ∧ Below w.heap.size w w' := by
  match x with
  | 0 => exact call_of (d := 20) (by kernel_rfl)
  | 1 => exact call_of (d := 20) (by kernel_rfl)
  | 2 => exact call_of (d := 20) (by kernel_rfl)
  | _ + 3 => exact call_of (d := 20) (show Ev.evalE Tryz.prog env0 20 24 [.agg #[.int .i64 1, .int .i64 1], .int .i64 0] = _ by kernel_rfl)
theorem aft1 (x : Nat) : ∀ w, Calls Tryz.prog 24 #[.agg #[.int .i64 1, .int .i64 2], .int .i64 (rb x)] w fun e w' => e = .returned (.agg #[.int .i64 1, .int .i64 3]) ∧ Below w.heap.size w w' := by
  match x with
  | 0 => exact call_of (d := 20) (by kernel_rfl)
  | 1 => exact call_of (d := 20) (by kernel_rfl)
  | 2 => exact call_of (d := 20) (by kernel_rfl)
  | _ + 3 => exact call_of (d := 20) (show Ev.evalE Tryz.prog env0 20 24 [.agg #[.int .i64 1, .int .i64 2], .int .i64 0] = _ by kernel_rfl)
theorem aft2 (x : Nat) : ∀ w, Calls Tryz.prog 24 #[.agg #[.int .i64 1, .int .i64 3], .int .i64 (rb x)] w fun e w' => e = .returned (.agg #[.int .i64 1, .int .i64 4]) ∧ Below w.heap.size w w' := by
  match x with
  | 0 => exact call_of (d := 20) (by kernel_rfl)
  | 1 => exact call_of (d := 20) (by kernel_rfl)
  | 2 => exact call_of (d := 20) (by kernel_rfl)
  | _ + 3 => exact call_of (d := 20) (show Ev.evalE Tryz.prog env0 20 24 [.agg #[.int .i64 1, .int .i64 3], .int .i64 0] = _ by kernel_rfl)
theorem aft (k x : Nat) (hk : k < 3) (w : World) : Calls Tryz.prog 24 #[.agg #[.int .i64 1, .int .i64 ((k : Int) + 1)], .int .i64 (rb x)] w fun e w' => e = .returned (.agg #[.int .i64 1, .int .i64 ((k : Int) + 1 + 1)]) ∧ Below w.heap.size w w' := by
  match k, hk with
  | 0, _ => exact aft0 x w
  | 1, _ => exact aft1 x w
  | 2, _ => exact aft2 x w

theorem ev_valid : Ev.evalE Tryz.prog env0 20 21 [.string src] = some (.bool true) := by kernel_rfl
theorem runes_in (w : World) : CallsIn Fence.wide 2 Tryz.prog 22 #[.string src] w fun e w' => e = .returned (.func (.func 26) #[] #[.pointer (some ⟨w.heap.size, 0, none⟩)]) ∧ w' = w.alloc (.cells #[.string src] 9) := by
  refine callsIn_of_wp Tryz.func22 rfl trivial ?_ rfl
  simp only [Tryz.ntmps22, List.size_toArray, List.length_cons, List.length_nil, Nat.reduceAdd, Nat.reduceSub, Array.replicate_succ, Array.replicate_zero, List.push_toArray, List.append_toArray, List.nil_append, List.cons_append]
  gi_wp2
  go_ret
  exact ⟨rfl, rfl⟩
/-- where the loop stands: the column and the number of bytes -/
structure At (n3 n6 : Nat) (c i : Int) (W : World) : Prop where
  c3 : W.heap[n3]? = some (Obj.cells #[.int .i64 3] 3)
  c4 : W.heap[n3 + 1]? = some (Obj.cells #[.int .i64 0, .int .i64 0] 47)
  c5 : W.heap[n3 + 1 + 1]? = some (Obj.cells #[.int .i64 0] 48)
  c6 : W.heap[n6]? = some (Obj.cells #[.int .i64 1, .int .i64 c] 47)
  c7 : W.heap[n6 + 1]? = some (Obj.cells #[.int .i64 i] 3)
  c8 : W.heap[n6 + 1 + 1]? = some (Obj.cells #[.string src] 9)
  lt : n3 + 1 + 1 < n6
theorem At.keep {n3 n6 : Nat} {c i : Int} {W W' : World} {row : Option Nat} (h : At n3 n6 c i W) (hg : W.grownBy W' row) (hr : ∀ r, row = some r → ∃ o : Obj, W.heap[r]? = some o ∧ o.isCells = false) : At n3 n6 c i W' := by
  have key : ∀ {b : Nat} {arr : Array Value} {e : TypeId}, W.heap[b]? = some (Obj.cells arr e) → W'.heap[b]? = some (Obj.cells arr e) := by
    intro b arr e hb
    rw [hg.block b (blk_lt hb) fun e' => ?_]
    · exact hb
    · obtain ⟨o, h1, h2⟩ := hr b e'.symm
      rw [hb] at h1; cases h1; cases h2
  exact ⟨key h.c3, key h.c4, key h.c5, key h.c6, key h.c7, key h.c8, h.lt⟩
theorem At.below {n3 n6 : Nat} {c i : Int} {W W' : World} (h : At n3 n6 c i W) (hb : Below W.heap.size W W') : At n3 n6 c i W' := h.keep (below_grown hb) (fun r e => by cases e)
theorem At.drew {n3 n6 : Nat} {c i : Int} {W : World} (h : At n3 n6 c i W) : At n3 n6 c i W.drew := ⟨h.c3, h.c4, h.c5, h.c6, h.c7, h.c8, h.lt⟩
/-- the cells -/
theorem At.cells {n3 n6 : Nat} {c i : Int} {W : World} (h : At n3 n6 c i W) : W.cell? ⟨n3, 0, none⟩ = some (.int .i64 3) ∧ W.cell? ⟨n3 + 1, 0, none⟩ = some (.int .i64 0) ∧ W.cell? ⟨n3 + 1, 1, none⟩ = some (.int .i64 0) ∧ W.cell? ⟨n3 + 1 + 1, 0, none⟩ = some (.int .i64 0) ∧
    W.cell? ⟨n6, 0, none⟩ = some (.int .i64 1) ∧ W.cell? ⟨n6, 1, none⟩ = some (.int .i64 c) ∧ W.cell? ⟨n6 + 1, 0, none⟩ = some (.int .i64 i) ∧
    W.frozen? ⟨n3 + 1, 0, none⟩ = false ∧ W.frozen? ⟨n3 + 1, 1, none⟩ = false ∧ W.frozen? ⟨n3 + 1 + 1, 0, none⟩ = false ∧ W.frozen? ⟨n6, 0, none⟩ = false ∧ W.frozen? ⟨n6, 1, none⟩ = false ∧ W.frozen? ⟨n6 + 1, 0, none⟩ = false :=
  ⟨blk_cell h.c3 rfl, blk_cell h.c4 rfl, blk_cell h.c4 rfl, blk_cell h.c5 rfl, blk_cell h.c6 rfl, blk_cell h.c6 rfl, blk_cell h.c7 rfl, blk_fr h.c4, blk_fr h.c4, blk_fr h.c5, blk_fr h.c6, blk_fr h.c6, blk_fr h.c7⟩
theorem At.set7 {n3 n6 : Nat} {c i j : Int} {W : World} (h : At n3 n6 c i W) : At n3 n6 c j (W.setCell ⟨n6 + 1, 0, none⟩ (.int .i64 j)) := by
  have hlt := h.lt
  refine ⟨?_, ?_, ?_, ?_, ?_, ?_, h.lt⟩
  · rw [heap_setCell_other _ _ _ _ (by simp; omega)]; exact h.c3
  · rw [heap_setCell_other _ _ _ _ (by simp; omega)]; exact h.c4
  · rw [heap_setCell_other _ _ _ _ (by simp; omega)]; exact h.c5
  · rw [heap_setCell_other _ _ _ _ (by simp)]; exact h.c6
  · rw [heap_setCell_same _ _ _ _ _ _ h.c7]; rfl
  · rw [heap_setCell_other _ _ _ _ (by simp)]; exact h.c8
/-- both cells of the column's block -/
theorem At.set6 {n3 n6 : Nat} {c i d : Int} {W : World} (h : At n3 n6 c i W) : At n3 n6 d i ((W.setCell ⟨n6, 0, none⟩ (.int .i64 1)).setCell ⟨n6, 1, none⟩ (.int .i64 d)) := by
  have hlt := h.lt
  refine ⟨?_, ?_, ?_, ?_, ?_, ?_, h.lt⟩
  · rw [heap_setCell_other _ _ _ _ (by simp; omega), heap_setCell_other _ _ _ _ (by simp; omega)]; exact h.c3
  · rw [heap_setCell_other _ _ _ _ (by simp; omega), heap_setCell_other _ _ _ _ (by simp; omega)]; exact h.c4
  · rw [heap_setCell_other _ _ _ _ (by simp; omega), heap_setCell_other _ _ _ _ (by simp; omega)]; exact h.c5
  · have h1 := heap_setCell_same W n6 0 _ _ (.int .i64 1) h.c6
    rw [heap_setCell_same _ _ _ _ _ _ h1]; rfl
  · rw [heap_setCell_other _ _ _ _ (by simp), heap_setCell_other _ _ _ _ (by simp)]; exact h.c7
  · rw [heap_setCell_other _ _ _ _ (by simp; omega), heap_setCell_other _ _ _ _ (by simp; omega)]; exact h.c8
/-- the answer's blocks -/
theorem At.ret {n3 n6 : Nat} {c i d : Int} {W : World} (h : At n3 n6 c i W) :
    (((W.setCell ⟨n3 + 1, 0, none⟩ (.int .i64 1)).setCell ⟨n3 + 1, 1, none⟩ (.int .i64 d)).setCell ⟨n3 + 1 + 1, 0, none⟩ (.int .i64 0)).heap[n3 + 1]? = some (Obj.cells #[.int .i64 1, .int .i64 d] 47) ∧
    (((W.setCell ⟨n3 + 1, 0, none⟩ (.int .i64 1)).setCell ⟨n3 + 1, 1, none⟩ (.int .i64 d)).setCell ⟨n3 + 1 + 1, 0, none⟩ (.int .i64 0)).heap[n3 + 1 + 1]? = some (Obj.cells #[.int .i64 0] 48) := by
  have h1 := heap_setCell_same W (n3 + 1) 0 _ _ (.int .i64 1) h.c4
  have h2 := heap_setCell_same _ (n3 + 1) 1 _ _ (.int .i64 d) h1
  constructor
  · rw [heap_setCell_other _ _ _ _ (by simp), h2]; rfl
  · have h3 : ((W.setCell ⟨n3 + 1, 0, none⟩ (.int .i64 1)).setCell ⟨n3 + 1, 1, none⟩ (.int .i64 d)).heap[n3 + 1 + 1]? = some (Obj.cells #[.int .i64 0] 48) := by
      rw [heap_setCell_other _ _ _ _ (by simp), heap_setCell_other _ _ _ _ (by simp)]; exact h.c5
    rw [heap_setCell_same _ _ _ _ _ _ h3]; rfl
set_option maxHeartbeats 2000000 in
theorem pos_in (w : World) : CallsIn Fence.wide 3 Tryz.prog 20 #[.string src, .int .i64 3] w fun e w' => e = .returned (.tuple #[.agg #[.int .i64 1, .int .i64 4], .int .i64 0]) ∧ Below w.heap.size w w' := by
  have hro : Fence.wide.round = none := rfl
  have hnn : 1 ≤ 3 := by omega
  refine callsIn_of_wp_marks Tryz.func20 rfl trivial ?_ hro
  simp only [Tryz.ntmps20, List.size_toArray, List.length_cons, List.length_nil, Nat.reduceAdd, Nat.reduceSub, Array.replicate_succ, Array.replicate_zero, List.push_toArray, List.append_toArray, List.nil_append, List.cons_append]
  gi_wp2_with (first | (refine ⟨trivial, ?_⟩; gi_at_call 21; refine (callsIn_wide.2 (call_of ev_valid _)).mono ?_; rintro e w' ⟨rfl, hb21⟩; have hb3 := blk_alloc (blk_alloc (blk_below' (blk_alloc (blk_alloc (heap_alloc_new w (.cells #[.int .i64 3] 3)) (.cells #[.int .i64 0, .int .i64 0] 47)) (.cells #[.int .i64 0] 48)) hb21) (.cells #[.int .i64 1, .int .i64 1] 47)) (.cells #[.int .i64 0] 3); have hc3 := blk_cell (j := 0) hb3 rfl) | (refine ⟨trivial, ?_⟩; gi_at_call 22; refine (runes_in _).mono ?_; rintro e w' ⟨rfl, rfl⟩))
  have hsz : w.heap.size + 1 + 1 < w'.heap.size := by have := hb21.size; simp at this; omega
  have hB0 : Below w.heap.size w w' := ((((Below.refl _ w).alloc (Nat.le_refl _) _).alloc (by simp) _).alloc (by simp; omega) _).trans (hb21.mono (by simp; omega))
  have hBL : Below w.heap.size w (((w'.alloc (.cells #[.int .i64 1, .int .i64 1] 47)).alloc (.cells #[.int .i64 0] 3)).alloc (.cells #[.string src] 9)) := ((hB0.alloc (by omega) _).alloc (by simp; omega) _).alloc (by simp; omega) _
  have hA0 : At w.heap.size w'.heap.size 1 0 (((w'.alloc (.cells #[.int .i64 1, .int .i64 1] 47)).alloc (.cells #[.int .i64 0] 3)).alloc (.cells #[.string src] 9)) := by
    refine ⟨blk_alloc hb3 _, ?_, ?_, ?_, ?_, ?_, hsz⟩
    · have h1 := heap_alloc_new (w.alloc (.cells #[.int .i64 3] 3)) (.cells #[.int .i64 0, .int .i64 0] 47)
      rw [World.size_alloc] at h1
      exact blk_alloc (blk_alloc (blk_alloc (blk_below' (blk_alloc h1 _) hb21) _) _) _
    · have h1 := heap_alloc_new ((w.alloc (.cells #[.int .i64 3] 3)).alloc (.cells #[.int .i64 0, .int .i64 0] 47)) (.cells #[.int .i64 0] 48)
      rw [World.size_alloc, World.size_alloc] at h1
      exact blk_alloc (blk_alloc (blk_alloc (blk_below' h1 hb21) _) _) _
    · exact blk_alloc (blk_alloc (heap_alloc_new w' _) _) _
    · have h1 := heap_alloc_new (w'.alloc (.cells #[.int .i64 1, .int .i64 1] 47)) (.cells #[.int .i64 0] 3)
      rw [World.size_alloc] at h1
      exact blk_alloc h1 _
    · have h1 := heap_alloc_new ((w'.alloc (.cells #[.int .i64 1, .int .i64 1] 47)).alloc (.cells #[.int .i64 0] 3)) (.cells #[.string src] 9)
      rw [World.size_alloc, World.size_alloc] at h1
      exact h1
  have hbs : (((w'.alloc (.cells #[.int .i64 1, .int .i64 1] 47)).alloc (.cells #[.int .i64 0] 3)).alloc (.cells #[.string src] 9)).heap[w'.heap.size + 1 + 1]? = some (.cells #[.string src] 9) := by
    have h1 := heap_alloc_new ((w'.alloc (.cells #[.int .i64 1, .int .i64 1] 47)).alloc (.cells #[.int .i64 0] 3)) (.cells #[.string src] 9)
    rw [World.size_alloc, World.size_alloc] at h1
    exact h1
  generalize hWL : (((w'.alloc (.cells #[.int .i64 1, .int .i64 1] 47)).alloc (.cells #[.int .i64 0] 3)).alloc (.cells #[.string src] 9)) = WL at hBL hA0 hbs ⊢
  refine wpIn_rangeFunc_ownF hro hnn (gf := 26) (lb := #[.pointer (some ⟨w'.heap.size + 1 + 1, 0, none⟩)]) rfl trivial (enters_of Tryz.func26 (by kernel_rfl) rfl)
    (runes_stops 2 (by omega) (w'.heap.size + 1 + 1) WL hbs) (fun h k => k.trans h) (fun W l o o' hl h _ _ => ?hKb) (Below.refl _ _) (fun _ => rfl)
    (fun pre W => At w.heap.size w'.heap.size ((pre.length : Int) + 1) (pre.length : Int) W ∧ pre.length < 3 ∧ Below w.heap.size w W)
    (fun c pre W => (c = .ret ∧ W.heap[w.heap.size + 1]? = some (Obj.cells #[.int .i64 1, .int .i64 4] 47) ∧ W.heap[w.heap.size + 1 + 1]? = some (Obj.cells #[.int .i64 0] 48)) ∧ Below w.heap.size w W)
    ?hI ?hIx ⟨by simpa using hA0, by simp, hBL⟩
    (fun x => { tmps := #[.string src, .int .i64 3, undef, .pointer (some ⟨w.heap.size, 0, none⟩), .pointer (some ⟨w.heap.size + 1, 0, none⟩), .pointer (some ⟨w.heap.size + 1 + 1, 0, none⟩), .pointer (some ⟨w'.heap.size, 0, none⟩), .pointer (some ⟨w'.heap.size + 1, 0, none⟩), .int .i64 (rb x), .string src, .bool true, .bool false, undef, .agg #[.int .i64 1, .int .i64 1], .int .i64 3, .bool false, undef, .string src, .func (.func 26) #[] #[.pointer (some ⟨w'.heap.size + 1 + 1, 0, none⟩)], .int .i64 (rb x), undef, undef, undef, undef, undef, undef, undef, undef, undef, undef, undef, undef], defers := [] }) ?assign ?body ?done ?stop
  case hKb =>
    show (W.putObj l o').heap[w'.heap.size + 1 + 1]? = _
    refine World.putObj_heap_other ?_
    have := blk_lt hbs
    omega
  case hI =>
    exact OwnFrom.and (Own.from (fun s A B row hs hg hr => hs.keep hg hr) _) (OwnFrom.and (Own.from (fun s A B row hs hg hr => hs) _) (ownFrom_below (Nat.le_refl _) hBL.size))
  case hIx =>
    refine fun c => OwnFrom.and (Own.from (fun s A B row hs hg hr => ?_) _) (ownFrom_below (Nat.le_refl _) hBL.size)
    have key : ∀ {b : Nat} {arr : Array Value} {e : TypeId}, A.heap[b]? = some (Obj.cells arr e) → B.heap[b]? = some (Obj.cells arr e) := by
      intro b arr e hb
      rw [hg.block b (blk_lt hb) fun e' => ?_]
      · exact hb
      · obtain ⟨o, h1, h2⟩ := hr b e'.symm
        rw [hb] at h1; cases h1; cases h2
    exact ⟨hs.1, key hs.2.1, key hs.2.2⟩
  case assign =>
    intro l x W K hK
    gi_wp2
    exact hK
  case body =>
    rintro l pre x W ⟨hAt, hlen, hB⟩ _
    obtain ⟨d3, d40, d41, d5, d60, d61, d7, g40, g41, g5, g60, g61, g7⟩ := hAt.cells
    have hmx : Tryz.prog.follows .mixedOrders = true := mixed
    gi_wp2
    gi_region_with_o (refine ⟨trivial, ?_⟩; gi_at_call 23; refine (CallsIn.inRound l (callsIn_wide.2 (wid x _))).mono ?_; rintro e W1 ⟨rfl, hb1⟩; have hAt1 := hAt.drew.below hb1; obtain ⟨e3, e40, e41, e5, e60, e61, e7, i40, i41, i5, i60, i61, i7⟩ := hAt1.cells)
    all_goals
      have hwrap : IntKind.i64.wrap ((pre.length : Int) + 1) = (pre.length : Int) + 1 := IntWalk.i64_in _ (by omega)
      have hbW : Below W.heap.size W W1 := ⟨hb1.os, hb1.tape, hb1.output, hb1.size, hb1.block⟩
      have hAt2 := hAt1.set7 (j := (pre.length : Int) + 1)
      have hk2 : KeepsOthers W (W1.setCell ⟨w'.heap.size + 1, 0, none⟩ (.int .i64 ((pre.length : Int) + 1))) := (KeepsOthers.of_grownBy (below_grown hbW) (fun j o e _ => by cases e)).trans (KeepsOthers.setCell _ _ _)
      have hB2 : Below w.heap.size w (W1.setCell ⟨w'.heap.size + 1, 0, none⟩ (.int .i64 ((pre.length : Int) + 1))) := (hB.trans (hbW.mono hB.size)).setCell (p := ⟨w'.heap.size + 1, 0, none⟩) (by simp; omega) _
      have hbs2 : ∀ o, W.heap[w'.heap.size + 1 + 1]? = some o → (W1.setCell ⟨w'.heap.size + 1, 0, none⟩ (.int .i64 ((pre.length : Int) + 1))).heap[w'.heap.size + 1 + 1]? = some o := fun o ho => by
        rw [heap_setCell_other _ _ _ _ (by simp)]; exact blk_below' ho hbW
      rw [hwrap]
      clear hAt1 e3 e40 e41 e5 e60 e61 e7 i40 i41 i5 i60 i61 i7
      generalize hW2 : W1.setCell ⟨w'.heap.size + 1, 0, none⟩ (.int .i64 ((pre.length : Int) + 1)) = W2 at hAt2 hk2 hB2 hbs2 ⊢
      obtain ⟨e3, e40, e41, e5, e60, e61, e7, i40, i41, i5, i60, i61, i7⟩ := hAt2.cells
      gi_wp2_with (first | (refine ⟨trivial, ?_⟩; gi_at_call 24; refine (CallsIn.inRound l (callsIn_wide.2 (aft pre.length x hlen _))).mono ?_; rintro e W3 ⟨rfl, hb3⟩; have hAt3 := hAt2.below hb3; obtain ⟨j3, j40, j41, j5, j60, j61, j7, k40, k41, k5, k60, k61, k7⟩ := hAt3.cells))
    all_goals
      have hbW3 : Below W2.heap.size W2 W3 := ⟨hb3.os, hb3.tape, hb3.output, hb3.size, hb3.block⟩
      have hB3 : Below w.heap.size w W3 := hB2.trans (hbW3.mono hB2.size)
      have hk3 : KeepsOthers W W3 := hk2.trans (KeepsOthers.of_grownBy (below_grown hbW3) (fun j o e _ => by cases e))
      have hl1 : ((pre ++ [x]).length : Int) = (pre.length : Int) + 1 := by simp
      rename_i h
      first
      | (have hp : pre.length = 2 := by
           have := eq_of_beq h
           omega
         refine ⟨((((hk3.trans (KeepsOthers.setCell _ _ _)).trans (KeepsOthers.setCell _ _ _)).trans (KeepsOthers.setCell _ _ _)).trans (KeepsOthers.setCell _ _ _)).trans (KeepsOthers.setCell _ _ _), ⟨rfl, ?_⟩, ?_⟩
         · have h9 := (hAt3.set6 (d := (pre.length : Int) + 1 + 1)).ret (d := (pre.length : Int) + 1 + 1)
           rw [hp] at h9 ⊢
           exact h9
         · have := hAt3.lt
           refine ((((hB3.setCell ?_ _).setCell ?_ _).setCell ?_ _).setCell ?_ _).setCell ?_ _ <;> simp <;> omega)
      | (have hp : pre.length + 1 ≠ 3 := by
           intro e
           have : ((pre.length : Int) + 1 == 3) = true := by rw [beq_iff_eq]; omega
           rw [this] at h; cases h
         refine ⟨(hk3.trans (KeepsOthers.setCell _ _ _)).trans (KeepsOthers.setCell _ _ _), ?_, ?_, ?_, ?_⟩
         · have h9 := (hAt3.set6 (d := (pre.length : Int) + 1 + 1)).c8
           exact h9.trans hAt.c8.symm
         · rw [hl1]; exact hAt3.set6
         · simp; omega
         · have := hAt3.lt
           refine (hB3.setCell ?_ _).setCell ?_ _ <;> simp <;> omega)
  case done =>
    rintro D xs W _ rfl ⟨_, hl, _⟩
    rw [upto_length] at hl
    omega
  case stop =>
    rintro D c pre W hD hpre ⟨⟨rfl, h4, h5⟩, hB⟩ hK
    have hg := grownBy_putObj' W D (.deferred none)
    have hr : ∀ r, some D = some r → ∃ o : Obj, W.heap[r]? = some o ∧ o.isCells = false := fun r e => by cases e; exact ⟨_, hK, rfl⟩
    have c40 := cell_kept (blk_cell (j := 0) h4 rfl) hg hr
    have c41 := cell_kept (blk_cell (j := 1) h4 rfl) hg hr
    have c5 := cell_kept (blk_cell (j := 0) h5 rfl) hg hr
    have hDw : w.heap.size ≤ D := Nat.le_trans hBL.size hD
    gi_wp2
    refine ⟨by simp, .inl ⟨_, _, rfl, run_takeDeferred hK, ?_⟩⟩
    refine ⟨.tuple #[.agg #[.int .i64 1, .int .i64 4], .int .i64 0], ?_, rfl, hB.trans (belowK_b (w := w) (Nat.le_refl _) W D _ _ hDw hK rfl rfl)⟩
    simp [results, Tryz.f20, go_sem, c40, c41, c5]
theorem pos (w : World) : Calls Tryz.prog 20 #[.string src, .int .i64 3] w fun e w' => e = .returned (.tuple #[.agg #[.int .i64 1, .int .i64 4], .int .i64 0]) ∧ Below w.heap.size w w' := callsIn_wide.1 (pos_in w)
end Go.Proofs.YtooaknpffjcakaaGreat
