/-
  ReaderNames, walked.
-/
import Derived.Test.YtooaknpffjcakaaGreatFd
set_option linter.unusedVariables false
set_option maxRecDepth 100000
namespace Go.Proofs.YtooaknpffjcakaaGreat
open Go Go.Ev Go.RowKit Go.Shelf
attribute [local go_sem] Oper.semAt_some
theorem usual8 (w : World) : CallsIn Fence.wide 4 Tryz.prog 8 #[] w fun e w' => e = .returned usual ∧ Below w.heap.size w w' := callsIn_wide.2 (call_of usual8_k w)
theorem usual9 (w : World) : CallsIn Fence.wide 4 Tryz.prog 9 #[] w fun e w' => e = .returned usual ∧ Below w.heap.size w w' := callsIn_wide.2 (call_of usual9_k w)
theorem lives_in (w : World) : CallsIn Fence.wide 4 Tryz.prog 10 #[] w fun e w' => e = .returned (.bool true) ∧ Below w.heap.size w w' := callsIn_wide.2 (lives w)
theorem name6' (i : Int) (w : World) : CallsIn Fence.wide 4 Tryz.prog 6 #[.int .i64 i] w fun e w' => e = .returned (.string (nm i)) ∧ Below w.heap.size w w' := callsIn_wide.2 (callsIn_wide.1 (name6 i w))
theorem name7' (i : Int) (w : World) : CallsIn Fence.wide 4 Tryz.prog 7 #[.int .i64 i] w fun e w' => e = .returned (.string (nm i)) ∧ Below w.heap.size w w' := callsIn_wide.2 (callsIn_wide.1 (name7 i w))
theorem named4' (s : ByteArray) (w : World) : CallsIn Fence.wide 4 Tryz.prog 4 #[.string s] w fun e w' => e = .returned (.tuple #[.int .i64 (nd s).1, .bool (nd s).2]) ∧ Below w.heap.size w w' := callsIn_wide.2 (callsIn_wide.1 (named4 s w))
theorem named5' (s : ByteArray) (w : World) : CallsIn Fence.wide 4 Tryz.prog 5 #[.string s] w fun e w' => e = .returned (.tuple #[.int .i64 (nd s).1, .bool (nd s).2]) ∧ Below w.heap.size w w' := callsIn_wide.2 (callsIn_wide.1 (named5 s w))
theorem us_g (X Y : Operand) (w : World) : (eqGuard BinOp.eql 30 X Y usual usual).run Tryz.prog w = .ok () w := pr_run (show pr Tryz.prog (eqGuard BinOp.eql 30 X Y usual usual) = some () by kernel_rfl) w
theorem us_b (w : World) : (binOp BinOp.eql 30 usual usual).run Tryz.prog w = .ok (.bool true) w := pr_run (show pr Tryz.prog (binOp BinOp.eql 30 usual usual) = some (.bool true) by kernel_rfl) w
attribute [local go_sem] us_g us_b
set_option maxHeartbeats 2000000 in
theorem law3 (i : Int) (s : ByteArray) (w : World) : CallsIn Fence.wide 5 Tryz.prog 3 #[.int .i64 i, .string s] w fun e w' => e = .returned (.bool true) ∧ Below w.heap.size w w' := by
  have hmx : Tryz.prog.follows .mixedOrders = true := mixed
  refine callsIn_of_wp Tryz.func3 rfl trivial ?_ rfl
  simp only [Tryz.ntmps3, List.size_toArray, List.length_cons, List.length_nil, Nat.reduceAdd, Nat.reduceSub, Array.replicate_succ, Array.replicate_zero, List.push_toArray, List.append_toArray, List.nil_append, List.cons_append]
  gi_wp2_with (first | (refine ⟨trivial, ?_⟩; gi_at_call 4; refine (named4' _ _).mono ?_; rintro e w4 ⟨rfl, hb4⟩) | (refine ⟨trivial, ?_⟩; gi_at_call 5; refine (named5' _ _).mono ?_; rintro e w5 ⟨rfl, hb5⟩) | (refine ⟨trivial, ?_⟩; gi_at_call 6; refine (name6' _ _).mono ?_; rintro e w6 ⟨rfl, hb6⟩) | (refine ⟨trivial, ?_⟩; gi_at_call 7; refine (name7' _ _).mono ?_; rintro e w7 ⟨rfl, hb7⟩) | (refine ⟨trivial, ?_⟩; gi_at_call 8; refine (usual8 _).mono ?_; rintro e w8 ⟨rfl, hb8⟩) | (refine ⟨trivial, ?_⟩; gi_at_call 9; refine (usual9 _).mono ?_; rintro e w9 ⟨rfl, hb9⟩) | (refine ⟨trivial, ?_⟩; gi_at_call 10; refine (lives_in _).mono ?_; rintro e w10 ⟨rfl, hb10⟩))
  go_ret
  have n4 := hb4.size
  have n5 := hb5.size
  have n6 := hb6.size
  have n7 := hb7.size
  have n8 := hb8.size
  have n9 := hb9.size
  exact ⟨rfl, hb4.trans ((hb5.mono (by omega)).trans ((hb6.mono (by omega)).trans ((hb7.mono (by omega)).trans ((hb8.mono (by omega)).trans ((hb9.mono (by omega)).trans (hb10.mono (by omega)))))))⟩
theorem law (i : Int) (s : ByteArray) (w : World) : Calls Tryz.prog 3 #[.int .i64 i, .string s] w fun e w' => e = .returned (.bool true) ∧ Below w.heap.size w w' := callsIn_wide.1 (law3 i s w)
end Go.Proofs.YtooaknpffjcakaaGreat
