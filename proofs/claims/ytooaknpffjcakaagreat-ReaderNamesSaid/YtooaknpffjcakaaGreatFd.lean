/-
  The names, and the usual bounds.
-/
import Derived.Test.YtooaknpffjcakaaGreatFc
set_option linter.unusedVariables false
set_option maxRecDepth 100000
namespace Go.Proofs.YtooaknpffjcakaaGreat
open Go Go.Ev Go.RowKit Go.Shelf
attribute [local go_sem] Oper.semAt_some

/-- the names of the four forms -/
def nb1 : ByteArray := ⟨#[98, 114, 97, 99, 101]⟩
def nb2 : ByteArray := ⟨#[105, 110, 100, 101, 110, 116]⟩
def nb3 : ByteArray := ⟨#[116, 97, 98, 108, 101]⟩
def nb4 : ByteArray := ⟨#[100, 101, 108, 105, 109]⟩
def nm (i : Int) : ByteArray := if i = 1 then nb1 else if i = 2 then nb2 else if i = 3 then nb3 else if i = 4 then nb4 else ⟨#[]⟩
theorem nm_1 : nm 1 = nb1 := rfl
theorem nm_2 : nm 2 = nb2 := rfl
theorem nm_3 : nm 3 = nb3 := rfl
theorem nm_4 : nm 4 = nb4 := rfl

def usual : Value := .agg #[.int .i64 48, .int .i64 65536, .int .i64 1048576, .int .i64 1024, .int .i64 65536, .int .u8 44, .int .u8 34, .bool true, .bool true]
theorem usual8_k : evalE Tryz.prog env0 20 8 [] = some usual := by kernel_rfl
theorem usual9_k : evalE Tryz.prog env0 20 9 [] = some usual := by kernel_rfl

theorem nm_no {i : Int} (h1 : i ≠ 1) (h2 : i ≠ 2) (h3 : i ≠ 3) (h4 : i ≠ 4) : nm i = ⟨#[]⟩ := by simp [nm, h1, h2, h3, h4]
theorem name6 (i : Int) (w : World) : CallsIn Fence.wide 2 Tryz.prog 6 #[.int .i64 i] w fun e w' => e = .returned (.string (nm i)) ∧ Below w.heap.size w w' := by
  refine callsIn_of_wp Tryz.func6 rfl trivial ?_ rfl
  simp only [Tryz.ntmps6, List.size_toArray, List.length_cons, List.length_nil, Nat.reduceAdd, Nat.reduceSub, Array.replicate_succ, Array.replicate_zero, List.push_toArray, List.append_toArray, List.nil_append, List.cons_append]
  gi_wp2
  all_goals go_ret
  all_goals refine ⟨?_, Below.refl _ _⟩
  all_goals congr 2
  · rename_i h; rw [eq_of_beq h]; rfl
  · rename_i h; rw [eq_of_beq h]; rfl
  · rename_i h; rw [eq_of_beq h]; rfl
  · rename_i h; rw [eq_of_beq h]; rfl
  · rename_i h1 h2 h3 h4
    rw [nm_no (by simpa using h1) (by simpa using h2) (by simpa using h3) (by simpa using h4)]; rfl
theorem n71 : evalE Tryz.prog env0 20 7 [.int .i64 1] = some (.string nb1) := by kernel_rfl
theorem n72 : evalE Tryz.prog env0 20 7 [.int .i64 2] = some (.string nb2) := by kernel_rfl
theorem n73 : evalE Tryz.prog env0 20 7 [.int .i64 3] = some (.string nb3) := by kernel_rfl
theorem n74 : evalE Tryz.prog env0 20 7 [.int .i64 4] = some (.string nb4) := by kernel_rfl
theorem name7 (i : Int) (w : World) : CallsIn Fence.wide 2 Tryz.prog 7 #[.int .i64 i] w fun e w' => e = .returned (.string (nm i)) ∧ Below w.heap.size w w' := by
  by_cases h1 : i = 1
  · subst h1; exact callsIn_wide.2 (call_of n71 w)
  by_cases h2 : i = 2
  · subst h2; exact callsIn_wide.2 (call_of n72 w)
  by_cases h3 : i = 3
  · subst h3; exact callsIn_wide.2 (call_of n73 w)
  by_cases h4 : i = 4
  · subst h4; exact callsIn_wide.2 (call_of n74 w)
  rw [nm_no h1 h2 h3 h4]
  refine callsIn_of_wp Tryz.func7 rfl trivial ?_ rfl
  simp only [Tryz.ntmps7, List.size_toArray, List.length_cons, List.length_nil, Nat.reduceAdd, Nat.reduceSub, Array.replicate_succ, Array.replicate_zero, List.push_toArray, List.append_toArray, List.nil_append, List.cons_append]
  gi_wp2
  all_goals try (exfalso; omega)
  all_goals go_ret
  all_goals exact ⟨rfl, Below.refl _ _⟩
/-- the form with that name -/
def nd (s : ByteArray) : Int × Bool := if nb1 = s then (1, true) else if nb2 = s then (2, true) else if nb3 = s then (3, true) else if nb4 = s then (4, true) else (0, false)
theorem nd_hit {s : ByteArray} {k : Nat} (hk : 1 ≤ k) (hk4 : k ≤ 4) (hno : ∀ j : Nat, 1 ≤ j → j < k → nm j ≠ s) (h : nm k = s) : nd s = ((k : Int), true) := by
  obtain rfl | rfl | rfl | rfl : k = 1 ∨ k = 2 ∨ k = 3 ∨ k = 4 := by omega
  · have e1 : nb1 = s := h
    simp [nd, e1]
  · have n1 : nb1 ≠ s := hno 1 (by omega) (by omega)
    have e1 : nb2 = s := h
    simp [nd, n1, e1]
  · have n1 : nb1 ≠ s := hno 1 (by omega) (by omega)
    have n2 : nb2 ≠ s := hno 2 (by omega) (by omega)
    have e1 : nb3 = s := h
    simp [nd, n1, n2, e1]
  · have n1 : nb1 ≠ s := hno 1 (by omega) (by omega)
    have n2 : nb2 ≠ s := hno 2 (by omega) (by omega)
    have n3 : nb3 ≠ s := hno 3 (by omega) (by omega)
    have e1 : nb4 = s := h
    simp [nd, n1, n2, n3, e1]
theorem nd_no {s : ByteArray} (hno : ∀ j : Nat, 1 ≤ j → j < 5 → nm j ≠ s) : nd s = (0, false) := by
  have n1 : nb1 ≠ s := hno 1 (by omega) (by omega)
  have n2 : nb2 ≠ s := hno 2 (by omega) (by omega)
  have n3 : nb3 ≠ s := hno 3 (by omega) (by omega)
  have n4 : nb4 ≠ s := hno 4 (by omega) (by omega)
  simp [nd, n1, n2, n3, n4]
theorem named4 (s : ByteArray) (w : World) : CallsIn Fence.wide 3 Tryz.prog 4 #[.string s] w fun e w' => e = .returned (.tuple #[.int .i64 (nd s).1, .bool (nd s).2]) ∧ Below w.heap.size w w' := by
  refine callsIn_of_wp Tryz.func4 rfl trivial ?_ rfl
  simp only [Tryz.ntmps4, List.size_toArray, List.length_cons, List.length_nil, Nat.reduceAdd, Nat.reduceSub, Array.replicate_succ, Array.replicate_zero, List.push_toArray, List.append_toArray, List.nil_append, List.cons_append]
  gi_wp2
  gi_loopw [4] (fun i wr => ∃ k : Nat, 1 ≤ k ∧ k ≤ 5 ∧ i = .int .i64 k ∧ (∀ j : Nat, 1 ≤ j → j < k → nm j ≠ s) ∧ Below w.heap.size w wr)
    (fun i _ => 5 - (intOf i).toNat)
  case atStart => exact ⟨1, by omega, by omega, rfl, fun j h1 h2 => by omega, Below.refl _ _⟩
  case round =>
    obtain ⟨k, hk1, hk5, rfl, hno, hB⟩ := hrel
    gi_wp2_with (refine ⟨trivial, ?_⟩; gi_at_call 6; refine (name6 _ _).mono ?_; rintro e w' ⟨rfl, hbw⟩)
    · rename_i h4 h
      rw [Dk.bytes_eq, decide_eq_true_eq] at h
      have hd := nd_hit hk1 (by omega) hno h
      go_ret2
      refine ⟨?_, hB.trans (hbw.mono hB.size)⟩
      rw [hd]; rfl
    · rename_i h4 h
      rw [Dk.bytes_eq, decide_eq_false_iff_not] at h
      refine ⟨⟨k + 1, by omega, by omega, by simp, fun j h1 h2 => ?_, hB.trans (hbw.mono hB.size)⟩, by simp [intOf]; omega⟩
      by_cases hj : j = k
      · subst hj; exact h
      · exact hno j h1 (by omega)
    · have hd := nd_no (s := s) fun j h1 h2 => hno j h1 (by omega)
      go_ret2
      refine ⟨?_, hB⟩
      rw [hd]; rfl
theorem named5 (s : ByteArray) (w : World) : CallsIn Fence.wide 3 Tryz.prog 5 #[.string s] w fun e w' => e = .returned (.tuple #[.int .i64 (nd s).1, .bool (nd s).2]) ∧ Below w.heap.size w w' := by
  refine callsIn_of_wp Tryz.func5 rfl trivial ?_ rfl
  simp only [Tryz.ntmps5, List.size_toArray, List.length_cons, List.length_nil, Nat.reduceAdd, Nat.reduceSub, Array.replicate_succ, Array.replicate_zero, List.push_toArray, List.append_toArray, List.nil_append, List.cons_append]
  gi_wp2
  gi_loopw [4] (fun i wr => ∃ k : Nat, 1 ≤ k ∧ k ≤ 5 ∧ i = .int .i64 k ∧ (∀ j : Nat, 1 ≤ j → j < k → nm j ≠ s) ∧ Below w.heap.size w wr)
    (fun i _ => 5 - (intOf i).toNat)
  case atStart => exact ⟨1, by omega, by omega, rfl, fun j h1 h2 => by omega, Below.refl _ _⟩
  case round =>
    obtain ⟨k, hk1, hk5, rfl, hno, hB⟩ := hrel
    gi_wp2_with (refine ⟨trivial, ?_⟩; gi_at_call 7; refine (name7 _ _).mono ?_; rintro e w' ⟨rfl, hbw⟩)
    · rename_i h4 h
      rw [Dk.bytes_eq, decide_eq_true_eq] at h
      have hd := nd_hit hk1 (by omega) hno h
      go_ret2
      refine ⟨?_, hB.trans (hbw.mono hB.size)⟩
      rw [hd]; rfl
    · rename_i h4 h
      rw [Dk.bytes_eq, decide_eq_false_iff_not] at h
      refine ⟨⟨k + 1, by omega, by omega, by simp, fun j h1 h2 => ?_, hB.trans (hbw.mono hB.size)⟩, by simp [intOf]; omega⟩
      by_cases hj : j = k
      · subst hj; exact h
      · exact hno j h1 (by omega)
    · have hd := nd_no (s := s) fun j h1 h2 => hno j h1 (by omega)
      go_ret2
      refine ⟨?_, hB⟩
      rw [hd]; rfl
end Go.Proofs.YtooaknpffjcakaaGreat
