/-
  Plain: more on the texts of paths.
-/
import Derived.Test.YthiafbkolhnadaaGreatDoorPx
import Derived.Test.YthiafbkolhnadaaGreatDoorBd
set_option linter.unusedVariables false
namespace Go.Dk
open Go Go.RowKit Go.Lib
/-- may the sign stand there in a name? -/
def okN (s : ByteArray) (j : Nat) : Prop := lowc (byteAt s j) ∨ (0 < j ∧ digc (byteAt s j))
/-- how far a name goes -/
def folP (s : ByteArray) (n : Nat) : Prop := n ≤ s.size ∧ (∀ j, j < n → okN s j) ∧ (n < s.size → ¬ okN s n)
theorem folP_ex (s : ByteArray) : ∃ n, folP s n := by
  by_cases h : ∃ k, k < s.size ∧ ¬ okN s k
  · obtain ⟨k, hk, hm⟩ := least_of h
    refine ⟨k, by omega, fun j hj => ?_, fun _ => hk.2⟩
    exact Classical.not_not.1 fun hn => by have := hm j ⟨by omega, hn⟩; omega
  · refine ⟨s.size, Nat.le_refl _, fun j hj => ?_, fun h => by omega⟩
    exact Classical.not_not.1 fun hn => h ⟨j, hj, hn⟩
theorem folP_uni {s : ByteArray} {m n : Nat} (h : folP s m) (h2 : folP s n) : m = n := by
  rcases Nat.lt_trichotomy m n with hl | hl | hl
  · exact absurd (h2.2.1 m hl) (h.2.2 (by have := h2.1; omega))
  · exact hl
  · exact absurd (h.2.1 n hl) (h2.2.2 (by have := h.1; omega))
noncomputable def folN (s : ByteArray) : Nat := Classical.choose (folP_ex s)
theorem folN_eq {s : ByteArray} {n : Nat} (h : folP s n) : folN s = n := folP_uni (Classical.choose_spec (folP_ex s)) h
theorem nm_iff (s : ByteArray) : (s ≠ ⟨#[]⟩ ∧ (folN s : Int) = s.size) ↔ isNm s := by
  have h := Classical.choose_spec (folP_ex s)
  change folP s (folN s) at h
  constructor
  · rintro ⟨h1, h2⟩
    have e : folN s = s.size := by omega
    refine ⟨?_, fun j hj => h.2.1 j (by omega)⟩
    rcases Nat.eq_zero_or_pos s.size with h0 | h0
    · exact absurd (ByteArray.size_eq_zero_iff.1 h0) h1
    · exact h0
  · intro hn
    refine ⟨fun e => ?_, ?_⟩
    · have := hn.1
      rw [e] at this
      exact absurd this (by decide)
    · rw [folN_eq (n := s.size) ⟨Nat.le_refl _, fun j hj => hn.2 j hj, fun h => by omega⟩]
/-- the leading point -/
def ldp (l : List Stp) : List UInt8 := match l with
  | s :: _ => if s.byIndex then [46] else []
  | [] => []
theorem ldp_le (l : List Stp) : (ldp l).length ≤ 1 := by
  unfold ldp
  split
  · split <;> simp
  · simp
theorem path_ldp {l : List Stp} (h : l ≠ []) : pathT l = ldp l ++ l.flatMap stpT := by
  cases l with
  | nil => exact absurd rfl h
  | cons s l => rfl
theorem step_ix {x : Stp} (h : x.byIndex = true) : stpT x = [91] ++ itoa x.index ++ [93] := by unfold stpT; rw [if_pos h]
theorem step_nm {x : Stp} (h : x.byIndex = false) (h2 : isNm x.key) : stpT x = [46] ++ x.key.data.toList := by
  unfold stpT; rw [if_neg (by rw [h]; exact Bool.noConfusion), if_pos h2]; rfl
theorem step_qt {x : Stp} (h : x.byIndex = false) (h2 : ¬ isNm x.key) : stpT x = [46] ++ ([34] ++ qtd x.key.data.toList ++ [34]) := by
  unfold stpT; rw [if_neg (by rw [h]; exact Bool.noConfusion), if_neg h2]; rfl
theorem itoa_le {n : Int} (h0 : 0 ≤ n) (h1 : n ≤ 1048576) : (itoa n).length ≤ 7 := by
  have h3 : n = ((n.toNat : Nat) : Int) := by omega
  rw [h3, itoa_nat]
  exact decDigits_len 6 n.toNat (by omega)
section
variable {w0 w : World} {L : List (Nat × Obj)} {R : List Row}
theorem ldp_T {l : List Stp} {x0 : Stp} (h : l[0]? = some x0) (hb : x0.byIndex = true) : ldp l = [46] := by
  cases l with
  | nil => simp at h
  | cons s l => simp at h; subst h; simp [ldp, hb]
theorem ldp_F {l : List Stp} {x0 : Stp} (h : l[0]? = some x0) (hb : x0.byIndex = false) : ldp l = [] := by
  cases l with
  | nil => simp at h
  | cons s l => simp at h; subst h; simp [ldp, hb]
end
end Go.Dk
namespace Go.Dk
open Go Go.RowKit Go.Lib
theorem path_pos (l : List Stp) : 0 < (pathT l).length := by
  cases l with
  | nil => simp [pathT]
  | cons s l =>
    have := step_two s
    simp only [pathT, List.flatMap_cons, List.length_append]
    omega
end Go.Dk
