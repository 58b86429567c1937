/-
  Plain: two valid paths with one text are one path.
-/
import Derived.Test.YthiafbkolhnadaaGreatDoorPa
set_option linter.unusedVariables false
set_option linter.unusedSimpArgs false
namespace Go.Dk
open Go Go.RowKit Go.Lib

set_option maxRecDepth 100000 in
theorem sgn_preF : ∀ a b : Fin 256, (sgn (UInt8.ofNat a.val)).isPrefixOf (sgn (UInt8.ofNat b.val)) = true → a = b := by decide +kernel
theorem sgn_pre (a b : UInt8) (h : (sgn a).isPrefixOf (sgn b) = true) : a = b := by
  have h1 := sgn_preF ⟨a.toNat, a.toNat_lt⟩ ⟨b.toNat, b.toNat_lt⟩
  simp only [UInt8.ofNat_toNat] at h1
  have h2 := h1 h
  simp only [Fin.mk.injEq] at h2
  exact UInt8.toNat_inj.1 h2
theorem sgn_headF : ∀ a : Fin 256, (sgn (UInt8.ofNat a.val)).head? ≠ some 34 ∧ sgn (UInt8.ofNat a.val) ≠ [] := by decide +kernel
theorem sgn_head (a : UInt8) : (sgn a).head? ≠ some 34 ∧ sgn a ≠ [] := by
  have h1 := sgn_headF ⟨a.toNat, a.toNat_lt⟩
  simpa only [UInt8.ofNat_toNat] using h1
theorem sgn_cancel {a b : UInt8} {x y : List UInt8} (h : sgn a ++ x = sgn b ++ y) : a = b ∧ x = y := by
  have hab : a = b := by
    have p1 : sgn a <+: sgn a ++ x := ⟨x, rfl⟩
    have p2 : sgn b <+: sgn a ++ x := ⟨y, h.symm⟩
    rcases Nat.le_total (sgn a).length (sgn b).length with hl | hl
    · exact sgn_pre a b (List.isPrefixOf_iff_prefix.2 (List.prefix_of_prefix_length_le p1 p2 hl))
    · exact (sgn_pre b a (List.isPrefixOf_iff_prefix.2 (List.prefix_of_prefix_length_le p2 p1 hl))).symm
  subst hab
  exact ⟨rfl, List.append_cancel_left h⟩
theorem sgn_quote (a : UInt8) (x y : List UInt8) : sgn a ++ x ≠ 34 :: y := by
  intro h
  obtain ⟨h1, h2⟩ := sgn_head a
  cases hs : sgn a with
  | nil => exact h2 hs
  | cons c t =>
    rw [hs] at h h1
    simp only [List.cons_append, List.cons.injEq] at h
    exact h1 (by simp [h.1])
theorem qtd_cancel : ∀ (k l : List UInt8) (x y : List UInt8), qtd k ++ 34 :: x = qtd l ++ 34 :: y → k = l ∧ x = y
  | [], [], x, y, h => by simpa [qtd] using h
  | [], b :: l, x, y, h => by
    simp only [qtd, List.flatMap_nil, List.nil_append, List.flatMap_cons, List.append_assoc] at h
    exact absurd h.symm (sgn_quote b _ _)
  | a :: k, [], x, y, h => by
    simp only [qtd, List.flatMap_nil, List.nil_append, List.flatMap_cons, List.append_assoc] at h
    exact absurd h (sgn_quote a _ _)
  | a :: k, b :: l, x, y, h => by
    simp only [qtd, List.flatMap_cons, List.append_assoc] at h
    obtain ⟨rfl, h2⟩ := sgn_cancel h
    obtain ⟨rfl, rfl⟩ := qtd_cancel k l x y (by simpa only [qtd] using h2)
    exact ⟨rfl, rfl⟩
/-- parts of signs of one kind, up to a sign of another kind or the end -/
theorem span_cancel (p : UInt8 → Prop) : ∀ (A B x y : List UInt8), (∀ c ∈ A, p c) → (∀ c ∈ B, p c) → (∀ c t, x = c :: t → ¬ p c) → (∀ c t, y = c :: t → ¬ p c) → A ++ x = B ++ y → A = B ∧ x = y
  | [], [], x, y, _, _, _, _, h => ⟨rfl, by simpa using h⟩
  | [], b :: B, x, y, _, hB, hx, _, h => absurd (hB b (by simp)) (hx b (B ++ y) (by simpa using h))
  | a :: A, [], x, y, hA, _, _, hy, h => absurd (hA a (by simp)) (hy a (A ++ x) (by simpa using h.symm))
  | a :: A, b :: B, x, y, hA, hB, hx, hy, h => by
    simp only [List.cons_append, List.cons.injEq] at h
    obtain ⟨rfl, h2⟩ := h
    obtain ⟨rfl, rfl⟩ := span_cancel p A B x y (fun c hc => hA c (by simp [hc])) (fun c hc => hB c (by simp [hc])) hx hy h2
    exact ⟨rfl, rfl⟩
def dgc (c : UInt8) : Prop := 48 ≤ c.toNat ∧ c.toNat ≤ 57
theorem dec_dgc (n : Nat) : ∀ c ∈ decDigits n, dgc c := by
  induction n using Nat.strongRecOn with
  | _ n ih =>
    unfold decDigits
    split
    · intro c hc
      obtain rfl := List.mem_singleton.1 hc
      have : (UInt8.ofNat (48 + n)).toNat = 48 + n := u8t (by omega)
      unfold dgc; omega
    · intro c hc
      rcases List.mem_append.1 hc with hc | hc
      · exact ih (n / 10) (by omega) c hc
      · obtain rfl := List.mem_singleton.1 hc
        have : (UInt8.ofNat (48 + n % 10)).toNat = 48 + n % 10 := u8t (by omega)
        unfold dgc; omega
def valD (l : List UInt8) : Nat := l.foldl (fun a c => 10 * a + (c.toNat - 48)) 0
theorem valD_dec (n : Nat) : valD (decDigits n) = n := by
  induction n using Nat.strongRecOn with
  | _ n ih =>
    unfold decDigits
    split
    · have : (UInt8.ofNat (48 + n)).toNat = 48 + n := u8t (by omega)
      simp only [valD, List.foldl_cons, List.foldl_nil, this]; omega
    · have h1 := ih (n / 10) (by omega)
      have : (UInt8.ofNat (48 + n % 10)).toNat = 48 + n % 10 := u8t (by omega)
      unfold valD at h1 ⊢
      rw [List.foldl_append, h1]
      simp only [List.foldl_cons, List.foldl_nil, this]; omega
theorem dec_inj {m n : Nat} (h : decDigits m = decDigits n) : m = n := by rw [← valD_dec m, ← valD_dec n, h]
def nmc (c : UInt8) : Prop := lowc c.toNat ∨ digc c.toNat
theorem isNm_all {s : ByteArray} (h : isNm s) : ∀ c ∈ s.data.toList, nmc c := by
  intro c hc
  obtain ⟨j, hj⟩ := List.getElem?_of_mem hc
  have hlt := (List.getElem?_eq_some_iff.1 hj).1
  have h1 := h.2 j (by simpa using hlt)
  have e : byteAt s j = (c.toNat : Int) := by
    unfold byteAt
    simp only [Int.toNat_natCast, List.getD, hj, Option.getD_some]
  rw [e] at h1
  exact h1.imp id (·.2)
theorem isNm_ne {s : ByteArray} (h : isNm s) : s.data.toList ≠ [] := by
  intro e
  have h0 := h.1
  have : s.data.toList.length = s.size := by simp
  rw [e] at this
  simp at this; omega
/-- a valid step -/
def Vs (s : Stp) : Prop := (s.byIndex = true → s.key = ⟨#[]⟩ ∧ 0 ≤ s.index) ∧ (s.byIndex = false → s.index = 0)
theorem step_head (s : Stp) : ∃ t, stpT s = (if s.byIndex then 91 else 46) :: t := by
  unfold stpT
  split
  · rename_i h; exact ⟨itoa s.index ++ [93], by simp [h]⟩
  · rename_i h
    split
    · exact ⟨s.key.data.toList, by simp [h]⟩
    · exact ⟨34 :: (qtd s.key.data.toList ++ [34]), by simp [h]⟩
theorem flat_head {l : List Stp} {c : UInt8} {t : List UInt8} (h : l.flatMap stpT = c :: t) : c = 46 ∨ c = 91 := by
  cases l with
  | nil => simp at h
  | cons s l =>
    obtain ⟨u, hu⟩ := step_head s
    simp only [List.flatMap_cons, hu, List.cons_append, List.cons.injEq] at h
    rw [← h.1]
    split <;> simp
theorem ba_ext {a b : ByteArray} (h : a.data.toList = b.data.toList) : a = b := by
  cases a; cases b; congr 1; exact Array.toList_inj.1 h
theorem step_cancel {s u : Stp} {x y : List UInt8} (hs : Vs s) (hu : Vs u) (hx : ∀ c t, x = c :: t → c = 46 ∨ c = 91) (hy : ∀ c t, y = c :: t → c = 46 ∨ c = 91) (h : stpT s ++ x = stpT u ++ y) : s = u ∧ x = y := by
  have np : ∀ c : UInt8, (c = 46 ∨ c = 91) → ¬ nmc c := by
    rintro c (rfl | rfl) <;> unfold nmc lowc digc <;> decide
  obtain ⟨si, sk, sx⟩ := s
  obtain ⟨ui, uk, ux⟩ := u
  have hh : si = ui := by
    obtain ⟨t1, h1⟩ := step_head ⟨si, sk, sx⟩
    obtain ⟨t2, h2⟩ := step_head ⟨ui, uk, ux⟩
    rw [h1, h2] at h
    simp only [List.cons_append, List.cons.injEq] at h
    cases si <;> cases ui <;> simp at h ⊢
  subst hh
  cases si with
  | true =>
    obtain ⟨hk1, hi1⟩ := hs.1 rfl
    obtain ⟨hk2, hi2⟩ := hu.1 rfl
    simp only at hk1 hi1 hk2 hi2
    subst hk1; subst hk2
    unfold stpT at h
    simp only [if_true, List.append_assoc, List.cons_append, List.nil_append, List.cons.injEq, true_and] at h
    obtain ⟨m, rfl⟩ : ∃ m : Nat, sx = m := ⟨sx.toNat, by omega⟩
    obtain ⟨n, rfl⟩ : ∃ n : Nat, ux = n := ⟨ux.toNat, by omega⟩
    rw [itoa_nat, itoa_nat] at h
    obtain ⟨e1, e2⟩ := span_cancel dgc _ _ _ _ (dec_dgc m) (dec_dgc n) (by intro c t he; simp only [List.cons.injEq] at he; rw [← he.1]; unfold dgc; decide) (by intro c t he; simp only [List.cons.injEq] at he; rw [← he.1]; unfold dgc; decide) h
    simp only [List.cons.injEq, true_and] at e2
    rw [dec_inj e1]
    exact ⟨rfl, e2⟩
  | false =>
    have e1 := hs.2 rfl
    have e2 := hu.2 rfl
    simp only at e1 e2
    subst e1; subst e2
    unfold stpT at h
    simp only [Bool.false_eq_true, if_false] at h
    by_cases c1 : isNm sk <;> by_cases c2 : isNm uk
    · rw [if_pos c1, if_pos c2] at h
      simp only [List.cons_append, List.cons.injEq, true_and] at h
      obtain ⟨e1, e2⟩ := span_cancel nmc _ _ _ _ (isNm_all c1) (isNm_all c2) (fun c t he => np c (hx c t he)) (fun c t he => np c (hy c t he)) h
      rw [ba_ext e1]
      exact ⟨rfl, e2⟩
    · exfalso
      rw [if_pos c1, if_neg c2] at h
      simp only [List.cons_append, List.cons.injEq, true_and, List.append_assoc, List.nil_append] at h
      cases hl : sk.data.toList with
      | nil => exact isNm_ne c1 hl
      | cons c t =>
        rw [hl] at h
        simp only [List.cons_append, List.cons.injEq] at h
        have := isNm_all c1 c (by rw [hl]; simp)
        rw [h.1] at this
        unfold nmc lowc digc at this
        revert this; decide
    · exfalso
      rw [if_neg c1, if_pos c2] at h
      simp only [List.cons_append, List.cons.injEq, true_and, List.append_assoc, List.nil_append] at h
      cases hl : uk.data.toList with
      | nil => exact isNm_ne c2 hl
      | cons c t =>
        rw [hl] at h
        simp only [List.cons_append, List.cons.injEq] at h
        have := isNm_all c2 c (by rw [hl]; simp)
        rw [← h.1] at this
        unfold nmc lowc digc at this
        revert this; decide
    · rw [if_neg c1, if_neg c2] at h
      simp only [List.cons_append, List.cons.injEq, true_and, List.append_assoc, List.nil_append] at h
      obtain ⟨e1, e2⟩ := qtd_cancel _ _ _ _ h
      rw [ba_ext e1]
      exact ⟨rfl, e2⟩
theorem flat_inj : ∀ (k l : List Stp), (∀ s ∈ k, Vs s) → (∀ s ∈ l, Vs s) → k.flatMap stpT = l.flatMap stpT → k = l
  | [], [], _, _, _ => rfl
  | [], u :: l, _, _, h => by
    obtain ⟨t, ht⟩ := step_head u
    rw [List.flatMap_cons, ht] at h
    simp at h
  | s :: k, [], _, _, h => by
    obtain ⟨t, ht⟩ := step_head s
    rw [List.flatMap_cons, ht] at h
    simp at h
  | s :: k, u :: l, hk, hl, h => by
    rw [List.flatMap_cons, List.flatMap_cons] at h
    obtain ⟨rfl, h2⟩ := step_cancel (hk s (by simp)) (hl u (by simp)) (fun c t he => flat_head he) (fun c t he => flat_head he) h
    rw [flat_inj k l (fun x hx => hk x (by simp [hx])) (fun x hx => hl x (by simp [hx])) h2]
theorem step_two (s : Stp) : 2 ≤ (stpT s).length := by
  unfold stpT
  split
  · simp
  · split
    · rename_i h
      have := isNm_ne h
      cases hl : s.key.data.toList with
      | nil => exact absurd hl this
      | cons c t => simp
    · simp
theorem path_inj {k l : List Stp} (hk : ∀ s ∈ k, Vs s) (hl : ∀ s ∈ l, Vs s) (h : pathT k = pathT l) : k = l := by
  cases k with
  | nil =>
    cases l with
    | nil => rfl
    | cons u l =>
      exfalso
      have h1 := congrArg List.length h
      have h2 := step_two u
      simp only [pathT, List.flatMap_cons, List.length_append, List.length_singleton] at h1
      omega
  | cons s k =>
    cases l with
    | nil =>
      exfalso
      have h1 := congrArg List.length h
      have h2 := step_two s
      simp only [pathT, List.flatMap_cons, List.length_append, List.length_singleton] at h1
      omega
    | cons u l =>
      refine flat_inj _ _ hk hl ?_
      unfold pathT at h
      simp only at h
      by_cases c1 : s.byIndex = true <;> by_cases c2 : u.byIndex = true
      · simpa [c1, c2] using h
      · exfalso
        rw [if_pos c1, if_neg c2] at h
        obtain ⟨t1, h1⟩ := step_head s
        simp only [List.flatMap_cons, h1, c1, if_true, List.cons_append, List.nil_append] at h
        have h5 := step_two u
        unfold stpT at h h5
        rw [if_neg c2] at h h5
        split at h
        · rename_i hn
          cases hq : u.key.data.toList with
          | nil => exact isNm_ne hn hq
          | cons c t =>
            rw [hq] at h
            simp only [List.cons_append, List.cons.injEq, true_and] at h
            have := isNm_all hn c (by rw [hq]; simp)
            rw [← h.1] at this
            unfold nmc lowc digc at this
            revert this; decide
        · simp at h
      · exfalso
        rw [if_neg c1, if_pos c2] at h
        obtain ⟨t1, h1⟩ := step_head u
        simp only [List.flatMap_cons, h1, c2, if_true, List.cons_append, List.nil_append] at h
        unfold stpT at h
        rw [if_neg c1] at h
        split at h
        · rename_i hn
          cases hq : s.key.data.toList with
          | nil => exact isNm_ne hn hq
          | cons c t =>
            rw [hq] at h
            simp only [List.cons_append, List.cons.injEq, true_and] at h
            have := isNm_all hn c (by rw [hq]; simp)
            rw [h.1] at this
            unfold nmc lowc digc at this
            revert this; decide
        · simp at h
      · simpa [c1, c2] using h
end Go.Dk
