/-
  Common elements, as plain lists; parts of lists.
-/
import Derived.Test.YtmkihcdcgkdilaaQd
set_option linter.unusedVariables false
set_option linter.unusedSimpArgs false
namespace Go.Dk
open Go Go.RowKit
/-- on, while q holds, at most so often -/
def upw (q : Nat → Bool) : Nat → Nat → Nat
  | 0, p => p
  | d + 1, p => if q p then upw q d (p + 1) else p
theorem upw_le (q : Nat → Bool) : ∀ d p, upw q d p ≤ p + d
  | 0, p => by simp [upw]
  | d + 1, p => by
    unfold upw
    split
    · have := upw_le q d (p + 1); omega
    · omega
theorem upw_ge (q : Nat → Bool) : ∀ d p, p ≤ upw q d p
  | 0, p => by simp [upw]
  | d + 1, p => by
    unfold upw
    split
    · have := upw_ge q d (p + 1); omega
    · omega
theorem upw_bd {q : Nat → Bool} {m : Nat} (h : ∀ j, q j = true → j < m) : ∀ d p, p ≤ m → upw q d p ≤ m
  | 0, p, hp => by simpa [upw] using hp
  | d + 1, p, hp => by
    unfold upw
    split
    · rename_i hq
      exact upw_bd h d (p + 1) (h p hq)
    · exact hp
theorem upw_yes {q : Nat → Bool} {d p : Nat} (h : q p = true) : upw q (d + 1) p = upw q d (p + 1) := by
  conv => lhs; unfold upw
  rw [if_pos h]
theorem upw_no {q : Nat → Bool} {d p : Nat} (h : d = 0 ∨ q p = false) : upw q d p = p := by
  cases d with
  | zero => rfl
  | succ d =>
    unfold upw
    rcases h with h | h
    · cases h
    · rw [h]; rfl
/-- what holds at each place gone over -/
theorem upw_all {q : Nat → Bool} : ∀ d p j, p ≤ j → j < upw q d p → q j = true
  | 0, p, j, h1, h2 => by simp [upw] at h2; omega
  | d + 1, p, j, h1, h2 => by
    by_cases hq : q p = true
    · rw [upw_yes hq] at h2
      rcases Nat.eq_or_lt_of_le h1 with e | hl
      · subst e; exact hq
      · exact upw_all d (p + 1) j hl h2
    · rw [upw_no (.inr (by simpa using hq))] at h2; omega
def qPre (E : V → V → Bool) (a b : List V) (p : Nat) : Bool := decide (p < b.length) && E (a.getD p nulV) (b.getD p nulV)
def nPre (E : V → V → Bool) (a b : List V) : Nat := upw (qPre E a b) a.length 0
def qSuf (E : V → V → Bool) (a b : List V) (P s : Nat) : Bool := decide (s < b.length - P) && E (a.getD (a.length - 1 - s) nulV) (b.getD (b.length - 1 - s) nulV)
def nSuf (E : V → V → Bool) (a b : List V) : Nat := upw (qSuf E a b (nPre E a b)) (a.length - nPre E a b) 0
theorem nPre_a (E : V → V → Bool) (a b : List V) : nPre E a b ≤ a.length := by
  have := upw_le (qPre E a b) a.length 0; unfold nPre; omega
theorem nPre_b (E : V → V → Bool) (a b : List V) : nPre E a b ≤ b.length := upw_bd (fun j h => by simp [qPre] at h; exact h.1) _ _ (by omega)
theorem nSuf_a (E : V → V → Bool) (a b : List V) : nSuf E a b ≤ a.length - nPre E a b := by
  have := upw_le (qSuf E a b (nPre E a b)) (a.length - nPre E a b) 0; unfold nSuf; omega
theorem nSuf_b (E : V → V → Bool) (a b : List V) : nSuf E a b ≤ b.length - nPre E a b := upw_bd (fun j h => by simp [qSuf] at h; exact h.1) _ _ (by omega)
def midL (l : List V) (p s : Nat) : List V := (l.drop p).take (l.length - s - p)
theorem midL_len {l : List V} {p s : Nat} (h : s ≤ l.length - p) : (midL l p s).length = l.length - s - p := by
  simp only [midL, List.length_take, List.length_drop]; omega
theorem midL_mem {l : List V} {p s : Nat} {x : V} (h : x ∈ midL l p s) : x ∈ l := List.mem_of_mem_drop (List.mem_of_mem_take h)
/-- the chosen of the middle -/
def mids (E : V → V → Bool) (a b : List V) : List (Nat × Nat) := sel E (midL a (nPre E a b) (nSuf E a b)) (midL b (nPre E a b) (nSuf E a b)) (midL a (nPre E a b) (nSuf E a b)).length 0 0
/-- a pair, as cells -/
def qrow (q : Nat × Nat) : List Value := [.int .i64 (q.1 : Int), .int .i64 (q.2 : Int)]
def diag (n : Nat) : List (Nat × Nat) := (List.range n).map fun i => (i, i)
/-- the pairs from the end, S before it .. to j before it -/
def ends (la lb S : Nat) (n : Nat) : List (Nat × Nat) := (List.range n).map fun j => (la - (S - j), lb - (S - j))
def common (E : V → V → Bool) (a b : List V) : List (Nat × Nat) :=
  diag (nPre E a b) ++ ((mids E a b).map fun q => (nPre E a b + q.1, nPre E a b + q.2)) ++ ends a.length b.length (nSuf E a b) (nSuf E a b)
theorem qrow_len (l : List (Nat × Nat)) : (l.flatMap qrow).length = l.length * 2 := by
  induction l with
  | nil => rfl
  | cons x l ih => rw [List.flatMap_cons, List.length_append, ih, List.length_cons]; show 2 + _ = _; omega
theorem qrow_one (l : List (Nat × Nat)) : (l.flatMap qrow).all (·.oneCell') = true := by
  rw [List.all_flatMap, List.all_eq_true]
  intro q _; rfl
theorem prow_q (p : Nat) (l : List (Nat × Nat)) : l.flatMap (prow p) = (l.map fun q => (p + q.1, p + q.2)).flatMap qrow := by
  rw [List.flatMap_map]; rfl
theorem diag_succ (n : Nat) : diag (n + 1) = diag n ++ [(n, n)] := by simp [diag, List.range_succ]
theorem ends_succ (la lb S n : Nat) : ends la lb S (n + 1) = ends la lb S n ++ [(la - (S - n), lb - (S - n))] := by simp [ends, List.range_succ]
theorem diag_len (n : Nat) : (diag n).length = n := by simp [diag]
theorem ends_len (la lb S n : Nat) : (ends la lb S n).length = n := by simp [ends]
theorem qflat_snoc (l : List (Nat × Nat)) (q : Nat × Nat) : (l ++ [q]).flatMap qrow = l.flatMap qrow ++ qrow q := by simp
section
variable {P : Program} {o : Oper} {w : World} {ρ : Operand → Value}
theorem v_slLH {t : TypeId} {x y z : Operand} {s : Nat} {a : Option Addr} {len cap : Nat} {k k' : IntKind} {h l : Int} (ht : P.underlying t = some (.slice (P.elem t))) (hs : (P.info? (P.elem t)).map (·.size) = some s) (ho : o.op = .slice t x (some y) (some z) none) (hx : ρ x = .slice a len cap) (hy : ρ y = .int k l) (hz : ρ z = .int k' h) (h0 : 0 ≤ l) (h1 : l ≤ h) (h2 : h ≤ cap) :
    (execOp ρ o).run P w = .ok (.value (sliced a l.toNat h.toNat cap s)) w := by
  unfold execOp; rw [ho]
  have := run_slice_lh (w := w) t a len cap ht k k' l h h0 h1 h2
  simp [hx, hy, hz, run_sliceAt_slice (w := w) t _ _ _ _ ht, this, run_size (w := w) hs]
end
theorem RepLs.drop {A : Nat → Prop} {w : World} {b : Nat} : ∀ (l : List V) (o k : Nat), RepLs A w b o l → RepLs A w b (o + k * 13) (l.drop k)
  | l, o, 0, h => by simpa using h
  | [], o, k + 1, h => by simp [RepLs]
  | v :: vs, o, k + 1, h => by
    simp only [RepLs] at h
    have := RepLs.drop vs (o + 13) k h.2
    rw [show o + 13 + k * 13 = o + (k + 1) * 13 by omega] at this
    simpa using this
theorem RepLs.take {A : Nat → Prop} {w : World} {b : Nat} : ∀ (l : List V) (o k : Nat), RepLs A w b o l → RepLs A w b o (l.take k)
  | l, o, 0, h => by simp [RepLs]
  | [], o, k + 1, h => by simp [RepLs]
  | v :: vs, o, k + 1, h => by
    simp only [RepLs] at h
    simp only [List.take_succ_cons, RepLs]
    exact ⟨h.1, RepLs.take vs (o + 13) k h.2⟩
theorem Lst.cap {w : World} {a : Option Addr} {c n : Nat} {l : List V} (h : Lst w (.slice a n c) l) : n = l.length ∧ l.length ≤ c := by
  obtain ⟨b, o, hs, hr⟩ := h
  rcases hs with ⟨h0, e⟩ | ⟨ad, cap, e, hc, _⟩
  · cases e; omega
  · cases e; exact ⟨rfl, hc⟩
theorem Lst.sub {w : World} {a : Option Addr} {c n lo hi : Nat} {l : List V} (h : Lst w (.slice a n c) l) (h1 : lo ≤ hi) (h2 : hi ≤ l.length) : Lst w (sliced a lo hi c 13) ((l.drop lo).take (hi - lo)) := by
  obtain ⟨b, o, hs, hr⟩ := h
  refine ⟨b, o + lo * 13, ?_, RepLs.take _ _ _ (RepLs.drop _ _ _ hr)⟩
  have hl : ((l.drop lo).take (hi - lo)).length = hi - lo := by simp only [List.length_take, List.length_drop]; omega
  rw [hl]
  unfold sliced
  rcases hs with ⟨h0, e⟩ | ⟨ad, cap, e, hc, ha⟩
  · cases e
    left
    obtain rfl : hi = 0 := by omega
    obtain rfl : lo = 0 := by omega
    exact ⟨rfl, rfl⟩
  · cases e
    right
    split
    · rename_i e
      exact ⟨ad, _, rfl, by omega, fun h => by omega⟩
    · refine ⟨ad.add (lo * 13), c - lo, rfl, by omega, fun h => ?_⟩
      obtain ⟨rfl, hA⟩ := ha (by omega)
      exact ⟨by simp [Addr.add], hA⟩
theorem Src.row {w : World} {B e k n : Nat} {v : Value} {xs : List Value} (row : w.ownsRow B e k v n xs) (hl : xs.length = n * k) : Src w v n xs := by
  rcases row.2 with ⟨rfl, rfl⟩ | ⟨g, cap, cur, rfl, _⟩
  · exact .inl ⟨rfl, rfl, List.eq_nil_of_length_eq_zero (by omega)⟩
  · obtain ⟨a, c, e, h⟩ := own_row row
    cases e
    refine .inr ⟨_, _, rfl, fun j u hu => ?_⟩
    have h0 : 0 < n := by
      have := (List.getElem?_eq_some_iff.1 hu).1
      rcases Nat.eq_zero_or_pos n with h | h
      · subst h; omega
      · exact h
    obtain ⟨g', e', hr⟩ := h h0
    cases e'
    rw [add_addr]; exact hr j u hu
/-- a row that a call has made is now the caller's -/
theorem Cxr.adopt {w0 w w' : World} {L : List (Nat × Obj)} {R : List Row} {e k n : Nat} {v : Value} {xs : List Value} (cx : Cxr w0 w L R) (hb : Below w.heap.size w w') (row : w'.ownsRow w.heap.size e k v n xs) : Cxr w0 w' L (⟨e, k, v, n, xs⟩ :: R) := by
  refine (cx.call hb).addRow _ ⟨row.1, row.2.imp id fun ⟨g, cap, cur, h1, h2, h3⟩ => ⟨g, cap, cur, h1, Nat.le_trans cx.ext.size h2, h3⟩⟩ ?_ ?_
  · intro q hq hm
    obtain ⟨p, hp, rfl⟩ := List.mem_map.1 hm
    have := cx.lt p hp
    have := (row.lt _ hq).1; omega
  · intro s hs q hq hq'
    have := ((cx.rows s hs).lt _ hq').2
    have := (row.lt _ hq).1; omega
section
variable {P : Program} {o : Oper} {w : World} {ρ : Operand → Value}
theorem v_slLHn {t : TypeId} {x y z : Operand} {s : Nat} {a : Option Addr} {len cap : Nat} {k k' : IntKind} {h l : Nat} (ht : P.underlying t = some (.slice (P.elem t))) (hs : (P.info? (P.elem t)).map (·.size) = some s) (ho : o.op = .slice t x (some y) (some z) none) (hx : ρ x = .slice a len cap) (hy : ρ y = .int k (l : Int)) (hz : ρ z = .int k' (h : Int)) (h1 : l ≤ h) (h2 : h ≤ cap) :
    (execOp ρ o).run P w = .ok (.value (sliced a l h cap s)) w := by
  have := v_slLH (w := w) ht hs ho hx hy hz (by omega) (by omega) (by omega)
  simpa using this
/-- the place of an element of an array -/
theorem v_iaA {x ix : Operand} {t e : TypeId} {s b k len : Nat} {m : Int} {kd : IntKind} (hu : P.underlying t = some (.array len e)) (hs : (P.info? e).map (·.size) = some s) (ho : o.op = .indexAddr t x ix)
    (hx : ρ x = .pointer (some ⟨b, k, none⟩)) (hi : ρ ix = .int kd m) (h0 : 0 ≤ m) (h1 : m < len) :
    (execOp ρ o).run P w = .ok (.value (.pointer (some ⟨b, k + m.toNat * s, none⟩))) w := by
  unfold execOp
  rw [ho]
  simp [hx, hi, Instr.indexAt, run_underlying hu, asIntOf, h0, h1, run_size (w := w) hs, add_addr, Instr.sureAddr]
theorem v_lenSl {t e : TypeId} {a : Operand} {x : Option Addr} {l h c k : Nat} (ho : o.op = .call { callee := .builtin .len, args := #[a], argTypes := #[t] }) (ha : ρ a = sliced x l h c k) (hu : P.underlying t = some (.slice e)) : (execOp ρ o).run P w = .ok (.value (.int .i64 ((h - l : Nat) : Int))) w :=
  v_lenSlice ho ha hu
end
end Go.Dk
