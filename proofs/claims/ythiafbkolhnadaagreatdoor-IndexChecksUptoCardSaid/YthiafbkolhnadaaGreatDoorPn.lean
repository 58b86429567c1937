/-
  Plain: the entry of a path, and the nearest one.
-/
import Derived.Test.YthiafbkolhnadaaGreatDoorPx
set_option linter.unusedVariables false
namespace Go.Dk
open Go Go.RowKit Go.Lib
open Classical in
noncomputable def lookP (es : List Ent) (q : List Stp) : Option Ent := es.find? fun e => decide (e.path = q)
theorem lookP_some {es : List Ent} {q : List Stp} {i : Nat} {e : Ent} (hi : es[i]? = some e) (he : e.path = q) (hb : ∀ y ∈ es.take i, y.path ≠ q) : lookP es q = some e := by
  obtain ⟨hlt, e'⟩ := List.getElem?_eq_some_iff.1 hi
  unfold lookP
  rw [← List.take_append_drop i es, List.find?_append, List.find?_eq_none.2 fun y hy => by simpa using hb y hy, List.drop_eq_getElem_cons hlt, e']
  simp [he]
theorem lookP_none {es : List Ent} {q : List Stp} (hb : ∀ y ∈ es, y.path ≠ q) : lookP es q = none := by
  unfold lookP
  exact List.find?_eq_none.2 fun y hy => by simpa using hb y hy
noncomputable def nearN (es : List Ent) (p : List Stp) : Nat → Option Ent
  | 0 => none
  | n + 1 => match lookP es (p.take (n + 1)) with
    | some e => some e
    | none => nearN es p n
noncomputable def nearP (es : List Ent) (p : List Stp) : Option Ent := nearN es p p.length
theorem nearN_some {es : List Ent} {p : List Stp} {n : Nat} {e : Ent} (h0 : 0 < n) (h : lookP es (p.take n) = some e) : nearN es p n = some e := by
  obtain ⟨n, rfl⟩ : ∃ m, n = m + 1 := ⟨n - 1, by omega⟩
  unfold nearN
  rw [h]
theorem nearN_none {es : List Ent} {p : List Stp} {n : Nat} (h0 : 0 < n) (h : lookP es (p.take n) = none) : nearN es p n = nearN es p (n - 1) := by
  obtain ⟨n, rfl⟩ : ∃ m, n = m + 1 := ⟨n - 1, by omega⟩
  conv => lhs; unfold nearN
  rw [h]
  rfl
/-- is it a beginning of the path? -/
def Pre (p m : List Stp) : Prop := m.length ≤ p.length ∧ p.take m.length = m
theorem near_some {es : List Ent} {p : List Stp} {b : Nat} {e : Ent} (hb : es[b]? = some e) (hp : Pre p e.path) (h0 : 0 < e.path.length) (h1 : ∀ y ∈ es, Pre p y.path → y.path.length ≤ e.path.length)
    (h2 : ∀ y ∈ es.take b, Pre p y.path → y.path.length < e.path.length) : nearP es p = some e := by
  have key : ∀ n, e.path.length ≤ n → n ≤ p.length → nearN es p n = some e := by
    intro n
    induction n with
    | zero => intro h; omega
    | succ n ih =>
      intro hn hn2
      rcases Nat.lt_or_ge n e.path.length with h | h
      · have e1 : n + 1 = e.path.length := by omega
        refine nearN_some (by omega) (lookP_some hb (by rw [e1]; exact hp.2.symm) fun y hy hq => ?_)
        have hl : y.path.length = n + 1 := by rw [hq]; simp; omega
        have hpy : Pre p y.path := ⟨by omega, by rw [hl, hq]⟩
        have := h2 y hy hpy
        omega
      · rw [nearN_none (by omega) (lookP_none fun y hy hq => ?_)]
        · exact ih h (by omega)
        · have hl : y.path.length = n + 1 := by rw [hq]; simp; omega
          have := h1 y hy ⟨by omega, by rw [hl, hq]⟩
          omega
  exact key p.length hp.1 (Nat.le_refl _)
theorem near_none {es : List Ent} {p : List Stp} (h : ∀ y ∈ es, ¬ Pre p y.path) : nearP es p = none := by
  have key : ∀ n, n ≤ p.length → nearN es p n = none := by
    intro n
    induction n with
    | zero => intro _; rfl
    | succ n ih =>
      intro hn
      rw [nearN_none (by omega) (lookP_none fun y hy hq => ?_)]
      · exact ih (by omega)
      · have hl : y.path.length = n + 1 := by rw [hq]; simp; omega
        exact h y hy ⟨by omega, by rw [hl, hq]⟩
  exact key p.length (Nat.le_refl _)
/-- the best of the first entries -/
def BestI (es : List Ent) (p : List Stp) (i : Nat) (b : Int) : Prop :=
  (b = -1 ∧ ∀ y ∈ es.take i, ¬ Pre p y.path) ∨ ∃ (k : Nat) (e : Ent), b = k ∧ k < i ∧ es[k]? = some e ∧ Pre p e.path ∧ (∀ y ∈ es.take i, Pre p y.path → y.path.length ≤ e.path.length) ∧ (∀ y ∈ es.take k, Pre p y.path → y.path.length < e.path.length)
theorem mem_take_succ {α : Type} {l : List α} {i : Nat} {x y : α} (h : l[i]? = some x) (hy : y ∈ l.take (i + 1)) : y ∈ l.take i ∨ y = x := by
  obtain ⟨hlt, e⟩ := List.getElem?_eq_some_iff.1 h
  rw [List.take_succ_eq_append_getElem hlt, e] at hy
  simpa using hy
theorem BestI.zero (es : List Ent) (p : List Stp) : BestI es p 0 (-1) := .inl ⟨rfl, by simp⟩
theorem BestI.skip {es : List Ent} {p : List Stp} {i : Nat} {b : Int} {x : Ent} (h : BestI es p i b) (hx : es[i]? = some x) (hn : ¬ Pre p x.path) : BestI es p (i + 1) b := by
  rcases h with ⟨h1, h2⟩ | ⟨k, e, h1, h2, h3, h4, h5, h6⟩
  · refine .inl ⟨h1, fun y hy => ?_⟩
    rcases mem_take_succ hx hy with h | rfl
    · exact h2 y h
    · exact hn
  · refine .inr ⟨k, e, h1, by omega, h3, h4, fun y hy hp => ?_, h6⟩
    rcases mem_take_succ hx hy with h | rfl
    · exact h5 y h hp
    · exact absurd hp hn
theorem BestI.keep {es : List Ent} {p : List Stp} {i k : Nat} {x e : Ent} (h : BestI es p i k) (hx : es[i]? = some x) (he : es[k]? = some e) (hl : x.path.length ≤ e.path.length) : BestI es p (i + 1) k := by
  rcases h with ⟨h1, h2⟩ | ⟨k', e', h1, h2, h3, h4, h5, h6⟩
  · omega
  · obtain rfl : k = k' := by omega
    rw [he] at h3; cases h3
    refine .inr ⟨k, e, h1, by omega, he, h4, fun y hy hp => ?_, h6⟩
    rcases mem_take_succ hx hy with h | rfl
    · exact h5 y h hp
    · exact hl
theorem BestI.fresh {es : List Ent} {p : List Stp} {i : Nat} {b : Int} {x : Ent} (h : BestI es p i b) (hx : es[i]? = some x) (hp : Pre p x.path) (hb : b < 0) : BestI es p (i + 1) i := by
  rcases h with ⟨h1, h2⟩ | ⟨k', e', h1, h2, h3, h4, h5, h6⟩
  · refine .inr ⟨i, x, rfl, by omega, hx, hp, fun y hy hp' => ?_, fun y hy hp' => absurd hp' (h2 y hy)⟩
    rcases mem_take_succ hx hy with h | rfl
    · exact absurd hp' (h2 y h)
    · exact Nat.le_refl _
  · omega
theorem BestI.more {es : List Ent} {p : List Stp} {i k : Nat} {x e : Ent} (h : BestI es p i k) (hx : es[i]? = some x) (hp : Pre p x.path) (he : es[k]? = some e) (hl : e.path.length < x.path.length) : BestI es p (i + 1) i := by
  rcases h with ⟨h1, h2⟩ | ⟨k', e', h1, h2, h3, h4, h5, h6⟩
  · omega
  · obtain rfl : k = k' := by omega
    rw [he] at h3; cases h3
    refine .inr ⟨i, x, rfl, by omega, hx, hp, fun y hy hp' => ?_, fun y hy hp' => ?_⟩
    · rcases mem_take_succ hx hy with h | rfl
      · have := h5 y h hp'; omega
      · exact Nat.le_refl _
    · have := h5 y hy hp'; omega
theorem BestI.lt {es : List Ent} {p : List Stp} {i : Nat} {b : Int} (h : BestI es p i b) (h0 : 0 ≤ b) : ∃ (k : Nat) (e : Ent), b = k ∧ k < i ∧ es[k]? = some e := by
  rcases h with ⟨h1, h2⟩ | ⟨k', e', h1, h2, h3, h4, h5, h6⟩
  · omega
  · exact ⟨k', e', h1, h2, h3⟩
theorem BestI.end0 {es : List Ent} {p : List Stp} {i : Nat} {b : Int} (h : BestI es p i b) (hi : es.length ≤ i) (h0 : b < 0) : nearP es p = none := by
  rcases h with ⟨h1, h2⟩ | ⟨k', e', h1, h2, h3, h4, h5, h6⟩
  · rw [List.take_of_length_le hi] at h2
    exact near_none h2
  · omega
theorem BestI.end1 {es : List Ent} {p : List Stp} {i k : Nat} {e : Ent} (h : BestI es p i k) (hi : es.length ≤ i) (he : es[k]? = some e) (h0 : 0 < e.path.length) : nearP es p = some e := by
  rcases h with ⟨h1, h2⟩ | ⟨k', e', h1, h2, h3, h4, h5, h6⟩
  · omega
  · obtain rfl : k = k' := by omega
    rw [he] at h3; cases h3
    rw [List.take_of_length_le hi] at h5
    exact near_some he h4 h0 h5 h6
theorem entsE_past {x : Idx} : ∀ {l d : List Ent}, entsE x d l = 0 → ∀ j e, l[j]? = some e → entE x (d ++ l.take j) e = 0
  | [], _, _, j, e, h => by simp at h
  | a :: l, d, h0, j, e, h => by
    unfold entsE at h0
    split at h0
    · rename_i h1; exact absurd h0 h1
    · rename_i h1
      cases j with
      | zero =>
        simp at h
        subst h
        simpa using Classical.not_not.1 h1
      | succ j =>
        have := entsE_past h0 j e (by simpa using h)
        simpa using this
theorem chk_past {x : Idx} (h : chkX x = 0) : Past x x.ents x.ents.length := by
  unfold chkX at h
  split at h
  · cases h
  · split at h
    · rename_i h2; exact absurd h h2
    · intro j e _ he
      have := entsE_past h j e he
      simpa using this
theorem chk_good {x : Idx} (h : chkX x = 0) : ∀ e ∈ x.ents, GdP e.path ∧ 0 < e.path.length := by
  intro e he
  obtain ⟨j, hj⟩ := List.getElem?_of_mem he
  have h1 := (entE_ok (chk_past h j e (List.getElem?_eq_some_iff.1 hj).1 hj)).1
  unfold pthBad at h1
  exact ⟨Classical.not_not.1 fun h => h1 (.inl h), by omega⟩
theorem chk_size {x : Idx} (h : chkX x = 0) : ¬ hdrBad x := by
  intro hb
  unfold chkX at h
  rw [if_pos hb] at h
  cases h
end Go.Dk
namespace Go.Dk
theorem take_snoc {α : Type} {l : List α} {i : Nat} {x : α} (h : l[i]? = some x) : l.take (i + 1) = l.take i ++ [x] := by
  obtain ⟨hlt, e⟩ := List.getElem?_eq_some_iff.1 h
  rw [List.take_succ_eq_append_getElem hlt, e]
end Go.Dk
namespace Go.Dk
open Go Go.RowKit Go.Lib
theorem BestI.more' {es : List Ent} {p : List Stp} {i : Nat} {b : Int} {x e : Ent} (h : BestI es p i b) (h0 : 0 ≤ b) (hx : es[i]? = some x) (hp : Pre p x.path) (he : es[b.toNat]? = some e) (hl : e.path.length < x.path.length) : BestI es p (i + 1) i := by
  obtain ⟨k, rfl⟩ := Int.eq_ofNat_of_zero_le h0
  exact h.more hx hp he hl
theorem BestI.keep' {es : List Ent} {p : List Stp} {i : Nat} {b : Int} {x e : Ent} (h : BestI es p i b) (h0 : 0 ≤ b) (hx : es[i]? = some x) (he : es[b.toNat]? = some e) (hl : x.path.length ≤ e.path.length) : BestI es p (i + 1) b := by
  obtain ⟨k, rfl⟩ := Int.eq_ofNat_of_zero_le h0
  exact h.keep hx he hl
theorem BestI.fin {es : List Ent} {p : List Stp} {i : Nat} {b : Int} {e : Ent} (h : BestI es p i b) (h1 : 0 ≤ b) (hi : es.length ≤ i) (he : es[b.toNat]? = some e) (h0 : 0 < e.path.length) : nearP es p = some e := by
  obtain ⟨k, rfl⟩ := Int.eq_ofNat_of_zero_le h1
  exact h.end1 hi he h0
theorem BestI.hi {es : List Ent} {p : List Stp} {i : Nat} {b : Int} (h : BestI es p i b) : b < i ∧ -1 ≤ b := by
  rcases h with ⟨h1, h2⟩ | ⟨k', e', h1, h2, h3, h4, h5, h6⟩ <;> omega
theorem BestI.ex {es : List Ent} {p : List Stp} {i : Nat} {b : Int} (h : BestI es p i b) : ∃ e, 0 ≤ b → es[b.toNat]? = some e := by
  rcases h with ⟨h1, h2⟩ | ⟨k', e', h1, h2, h3, h4, h5, h6⟩
  · exact ⟨⟨[], 0, 0⟩, fun h => by omega⟩
  · exact ⟨e', fun _ => by rw [h1]; exact h3⟩
open Classical in
noncomputable def preB (p m : List Stp) : Bool := decide (Pre p m)
theorem preB_T {p m : List Stp} : preB p m = true ↔ Pre p m := by unfold preB; simp
theorem preB_F {p m : List Stp} : preB p m = false ↔ ¬ Pre p m := by unfold preB; simp
def lkF (o : Option Ent) : Int := match o with | some e => e.fr | none => 0
def lkT (o : Option Ent) : Int := match o with | some e => e.to | none => 0
def lkP (o : Option Ent) : List Stp := match o with | some e => e.path | none => []
noncomputable def lookV (es : List Ent) (l : List Stp) : Value := .tuple #[.agg #[.int .i64 (lkF (lookP es l)), .int .i64 (lkT (lookP es l))], .bool (lookP es l).isSome]
theorem lookP_path {es : List Ent} {q : List Stp} {e : Ent} (h : lookP es q = some e) : e.path = q := by
  unfold lookP at h
  simpa using List.find?_some h
theorem lookP_mem {es : List Ent} {q : List Stp} {e : Ent} (h : lookP es q = some e) : e ∈ es := List.mem_of_find?_eq_some h
def NearV (o : Option Ent) (u : Value) (w : World) : Prop := ∃ q, u = .tuple #[.agg #[q, .int .i64 (lkF o), .int .i64 (lkT o)], .bool o.isSome] ∧ Pth w q (lkP o)
theorem pth_nil (w : World) : Pth w (.slice none 0 0) [] := ⟨0, 0, .inl ⟨rfl, rfl⟩, fun i x hx => by simp at hx⟩
theorem srow_len (s : Stp) : (srow s).length = 3 := rfl
theorem flat3 : ∀ (l : List Stp), (l.flatMap srow).length = l.length * 3
  | [] => rfl
  | s :: l => by simp only [List.flatMap_cons, List.length_append, srow_len, flat3 l, List.length_cons]; omega
theorem flat3_at : ∀ (l : List Stp) (i j : Nat) (x : Stp) (v : Value), l[i]? = some x → (srow x)[j]? = some v → (l.flatMap srow)[i * 3 + j]? = some v
  | [], i, j, x, v, h, _ => by simp at h
  | s :: l, 0, j, x, v, h, hj => by
    simp at h; subst h
    have : j < 3 := by have := (List.getElem?_eq_some_iff.1 hj).1; simpa [srow_len] using this
    rw [List.flatMap_cons, List.getElem?_append_left (by rw [srow_len]; omega)]
    simpa using hj
  | s :: l, i + 1, j, x, v, h, hj => by
    rw [List.flatMap_cons, List.getElem?_append_right (by rw [srow_len]; omega), srow_len, show (i + 1) * 3 + j - 3 = i * 3 + j by omega]
    exact flat3_at l i j x v (by simpa using h) hj
theorem flat3_of : ∀ (l : List Stp) (n : Nat) (v : Value), (l.flatMap srow)[n]? = some v → ∃ x, l[n / 3]? = some x ∧ (srow x)[n % 3]? = some v
  | [], n, v, h => by simp at h
  | s :: l, n, v, h => by
    rw [List.flatMap_cons] at h
    rcases Nat.lt_or_ge n 3 with hn | hn
    · rw [List.getElem?_append_left (by rw [srow_len]; omega)] at h
      refine ⟨s, ?_, ?_⟩
      · rw [show n / 3 = 0 by omega]; rfl
      · rw [show n % 3 = n by omega]; exact h
    · rw [List.getElem?_append_right (by rw [srow_len]; omega), srow_len] at h
      obtain ⟨x, h1, h2⟩ := flat3_of l (n - 3) v h
      refine ⟨x, ?_, ?_⟩
      · rw [show n / 3 = (n - 3) / 3 + 1 by omega]; simpa using h1
      · rw [show n % 3 = (n - 3) % 3 by omega]; exact h2
theorem flat3_one (l : List Stp) : (l.flatMap srow).all (·.oneCell') = true := by
  rw [List.all_eq_true]
  intro v hv
  obtain ⟨s, _, hs⟩ := List.mem_flatMap.1 hv
  simp [srow] at hs
  rcases hs with rfl | rfl | rfl <;> rfl
/-- the whole path as one row -/
theorem Pth.src {w : World} {s : Value} {l : List Stp} (h : Pth w s l) (h0 : 0 < l.length) : ∃ b o c, s = .slice (some ⟨b, o, none⟩) l.length c ∧ RowAt w b o (l.flatMap srow) := by
  obtain ⟨b, o, hs, hr⟩ := h
  rcases hs with ⟨h1, _⟩ | ⟨ad, cap, rfl, _, h1⟩
  · omega
  · obtain ⟨rfl, _⟩ := h1 h0
    refine ⟨b, o, cap, rfl, fun n v hn => ?_⟩
    obtain ⟨x, hx, hv⟩ := flat3_of l n v hn
    have := hr (n / 3) x hx (n % 3) v hv
    rwa [show o + n / 3 * 3 + n % 3 = o + n by omega] at this
theorem Pth.ofRow {w : World} {b o c n : Nat} {l : List Stp} (hb : b < w.heap.size) (hn : n = l.length) (hc : n ≤ c) (h : RowAt w b o (l.flatMap srow)) : Pth w (.slice (some ⟨b, o, none⟩) n c) l := by
  subst hn
  refine ⟨b, o, .inr ⟨_, _, rfl, hc, fun _ => ⟨rfl, hb⟩⟩, fun i x hx j v hv => ?_⟩
  have := h (i * 3 + j) v (flat3_at l i j x v hx hv)
  rwa [show o + (i * 3 + j) = o + i * 3 + j by omega] at this
/-- a row of the call's own, which is not empty -/
theorem Cxr.rowS {w0 w : World} {L : List (Nat × Obj)} {R : List Row} {e k n : Nat} {v : Value} {xs : List Value} (h : Cxr w0 w L (⟨e, k, v, n, xs⟩ :: R)) (h0 : 0 < xs.length) : ∃ g c, v = .slice (some ⟨g, 0, none⟩) n c ∧ n ≤ c ∧ g < w.heap.size ∧ RowAt w g 0 xs := by
  have hrow := h.rows _ (List.mem_cons_self ..)
  simp only at hrow
  rcases hrow.2 with ⟨_, h2⟩ | ⟨g, cap, cur, rfl, hb, hg, hnc, hcm, hcs, htake⟩
  · exfalso
    have := hrow.1
    rw [h2] at this
    simp at this
    rw [this] at h0
    simp at h0
  · refine ⟨g, cap, rfl, hnc, (Array.getElem?_eq_some_iff.1 hg).1, fun j x hj => ?_⟩
    have := hrow.cells (g := g) rfl j x hj
    rwa [add_addr] at this
section
variable {P : Program} {o : Oper} {w : World} {ρ : Operand → Value}
theorem v_beq {t t' : TypeId} {x y : Operand} {p q : Bool} (h : ∀ w, (binOp .eql t (.bool p) (.bool q)).run P w = .ok (.bool (p == q)) w) (ho : o.op = .binOp .eql t x y t') (hx : ρ x = .bool p) (hy : ρ y = .bool q) : (execOp ρ o).run P w = .ok (.value (.bool (p == q))) w := by
  unfold execOp; rw [ho]
  simp [hx, hy, eqGuard, h w]
end
end Go.Dk
namespace Go.Dk
open Go Go.RowKit Go.Lib
theorem near_mem {es : List Ent} {p : List Stp} : ∀ (n : Nat) {e : Ent}, nearN es p n = some e → e ∈ es
  | 0, e, h => by simp [nearN] at h
  | n + 1, e, h => by
    unfold nearN at h
    split at h
    · rename_i e' h'
      cases h
      exact lookP_mem h'
    · exact near_mem n h
theorem near_len {es : List Ent} {p : List Stp} {N : Nat} (h : ∀ e ∈ es, e.path.length ≤ N) : (lkP (nearP es p)).length ≤ N := by
  unfold lkP
  split
  · rename_i e he
    exact h e (near_mem _ he)
  · simp
end Go.Dk
