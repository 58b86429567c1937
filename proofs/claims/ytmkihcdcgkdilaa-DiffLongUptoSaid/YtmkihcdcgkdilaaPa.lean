/-
  Paths in memory, lists of paths, and the paths at which two values differ.
-/
import Derived.Test.YtmkihcdcgkdilaaDa
set_option linter.unusedVariables false
set_option linter.unusedSimpArgs false
namespace Go.Dk
open Go Go.RowKit
def PthA (A : Nat → Prop) (w : World) (s : Value) (l : List Stp) : Prop := ∃ b o, SliceAt A s l.length b o ∧ ∀ i x, l[i]? = some x → RowAt w b (o + i * 3) (srow x)
theorem PthA.mono {A A' : Nat → Prop} {w w' : World} (hA : ∀ b, A b → A' b) (hk : Keeps A w w') {s : Value} {l : List Stp} (h : PthA A w s l) : PthA A' w' s l := by
  obtain ⟨b, o, hs, hr⟩ := h
  refine ⟨b, o, hs.mono hA, fun i x hx => ?_⟩
  exact (hr i x hx).keep (hk b (hs.inA (by have := (List.getElem?_eq_some_iff.1 hx).1; omega)))
theorem PthA.nil {A : Nat → Prop} {w : World} : PthA A w (.slice none 0 0) [] := ⟨0, 0, .inl ⟨rfl, rfl⟩, fun i x h => by simp at h⟩
theorem PthA.one {A : Nat → Prop} {w : World} {s : Value} {l : List Stp} (h : PthA A w s l) : s.oneCell' = true := by
  obtain ⟨_, _, hs, _⟩ := h
  obtain ⟨_, _, rfl, _⟩ := hs.form
  rfl
theorem flatS_length (l : List Stp) : (l.flatMap srow).length = l.length * 3 := by
  induction l with
  | nil => rfl
  | cons x l ih => rw [List.flatMap_cons, List.length_append, ih, List.length_cons]; show 3 + _ = _; omega
theorem flatS_one (l : List Stp) : (l.flatMap srow).all (·.oneCell') = true := by
  induction l with
  | nil => rfl
  | cons x l ih => rw [List.flatMap_cons, List.all_append, ih]; rfl
theorem rowS {w : World} {b : Nat} : ∀ (l : List Stp) (o : Nat), (∀ i x, l[i]? = some x → RowAt w b (o + i * 3) (srow x)) → RowAt w b o (l.flatMap srow)
  | [], o, _ => fun j x h => by simp at h
  | s :: l, o, h => by
    intro j x hj
    rw [List.flatMap_cons] at hj
    rcases Nat.lt_or_ge j 3 with hlt | hge
    · rw [List.getElem?_append_left (by exact hlt)] at hj
      have := h 0 s rfl j x hj
      simpa using this
    · rw [List.getElem?_append_right (by exact hge)] at hj
      have := rowS l (o + 3) (fun i y hy => by have := h (i + 1) y (by simpa using hy); rwa [show o + (i + 1) * 3 = o + 3 + i * 3 by omega] at this) (j - 3) x hj
      rwa [show o + 3 + (j - 3) = o + j by omega] at this
theorem rowS' {w : World} {b : Nat} : ∀ (l : List Stp) (o : Nat), RowAt w b o (l.flatMap srow) → ∀ i x, l[i]? = some x → RowAt w b (o + i * 3) (srow x)
  | [], o, _, i, x, h => by simp at h
  | s :: l, o, h, 0, x, hx => by
    obtain rfl : s = x := by simpa using hx
    intro j y hj
    have := h j y (by rw [List.flatMap_cons, List.getElem?_append_left (List.getElem?_eq_some_iff.1 hj).1]; exact hj)
    simpa using this
  | s :: l, o, h, i + 1, x, hx => by
    have h2 : RowAt w b (o + 3) (l.flatMap srow) := fun j y hj => by
      have := h (3 + j) y (by rw [List.flatMap_cons, List.getElem?_append_right (by show 3 ≤ _; omega)]; show (l.flatMap srow)[3 + j - 3]? = _; rw [Nat.add_sub_cancel_left]; exact hj)
      rwa [← Nat.add_assoc] at this
    have := rowS' l (o + 3) h2 i x (by simpa using hx)
    rwa [show o + (i + 1) * 3 = o + 3 + i * 3 by omega]
theorem src_path {A : Nat → Prop} {w : World} {s : Value} {l : List Stp} (h : PthA A w s l) : Src w s l.length (l.flatMap srow) := by
  obtain ⟨b, o, hs, hr⟩ := h
  have hrow := rowS l o hr
  rcases hs with ⟨h0, e⟩ | ⟨ad, c, e, _, ha⟩
  · have : l = [] := List.eq_nil_of_length_eq_zero h0
    subst this
    exact .inl ⟨e, rfl, rfl⟩
  · refine .inr ⟨ad, c, e, fun j u hj => ?_⟩
    have h0 : 0 < l.length := by
      have := (List.getElem?_eq_some_iff.1 hj).1
      rw [flatS_length] at this; omega
    obtain ⟨rfl, _⟩ := ha h0
    rw [add_addr]
    exact hrow j u hj
/-- a slice of the call's own that holds steps is a path -/
theorem path_of_row {B : Nat} {w : World} {v : Value} {n e : Nat} {l : List Stp} (row : w.ownsRow B e 3 v n (l.flatMap srow)) (hn : n = l.length) : PthA (fun b => v.ownBlock = some b) w v l := by
  subst hn
  rcases row.2 with ⟨rfl, h0⟩ | ⟨g, cap, cur, rfl, hb, hg, hle, _, hcs, htake⟩
  · have : l = [] := List.eq_nil_of_length_eq_zero h0
    subst this
    exact PthA.nil
  · refine ⟨g, 0, .inr ⟨_, cap, rfl, hle, fun _ => ⟨rfl, rfl⟩⟩, ?_⟩
    have hrow : RowAt w g 0 (l.flatMap srow) := by
      intro j x hj
      rw [cell_of_row w g (0 + j) cur _ _ hg]
      rw [← htake] at hj
      rw [List.getElem?_take] at hj
      split at hj
      · simpa using hj
      · cases hj
    exact rowS' l 0 hrow

/-- cells that hold paths -/
def PthsC (A : Nat → Prop) (w : World) : List (List Stp) → List Value → Prop
  | [], [] => True
  | p :: ps, c :: cs => PthA A w c p ∧ PthsC A w ps cs
  | _, _ => False
theorem PthsC.mono {A A' : Nat → Prop} {w w' : World} (hA : ∀ b, A b → A' b) (hk : Keeps A w w') : ∀ (ps : List (List Stp)) (cs : List Value), PthsC A w ps cs → PthsC A' w' ps cs
  | [], [], _ => trivial
  | _ :: ps, _ :: cs, h => ⟨h.1.mono hA hk, PthsC.mono hA hk ps cs h.2⟩
  | [], _ :: _, h => h.elim
  | _ :: _, [], h => h.elim
theorem PthsC.append {A : Nat → Prop} {w : World} : ∀ (ps ps' : List (List Stp)) (cs cs' : List Value), PthsC A w ps cs → PthsC A w ps' cs' → PthsC A w (ps ++ ps') (cs ++ cs')
  | [], ps', [], cs', _, h => h
  | _ :: ps, ps', _ :: cs, cs', h, h' => ⟨h.1, PthsC.append ps ps' cs cs' h.2 h'⟩
  | [], _, _ :: _, _, h, _ => h.elim
  | _ :: _, _, [], _, h, _ => h.elim
theorem PthsC.len {A : Nat → Prop} {w : World} : ∀ (ps : List (List Stp)) (cs : List Value), PthsC A w ps cs → cs.length = ps.length ∧ cs.all (·.oneCell') = true
  | [], [], _ => ⟨rfl, rfl⟩
  | _ :: ps, _ :: cs, h => by
    have := PthsC.len ps cs h.2
    exact ⟨by simp [this.1], by rw [List.all_cons, h.1.one, this.2]; rfl⟩
  | [], _ :: _, h => h.elim
  | _ :: _, [], h => h.elim
theorem PthsC.at {A : Nat → Prop} {w : World} : ∀ (ps : List (List Stp)) (cs : List Value) (i : Nat) (p : List Stp), PthsC A w ps cs → ps[i]? = some p → ∃ c, cs[i]? = some c ∧ PthA A w c p
  | [], [], i, p, _, h => by simp at h
  | q :: ps, c :: cs, 0, p, h, hp => by
    obtain rfl : q = p := by simpa using hp
    exact ⟨c, rfl, h.1⟩
  | q :: ps, c :: cs, i + 1, p, h, hp => by
    obtain ⟨c', h1, h2⟩ := PthsC.at ps cs i p h.2 (by simpa using hp)
    exact ⟨c', by simpa using h1, h2⟩
  | [], _ :: _, _, _, h, _ => h.elim
  | _ :: _, [], _, _, h, _ => h.elim

/-! ### where two values differ -/
def keyS (k : ByteArray) : Stp := ⟨false, k, 0⟩
def idxS (i : Nat) : Stp := ⟨true, ByteArray.empty, i⟩
def alike (a b : V) : Bool := a.sc.kind == 7 && b.sc.kind == 7 && (a.fields.length : Int) == (b.fields.length : Int) && a.fields.all fun kv => (hasF kv.1 b.fields).isSome
def lalike (a b : V) : Bool := a.sc.kind == 6 && b.sc.kind == 6 && (a.list.length : Int) == (b.list.length : Int)
def dfr (E : V → V → Bool) : Nat → List Stp → V → V → List (List Stp)
  | 0, _, _, _ => []
  | d + 1, p, a, b => if E a b then [] else
    if alike a b then a.fields.flatMap fun kv => dfr E d (p ++ [keyS kv.1]) kv.2 ((hasF kv.1 b.fields).getD nulV)
    else if lalike a b then (List.range a.list.length).flatMap fun i => dfr E d (p ++ [idxS i]) (a.list.getD i nulV) (b.list.getD i nulV)
    else [p]
theorem dfr_len {E : V → V → Bool} : ∀ (d : Nat) (p : List Stp) (a b : V), (dfr E d p a b).length ≤ tsz d a
  | 0, _, _, _ => by simp [dfr]
  | d + 1, p, a, b => by
    have key : ∀ {α : Type} (L : List α) (g : α → List (List Stp)) (h : α → Nat), (∀ x, (g x).length ≤ h x) → (L.flatMap g).length ≤ (L.map h).sum := by
      intro α L g h hh
      induction L with
      | nil => simp
      | cons x L ih => rw [List.flatMap_cons, List.length_append, List.map_cons, List.sum_cons]; have := hh x; omega
    unfold dfr
    simp only [tsz]
    split
    · simp
    · split
      · have := key a.fields (fun kv => dfr E d (p ++ [keyS kv.1]) kv.2 ((hasF kv.1 b.fields).getD nulV)) (fun kv => tsz d kv.2) fun kv => dfr_len d _ _ _
        omega
      · split
        · have := key (List.range a.list.length) (fun i => dfr E d (p ++ [idxS i]) (a.list.getD i nulV) (b.list.getD i nulV)) (fun i => tsz d (a.list.getD i nulV)) fun i => dfr_len d _ _ _
          have e : (List.range a.list.length).map (fun i => tsz d (a.list.getD i nulV)) = a.list.map (tsz d) := by
            refine List.ext_getElem (by simp) fun i h1 h2 => ?_
            simp at h1
            simp [List.getD, List.getElem?_eq_getElem h1]
          rw [e] at this
          omega
        · simp
theorem fm_take {α β : Type} {l : List α} {g : α → List β} {i : Nat} (hi : i < l.length) : (l.take (i + 1)).flatMap g = (l.take i).flatMap g ++ g l[i] := by
  rw [List.take_succ_eq_append_getElem hi, List.flatMap_append]; simp
theorem fm_len {α β : Type} {l : List α} {g : α → List β} {i : Nat} (hi : i < l.length) : ((l.take i).flatMap g).length + (g l[i]).length ≤ (l.flatMap g).length := by
  have e : l = l.take i ++ l[i] :: l.drop (i + 1) := by rw [← List.drop_eq_getElem_cons hi, List.take_append_drop]
  conv => rhs; rw [e]
  rw [List.flatMap_append, List.flatMap_cons, List.length_append, List.length_append]; omega
theorem rg_take {β : Type} {g : Nat → List β} {i : Nat} : (List.range (i + 1)).flatMap g = (List.range i).flatMap g ++ g i := by
  rw [List.range_succ, List.flatMap_append]; simp
theorem rg_len {β : Type} {g : Nat → List β} {i n : Nat} (hi : i < n) : ((List.range i).flatMap g).length + (g i).length ≤ ((List.range n).flatMap g).length := by
  have h1 : (List.range n).take i = List.range i := by rw [List.take_range]; congr 1; omega
  have := fm_len (l := List.range n) (g := g) (i := i) (by simpa using hi)
  rw [h1] at this
  simpa using this
/-! ### blocks that a callee leaves, which adds to the caller's slice -/
def D0 (w : World) (v : Value) (b : Nat) : Prop := b < w.heap.size ∧ v.ownBlock ≠ some b
def Nx (w : World) (v x : Value) : Prop := ∀ q, x.ownBlock = some q → v.ownBlock = some q ∨ w.heap.size ≤ q
theorem Nx.self (w : World) (v : Value) : Nx w v v := fun q h => .inl h
theorem Nx.trans {w w' : World} {v x y : Value} (h : Nx w v x) (h' : Nx w' x y) (hs : w.heap.size ≤ w'.heap.size) : Nx w v y := fun q hq => (h' q hq).elim (h q) (fun h => .inr (Nat.le_trans hs h))
theorem D0.up {w w' : World} {v x : Value} (hs : w.heap.size ≤ w'.heap.size) (hx : Nx w v x) : ∀ b, D0 w v b → D0 w' x b := fun b h => ⟨Nat.lt_of_lt_of_le h.1 hs, fun e => (hx b e).elim h.2 fun h' => by have := h.1; omega⟩
theorem Kp.d0 (w : World) (v : Value) : Kp (D0 w v) w w := Kp.refl fun b h => h.1
theorem Kp.d0step {w0 w w' : World} {v x : Value} (h : Kp (D0 w0 v) w0 w) (h2 : Kp (D0 w x) w w') (hx : Nx w0 v x) : Kp (D0 w0 v) w0 w' :=
  ⟨h.lt, Nat.le_trans h.sz h2.sz, fun b hb => (h2.kp b (D0.up h.sz hx b hb)).trans (h.kp b hb)⟩
theorem Kp.d0own {w0 w w' : World} {v x : Value} {o : Option Nat} (h : Kp (D0 w0 v) w0 w) (hg : w.grownBy w' o) (ho : o = x.ownBlock) (hx : Nx w0 v x) : Kp (D0 w0 v) w0 w' :=
  h.grown hg fun b hb e => by
    subst ho
    exact (D0.up (Nat.le_refl _) hx b hb).2 e
theorem PthsC.d0 {w0 w w' : World} {x y : Value} {ps : List (List Stp)} {cs : List Value} (h : PthsC (fun b => Fr w0 w b ∧ x.ownBlock ≠ some b) w ps cs) (hk : Kp (D0 w x) w w') (hy : Nx w x y) : PthsC (fun b => Fr w0 w' b ∧ y.ownBlock ≠ some b) w' ps cs :=
  PthsC.mono (fun b hb => ⟨⟨hb.1.1, Nat.lt_of_lt_of_le hb.1.2 hk.sz⟩, fun e => (hy b e).elim hb.2 fun h' => by have := hb.1.2; omega⟩) (fun b hb => hk.kp b ⟨hb.1.2, hb.2⟩) ps cs h
theorem src_rowk {B e k n : Nat} {w : World} {v : Value} {xs : List Value} (row : w.ownsRow B e k v n xs) : Src w v n xs := by
  rcases row.2 with ⟨rfl, h0⟩ | ⟨g, cap, cur, rfl, hb, hg, hle, _, hcs, htake⟩
  · subst h0
    exact .inl ⟨rfl, rfl, List.eq_nil_of_length_eq_zero (by have := row.1; omega)⟩
  · refine .inr ⟨⟨g, 0, none⟩, cap, rfl, fun j u hj => ?_⟩
    rw [add_addr, cell_of_row w g (0 + j) cur _ _ hg]
    rw [← htake] at hj
    rw [List.getElem?_take] at hj
    split at hj
    · simpa using hj
    · cases hj
theorem classic_eqB : ∃ E : V → V → Bool, ∀ x y, E x y = true ↔ canon x = canon y := ⟨fun x y => @decide (canon x = canon y) (Classical.propDecidable _), fun x y => @decide_eq_true_iff _ (Classical.propDecidable _)⟩
theorem okv_of {v : V} (h : okd 48 v ∧ deep 60 v ∧ tsz 60 v ≤ 150) : Okv 150 v := ⟨h.1, h.2.1, h.2.2⟩
end Go.Dk
