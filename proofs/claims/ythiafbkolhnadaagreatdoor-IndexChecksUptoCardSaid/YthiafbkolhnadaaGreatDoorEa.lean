/-
  A run without inputs, told by a closed reckoning: values with numbered places, what they stand for in a world; no program in sight.
-/
import Derived.Test.YthiafbkolhnadaaGreatDoorBb
set_option linter.unusedVariables false
set_option linter.unusedSimpArgs false
namespace Go.Ev
open Go Go.RowKit Go.Dk

/-! ### what asks the program alone -/
def pr {α : Type} (P : Program) : Sem α → Option α
  | .pure a => some a
  | .program k => pr P (k P)
  | .mark _ k => pr P k
  | _ => none
theorem pr_run {α : Type} {P : Program} {s : Sem α} {a : α} (h : pr P s = some a) (w : World) : s.run P w = .ok a w := by
  induction s with
  | pure x => simp only [pr, Option.some.injEq] at h; subst h; rfl
  | program k ih => exact ih P h
  | mark m k ih => exact ih h
  | _ => simp [pr] at h

/-! ### tables by number -/
inductive Tr (α : Type) where
  | lf
  | nd (v : Option α) (l r : Tr α)
def Tr.get {α : Type} : Tr α → Nat → Option α
  | .lf, _ => none
  | .nd v l r, n => match n with
    | 0 => v
    | m + 1 => bif Nat.beq (Nat.mod m 2) 0 then l.get (Nat.div m 2) else r.get (Nat.div m 2)
/-- writes, and goes on with what is written out -/
def Tr.setK {α β : Type} (x : Option α) : Nat → Tr α → Nat → (Tr α → Option β) → Option β
  | 0, _, _, _ => none
  | f + 1, .lf, n, k => match n with
    | 0 => k (.nd x .lf .lf)
    | m + 1 => bif Nat.beq (Nat.mod m 2) 0 then Tr.setK x f .lf (Nat.div m 2) (fun t => k (.nd none t .lf)) else Tr.setK x f .lf (Nat.div m 2) (fun t => k (.nd none .lf t))
  | f + 1, .nd v l r, n, k => match n with
    | 0 => k (.nd x l r)
    | m + 1 => bif Nat.beq (Nat.mod m 2) 0 then Tr.setK x f l (Nat.div m 2) (fun t => k (.nd v t r)) else Tr.setK x f r (Nat.div m 2) (fun t => k (.nd v l t))
theorem beq_mod (m n : Nat) : (Nat.beq (Nat.mod m 2) 0 = Nat.beq (Nat.mod n 2) 0 ∧ Nat.div m 2 = Nat.div n 2) ↔ m = n := by
  constructor
  · rintro ⟨h1, h2⟩
    have e1 : Nat.mod m 2 = m % 2 := rfl
    have e2 : Nat.mod n 2 = n % 2 := rfl
    have e3 : Nat.div m 2 = m / 2 := rfl
    have e4 : Nat.div n 2 = n / 2 := rfl
    rw [e1, e2] at h1
    rw [e3, e4] at h2
    have hm : m % 2 = n % 2 := by
      rcases Nat.mod_two_eq_zero_or_one m with h | h <;> rcases Nat.mod_two_eq_zero_or_one n with h' | h' <;> simp [h, h'] at h1 ⊢
    omega
  · rintro rfl; exact ⟨rfl, rfl⟩
theorem Tr.setK_some {α β : Type} {x : Option α} : ∀ {f : Nat} {t : Tr α} {n : Nat} {k : Tr α → Option β} {r : β}, Tr.setK x f t n k = some r →
    ∃ t' : Tr α, k t' = some r ∧ ∀ i, t'.get i = if i = n then x else t.get i
  | 0, t, n, k, r, h => by simp [Tr.setK] at h
  | f + 1, .lf, n, k, r, h => by
    cases n with
    | zero => exact ⟨_, h, fun i => by cases i <;> simp [Tr.get]⟩
    | succ m =>
      simp only [Tr.setK] at h
      cases hb : Nat.beq (Nat.mod m 2) 0 with
      | true =>
        rw [hb] at h
        obtain ⟨t', hk, hg⟩ := Tr.setK_some h
        refine ⟨_, hk, fun i => ?_⟩
        cases i with
        | zero => simp [Tr.get]
        | succ i =>
          simp only [Tr.get, Nat.add_right_cancel_iff]
          have hi := beq_mod i m
          rw [hb] at hi
          cases hc : Nat.beq (Nat.mod i 2) 0 with
          | true => simp only [cond_true, hg]; rw [hc] at hi; simp only [true_and] at hi; simp [hi, Tr.get]
          | false => rw [hc] at hi; simp only [cond_false]; have : i ≠ m := fun e => by simpa using hi.2 e
                     simp [this]
      | false =>
        rw [hb] at h
        obtain ⟨t', hk, hg⟩ := Tr.setK_some h
        refine ⟨_, hk, fun i => ?_⟩
        cases i with
        | zero => simp [Tr.get]
        | succ i =>
          simp only [Tr.get, Nat.add_right_cancel_iff]
          have hi := beq_mod i m
          rw [hb] at hi
          cases hc : Nat.beq (Nat.mod i 2) 0 with
          | false => simp only [cond_false, hg]; rw [hc] at hi; simp only [true_and] at hi; simp [hi, Tr.get]
          | true => rw [hc] at hi; simp only [cond_true]; have : i ≠ m := fun e => by simpa using hi.2 e
                    simp [this]
  | f + 1, .nd v l r', n, k, r, h => by
    cases n with
    | zero => exact ⟨_, h, fun i => by cases i <;> simp [Tr.get]⟩
    | succ m =>
      simp only [Tr.setK] at h
      cases hb : Nat.beq (Nat.mod m 2) 0 with
      | true =>
        rw [hb] at h
        obtain ⟨t', hk, hg⟩ := Tr.setK_some h
        refine ⟨_, hk, fun i => ?_⟩
        cases i with
        | zero => simp [Tr.get]
        | succ i =>
          simp only [Tr.get, Nat.add_right_cancel_iff]
          have hi := beq_mod i m
          rw [hb] at hi
          cases hc : Nat.beq (Nat.mod i 2) 0 with
          | true => simp only [cond_true, hg]; rw [hc] at hi; simp only [true_and] at hi; simp [hi]
          | false => rw [hc] at hi; simp only [cond_false]; have : i ≠ m := fun e => by simpa using hi.2 e
                     simp [this]
      | false =>
        rw [hb] at h
        obtain ⟨t', hk, hg⟩ := Tr.setK_some h
        refine ⟨_, hk, fun i => ?_⟩
        cases i with
        | zero => simp [Tr.get]
        | succ i =>
          simp only [Tr.get, Nat.add_right_cancel_iff]
          have hi := beq_mod i m
          rw [hb] at hi
          cases hc : Nat.beq (Nat.mod i 2) 0 with
          | false => simp only [cond_false, hg]; rw [hc] at hi; simp only [true_and] at hi; simp [hi]
          | true => rw [hc] at hi; simp only [cond_true]; have : i ≠ m := fun e => by simpa using hi.2 e
                    simp [this]
def Tr.gets {α : Type} (t : Tr α) : Nat → Option α := t.get

/-! ### values with numbered places -/
inductive AV where
  | lit (v : Value)
  | ptr (id off : Nat)
  | slc (id k off len : Nat)
  | ref (id : Nat)
  | agg (l : List AV)
  | tup (l : List AV)
  | ifc (t : TypeId) (v : AV)
  | clo (f : FuncId) (l : List AV)
/-- where a numbered row lies: its block, the first cell, how many elements there is room for -/
structure Lc where
  b : Nat
  o : Nat
  c : Nat
abbrev LM := Nat → Option Lc
mutual
def VR (m : LM) : AV → Value → Prop
  | .lit x, v => v = x
  | .ptr i k, v => ∃ l, m i = some l ∧ v = .pointer (some ⟨l.b, l.o + k, none⟩)
  | .slc i k o n, v => ∃ l, m i = some l ∧ k + n ≤ l.c ∧ v = .slice (some ⟨l.b, l.o + o, none⟩) n (l.c - k)
  | .ref i, v => ∃ l, m i = some l ∧ v = .map (some l.b)
  | .agg l, v => ∃ vs : List Value, v = .agg vs.toArray ∧ VRs m l vs
  | .tup l, v => ∃ vs : List Value, v = .tuple vs.toArray ∧ VRs m l vs
  | .ifc t x, v => ∃ y, v = .iface t y ∧ VR m x y
  | .clo f l, v => ∃ vs : List Value, v = .func (.func f) #[] vs.toArray ∧ VRs m l vs
def VRs (m : LM) : List AV → List Value → Prop
  | [], vs => vs = []
  | a :: l, vs => ∃ v t, vs = v :: t ∧ VR m a v ∧ VRs m l t
end
def Le (m m' : LM) : Prop := ∀ i l, m i = some l → m' i = some l
theorem Le.refl (m : LM) : Le m m := fun _ _ h => h
theorem Le.trans {a b c : LM} (h : Le a b) (h' : Le b c) : Le a c := fun i l e => h' i l (h i l e)
mutual
theorem VR.mono {m m' : LM} (h : Le m m') : ∀ {a : AV} {v : Value}, VR m a v → VR m' a v
  | .lit x, v, e => by simpa [VR] using e
  | .ptr i k, v, e => by simp only [VR] at *; obtain ⟨l, h1, h2⟩ := e; exact ⟨l, h _ _ h1, h2⟩
  | .slc i k o n, v, e => by simp only [VR] at *; obtain ⟨l, h1, h2⟩ := e; exact ⟨l, h _ _ h1, h2⟩
  | .ref i, v, e => by simp only [VR] at *; obtain ⟨l, h1, h2⟩ := e; exact ⟨l, h _ _ h1, h2⟩
  | .agg l, v, e => by simp only [VR] at *; obtain ⟨vs, h1, h2⟩ := e; exact ⟨vs, h1, VRs.mono h h2⟩
  | .tup l, v, e => by simp only [VR] at *; obtain ⟨vs, h1, h2⟩ := e; exact ⟨vs, h1, VRs.mono h h2⟩
  | .ifc t x, v, e => by simp only [VR] at *; obtain ⟨vs, h1, h2⟩ := e; exact ⟨vs, h1, VR.mono h h2⟩
  | .clo f l, v, e => by simp only [VR] at *; obtain ⟨vs, h1, h2⟩ := e; exact ⟨vs, h1, VRs.mono h h2⟩
theorem VRs.mono {m m' : LM} (h : Le m m') : ∀ {a : List AV} {v : List Value}, VRs m a v → VRs m' a v
  | [], v, e => by simpa [VRs] using e
  | a :: l, v, e => by simp only [VRs] at *; obtain ⟨x, t, h1, h2, h3⟩ := e; exact ⟨x, t, h1, VR.mono h h2, VRs.mono h h3⟩
end
section
variable {m : LM}
theorem VR.lit (v : Value) : VR m (.lit v) v := by simp [VR]
theorem VRs.lits : ∀ (l : List Value), VRs m (l.map .lit) l
  | [] => by simp [VRs]
  | x :: l => by simp only [List.map_cons, VRs]; exact ⟨x, l, rfl, VR.lit x, VRs.lits l⟩
theorem VRs.len : ∀ {l : List AV} {vs : List Value}, VRs m l vs → vs.length = l.length
  | [], vs, h => by simp only [VRs] at h; subst h; rfl
  | a :: l, vs, h => by simp only [VRs] at h; obtain ⟨v, t, rfl, _, h2⟩ := h; simp [VRs.len h2]
theorem VRs.get : ∀ {l : List AV} {vs : List Value} {i : Nat} {a : AV}, VRs m l vs → l[i]? = some a → ∃ v, vs[i]? = some v ∧ VR m a v
  | [], vs, i, a, h, e => by simp at e
  | x :: l, vs, i, a, h, e => by
    simp only [VRs] at h
    obtain ⟨v, t, rfl, h1, h2⟩ := h
    cases i with
    | zero => simp at e; subst e; exact ⟨v, rfl, h1⟩
    | succ i => simp at e; simpa using VRs.get h2 e
theorem VRs.set : ∀ {l : List AV} {vs : List Value} {i : Nat} {a : AV} {v : Value}, VRs m l vs → VR m a v → VRs m (l.set i a) (vs.set i v)
  | [], vs, i, a, v, h, e => by simp only [VRs] at h; subst h; simp [VRs]
  | x :: l, vs, i, a, v, h, e => by
    simp only [VRs] at h
    obtain ⟨u, t, rfl, h1, h2⟩ := h
    cases i with
    | zero => simp only [List.set_cons_zero, VRs]; exact ⟨v, t, rfl, e, h2⟩
    | succ i => simp only [List.set_cons_succ, VRs]; exact ⟨u, _, rfl, h1, VRs.set h2 e⟩
theorem VRs.append : ∀ {l l' : List AV} {vs vs' : List Value}, VRs m l vs → VRs m l' vs' → VRs m (l ++ l') (vs ++ vs')
  | [], l', vs, vs', h, h' => by simp only [VRs] at h; subst h; simpa using h'
  | x :: l, l', vs, vs', h, h' => by
    simp only [VRs] at h
    obtain ⟨u, t, rfl, h1, h2⟩ := h
    simp only [List.cons_append, VRs]
    exact ⟨u, _, rfl, h1, VRs.append h2 h'⟩
theorem VRs.take : ∀ {l : List AV} {vs : List Value} (n : Nat), VRs m l vs → VRs m (l.take n) (vs.take n)
  | [], vs, n, h => by simp only [VRs] at h; subst h; simp [VRs]
  | x :: l, vs, n, h => by
    simp only [VRs] at h
    obtain ⟨u, t, rfl, h1, h2⟩ := h
    cases n with
    | zero => simp [VRs]
    | succ n => simp only [List.take_succ_cons, VRs]; exact ⟨u, _, rfl, h1, VRs.take n h2⟩
theorem VRs.drop : ∀ {l : List AV} {vs : List Value} (n : Nat), VRs m l vs → VRs m (l.drop n) (vs.drop n)
  | [], vs, n, h => by simp only [VRs] at h; subst h; simp [VRs]
  | x :: l, vs, n, h => by
    cases n with
    | zero => exact h
    | succ n =>
      simp only [VRs] at h
      obtain ⟨u, t, rfl, h1, h2⟩ := h
      simpa using VRs.drop n h2
end

/-- the cells of a struct or an array, or the one cell of any other value -/
def AV.cells : AV → List AV
  | .agg l => l
  | .lit v => v.cells.toList.map .lit
  | a => [a]
/-- no value of several cells, no tuple -/
def AV.one : AV → Bool
  | .agg _ => false
  | .tup _ => false
  | .lit v => v.oneCell'
  | _ => true
theorem VR.cells {m : LM} {a : AV} {v : Value} (h : VR m a v) : VRs m a.cells v.cells.toList := by
  cases a with
  | lit x => simp only [VR] at h; subst h; exact VRs.lits _
  | agg l => simp only [VR] at h; obtain ⟨vs, rfl, h⟩ := h; simpa [AV.cells, Value.cells] using h
  | ptr i k => simp only [VR] at h; obtain ⟨l, h1, rfl⟩ := h; simp [AV.cells, Value.cells, VRs, VR]; exact ⟨l, h1, rfl, rfl⟩
  | slc i k o n => have h0 := h; simp only [VR] at h; obtain ⟨l, h1, h2, rfl⟩ := h; simp only [AV.cells, Value.cells, VRs]; exact ⟨_, [], rfl, h0, rfl⟩
  | ref i => have h0 := h; simp only [VR] at h; obtain ⟨l, h1, rfl⟩ := h; simp only [AV.cells, Value.cells, VRs]; exact ⟨_, [], rfl, h0, rfl⟩
  | tup l => have h0 := h; simp only [VR] at h; obtain ⟨l, rfl, h1⟩ := h; simp only [AV.cells, Value.cells, VRs]; exact ⟨_, [], rfl, h0, rfl⟩
  | ifc t x => have h0 := h; simp only [VR] at h; obtain ⟨l, rfl, h1⟩ := h; simp only [AV.cells, Value.cells, VRs]; exact ⟨_, [], rfl, h0, rfl⟩
  | clo f l => have h0 := h; simp only [VR] at h; obtain ⟨l, rfl, h1⟩ := h; simp only [AV.cells, Value.cells, VRs]; exact ⟨_, [], rfl, h0, rfl⟩
theorem VR.one {m : LM} {a : AV} {v : Value} (h : VR m a v) (h1 : a.one = true) : v.oneCell' = true := by
  cases a with
  | lit x => simp only [VR] at h; subst h; exact h1
  | agg l => simp [AV.one] at h1
  | tup l => simp [AV.one] at h1
  | ptr i k => simp only [VR] at h; obtain ⟨l, h1, rfl⟩ := h; rfl
  | slc i k o n => simp only [VR] at h; obtain ⟨l, h1, h2, rfl⟩ := h; rfl
  | ref i => simp only [VR] at h; obtain ⟨l, h1, rfl⟩ := h; rfl
  | ifc t x => simp only [VR] at h; obtain ⟨l, rfl, h1⟩ := h; rfl
  | clo f l => simp only [VR] at h; obtain ⟨l, rfl, h1⟩ := h; rfl

/-! ### numbered objects -/
inductive AO where
  | row (e : TypeId) (sz : Nat) (cs : List AV)
  | map (es : List (AV × AV))
  | iter (s : ByteArray) (pos : Nat)
def ME (m : LM) : List (AV × AV) → List MapEntry → Nat → Prop
  | [], l, _ => l = []
  | (k, x) :: r, l, n => ∃ v t, ∃ kv, l = ⟨kv, v, n⟩ :: t ∧ k = .lit kv ∧ VR m x v ∧ ME m r t (n + 1)
def OR (m : LM) (l : Lc) (w : World) : AO → Prop
  | .row e sz cs => ∃ (arr : Array Value) (vs : List Value) (fr : Nat × Nat), w.heap[l.b]? = some (.cells arr e fr) ∧ (fr.1 = fr.2 ∨ arr.size ≤ fr.1) ∧ VRs m cs vs ∧ l.o + l.c * sz ≤ arr.size ∧ ∀ j v, vs[j]? = some v → arr[l.o + j]? = some v
  | .map es => ∃ es', w.heap[l.b]? = some (.map es'.toArray es.length) ∧ ME m es es' 0
  | .iter s pos => l.o = 0 ∧ w.heap[l.b]? = some (.stringIter s pos)
theorem ME.mono {m m' : LM} (h : Le m m') : ∀ {l : List (AV × AV)} {es : List MapEntry} {n : Nat}, ME m l es n → ME m' l es n
  | [], es, n, e => e
  | (k, x) :: r, es, n, e => by
    obtain ⟨v, t, kv, h1, h2, h3, h4⟩ := e
    exact ⟨v, t, kv, h1, h2, VR.mono h h3, ME.mono h h4⟩
theorem OR.mono {m m' : LM} (h : Le m m') {l : Lc} {w : World} {o : AO} (e : OR m l w o) : OR m' l w o := by
  cases o with
  | row t sz cs => obtain ⟨arr, vs, fr, h1, hf, h2, h3⟩ := e; exact ⟨arr, vs, fr, h1, hf, VRs.mono h h2, h3⟩
  | map es => obtain ⟨es', h1, h2⟩ := e; exact ⟨es', h1, ME.mono h h2⟩
  | iter s pos => exact e
theorem OR.lt {m : LM} {l : Lc} {w : World} {o : AO} (e : OR m l w o) : l.b < w.heap.size := by
  have key : ∀ {x : Obj}, w.heap[l.b]? = some x → l.b < w.heap.size := fun h => (Array.getElem?_eq_some_iff.1 h).1
  cases o with
  | row t sz cs => obtain ⟨arr, vs, fr, h1, h2, h3⟩ := e; exact key h1
  | map es => obtain ⟨es', h1, h2⟩ := e; exact key h1
  | iter s pos => exact key e.2
/-- an object is untouched where its block is -/
theorem OR.keep {m : LM} {l : Lc} {w w' : World} {o : AO} (e : OR m l w o) (h : w'.heap[l.b]? = w.heap[l.b]?) : OR m l w' o := by
  cases o with
  | row t sz cs => obtain ⟨arr, vs, fr, h1, h2, h3⟩ := e; exact ⟨arr, vs, fr, h.trans h1, h2, h3⟩
  | map es => obtain ⟨es', h1, h2⟩ := e; exact ⟨es', h.trans h1, h2⟩
  | iter s pos => exact ⟨e.1, h.trans e.2⟩

/-- the numbered objects lie in the world, each in a block of its own -/
structure HR (m : LM) (H : Nat → Option AO) (w : World) : Prop where
  at_ : ∀ i o, H i = some o → ∃ l, m i = some l ∧ OR m l w o
  sep : ∀ i j o o' l l', i ≠ j → H i = some o → H j = some o' → m i = some l → m j = some l' → l.b ≠ l'.b
  bb : ∀ i l, m i = some l → l.b < w.heap.size
def Dom (m : LM) (n : Nat) : Prop := ∀ i l, m i = some l → i < n
/-- what a step may do to the world: blocks that are not among the numbered ones stay -/
structure Upd (m : LM) (w : World) (m' : LM) (w' : World) : Prop where
  le : Le m m'
  os : w'.os = w.os
  tape : w'.tape = w.tape
  output : w'.output = w.output
  size : w.heap.size ≤ w'.heap.size
  keep : ∀ b, b < w.heap.size → (∀ i l, m i = some l → l.b ≠ b) → w'.heap[b]? = w.heap[b]?
  new : ∀ i l, m' i = some l → m i = some l ∨ (∃ j l', m j = some l' ∧ l'.b = l.b) ∨ (w.heap.size ≤ l.b ∧ l.b < w'.heap.size)
theorem Upd.refl (m : LM) (w : World) : Upd m w m w := ⟨Le.refl m, rfl, rfl, rfl, Nat.le_refl _, fun _ _ _ => rfl, fun _ _ h => .inl h⟩
theorem Upd.trans {m m' m'' : LM} {w w' w'' : World} (h : Upd m w m' w') (h' : Upd m' w' m'' w'') : Upd m w m'' w'' := by
  refine ⟨h.le.trans h'.le, h'.os.trans h.os, h'.tape.trans h.tape, h'.output.trans h.output, Nat.le_trans h.size h'.size, ?_, ?_⟩
  · intro b hb hn
    rw [h'.keep b (Nat.lt_of_lt_of_le hb h.size) ?_, h.keep b hb hn]
    intro i l hi
    rcases h.new i l hi with h1 | ⟨j, l', h1, h2⟩ | h1
    · exact hn i l h1
    · exact h2 ▸ hn j l' h1
    · omega
  · intro i l hi
    rcases h'.new i l hi with h1 | ⟨j, l', h1, h2⟩ | h1
    · rcases h.new i l h1 with h3 | h3 | h3
      · exact .inl h3
      · exact .inr (.inl h3)
      · exact .inr (.inr ⟨h3.1, Nat.lt_of_lt_of_le h3.2 h'.size⟩)
    · rcases h.new j l' h1 with h3 | ⟨k, l3, h3, h4⟩ | h3
      · exact .inr (.inl ⟨j, l', h3, h2⟩)
      · exact .inr (.inl ⟨k, l3, h3, h4.trans h2⟩)
      · exact .inr (.inr ⟨h2 ▸ h3.1, h2 ▸ Nat.lt_of_lt_of_le h3.2 h'.size⟩)
    · exact .inr (.inr ⟨Nat.le_trans h.size h1.1, h1.2⟩)
end Go.Ev
