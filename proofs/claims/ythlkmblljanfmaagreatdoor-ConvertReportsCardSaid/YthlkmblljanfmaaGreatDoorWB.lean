/-
  Several texts in one: Ea Eb Ec Er Ed Ee Es
-/
import Derived.Test.YthlkmblljanfmaaGreatDoorWA
import Derived.Orders
import Derived.Lib.Builder
import Derived.Lib.UnsafeStr
import Derived.Lib.ConvBytes
import Derived.Deep.AppendSrc
section
set_option linter.unusedVariables false
set_option linter.unusedSimpArgs false
namespace Go.Ev
open Go Go.RowKit Go.Dk
/-! ### what asks the program alone -/
def pr {α : Type} (P : Program) : Sem α → Option α
  | .pure a => some a
  | .program k => pr P (k P)
  | .mark _ k => pr P k
  | _ => none
theorem pr_run {α : Type} {P : Program} {s : Sem α} {a : α} (h : pr P s = some a) (w : World) : s.run P w = .ok a w := by
  induction s with
  | pure x => simp only [pr, Option.some.injEq] at h; subst h; rfl
  | program k ih => exact ih P h
  | mark m k ih => exact ih h
  | _ => simp [pr] at h
/-! ### tables by number -/
inductive Tr (α : Type) where
  | lf
  | nd (v : Option α) (l r : Tr α)
def Tr.get {α : Type} : Tr α → Nat → Option α
  | .lf, _ => none
  | .nd v l r, n => match n with
    | 0 => v
    | m + 1 => bif Nat.beq (Nat.mod m 2) 0 then l.get (Nat.div m 2) else r.get (Nat.div m 2)
def Tr.setK {α β : Type} (x : Option α) : Nat → Tr α → Nat → (Tr α → Option β) → Option β
  | 0, _, _, _ => none
  | f + 1, .lf, n, k => match n with
    | 0 => k (.nd x .lf .lf)
    | m + 1 => bif Nat.beq (Nat.mod m 2) 0 then Tr.setK x f .lf (Nat.div m 2) (fun t => k (.nd none t .lf)) else Tr.setK x f .lf (Nat.div m 2) (fun t => k (.nd none .lf t))
  | f + 1, .nd v l r, n, k => match n with
    | 0 => k (.nd x l r)
    | m + 1 => bif Nat.beq (Nat.mod m 2) 0 then Tr.setK x f l (Nat.div m 2) (fun t => k (.nd v t r)) else Tr.setK x f r (Nat.div m 2) (fun t => k (.nd v l t))
theorem beq_mod (m n : Nat) : (Nat.beq (Nat.mod m 2) 0 = Nat.beq (Nat.mod n 2) 0 ∧ Nat.div m 2 = Nat.div n 2) ↔ m = n := by
  constructor
  · rintro ⟨h1, h2⟩
    have e1 : Nat.mod m 2 = m % 2 := rfl
    have e2 : Nat.mod n 2 = n % 2 := rfl
    have e3 : Nat.div m 2 = m / 2 := rfl
    have e4 : Nat.div n 2 = n / 2 := rfl
    rw [e1, e2] at h1
    rw [e3, e4] at h2
    have hm : m % 2 = n % 2 := by
      rcases Nat.mod_two_eq_zero_or_one m with h | h <;> rcases Nat.mod_two_eq_zero_or_one n with h' | h' <;> simp [h, h'] at h1 ⊢
    omega
  · rintro rfl; exact ⟨rfl, rfl⟩
theorem Tr.setK_some {α β : Type} {x : Option α} : ∀ {f : Nat} {t : Tr α} {n : Nat} {k : Tr α → Option β} {r : β}, Tr.setK x f t n k = some r →
    ∃ t' : Tr α, k t' = some r ∧ ∀ i, t'.get i = if i = n then x else t.get i
  | 0, t, n, k, r, h => by simp [Tr.setK] at h
  | f + 1, .lf, n, k, r, h => by
    cases n with
    | zero => exact ⟨_, h, fun i => by cases i <;> simp [Tr.get]⟩
    | succ m =>
      simp only [Tr.setK] at h
      cases hb : Nat.beq (Nat.mod m 2) 0 with
      | true =>
        rw [hb] at h
        obtain ⟨t', hk, hg⟩ := Tr.setK_some h
        refine ⟨_, hk, fun i => ?_⟩
        cases i with
        | zero => simp [Tr.get]
        | succ i =>
          simp only [Tr.get, Nat.add_right_cancel_iff]
          have hi := beq_mod i m
          rw [hb] at hi
          cases hc : Nat.beq (Nat.mod i 2) 0 with
          | true => simp only [cond_true, hg]; rw [hc] at hi; simp only [true_and] at hi; simp [hi, Tr.get]
          | false => rw [hc] at hi; simp only [cond_false]; have : i ≠ m := fun e => by simpa using hi.2 e
                     simp [this]
      | false =>
        rw [hb] at h
        obtain ⟨t', hk, hg⟩ := Tr.setK_some h
        refine ⟨_, hk, fun i => ?_⟩
        cases i with
        | zero => simp [Tr.get]
        | succ i =>
          simp only [Tr.get, Nat.add_right_cancel_iff]
          have hi := beq_mod i m
          rw [hb] at hi
          cases hc : Nat.beq (Nat.mod i 2) 0 with
          | false => simp only [cond_false, hg]; rw [hc] at hi; simp only [true_and] at hi; simp [hi, Tr.get]
          | true => rw [hc] at hi; simp only [cond_true]; have : i ≠ m := fun e => by simpa using hi.2 e
                    simp [this]
  | f + 1, .nd v l r', n, k, r, h => by
    cases n with
    | zero => exact ⟨_, h, fun i => by cases i <;> simp [Tr.get]⟩
    | succ m =>
      simp only [Tr.setK] at h
      cases hb : Nat.beq (Nat.mod m 2) 0 with
      | true =>
        rw [hb] at h
        obtain ⟨t', hk, hg⟩ := Tr.setK_some h
        refine ⟨_, hk, fun i => ?_⟩
        cases i with
        | zero => simp [Tr.get]
        | succ i =>
          simp only [Tr.get, Nat.add_right_cancel_iff]
          have hi := beq_mod i m
          rw [hb] at hi
          cases hc : Nat.beq (Nat.mod i 2) 0 with
          | true => simp only [cond_true, hg]; rw [hc] at hi; simp only [true_and] at hi; simp [hi]
          | false => rw [hc] at hi; simp only [cond_false]; have : i ≠ m := fun e => by simpa using hi.2 e
                     simp [this]
      | false =>
        rw [hb] at h
        obtain ⟨t', hk, hg⟩ := Tr.setK_some h
        refine ⟨_, hk, fun i => ?_⟩
        cases i with
        | zero => simp [Tr.get]
        | succ i =>
          simp only [Tr.get, Nat.add_right_cancel_iff]
          have hi := beq_mod i m
          rw [hb] at hi
          cases hc : Nat.beq (Nat.mod i 2) 0 with
          | false => simp only [cond_false, hg]; rw [hc] at hi; simp only [true_and] at hi; simp [hi]
          | true => rw [hc] at hi; simp only [cond_true]; have : i ≠ m := fun e => by simpa using hi.2 e
                    simp [this]
def Tr.gets {α : Type} (t : Tr α) : Nat → Option α := t.get
/-! ### values with numbered places -/
inductive AV where
  | lit (v : Value)
  | ptr (id off : Nat)
  | slc (id k off len : Nat)
  | ref (id : Nat)
  | agg (l : List AV)
  | tup (l : List AV)
  | ifc (t : TypeId) (v : AV)
  | clo (f : FuncId) (l : List AV)
structure Lc where
  b : Nat
  o : Nat
  c : Nat
abbrev LM := Nat → Option Lc
mutual
def VR (m : LM) : AV → Value → Prop
  | .lit x, v => v = x
  | .ptr i k, v => ∃ l, m i = some l ∧ v = .pointer (some ⟨l.b, l.o + k, none⟩)
  | .slc i k o n, v => ∃ l, m i = some l ∧ k + n ≤ l.c ∧ v = .slice (some ⟨l.b, l.o + o, none⟩) n (l.c - k)
  | .ref i, v => ∃ l, m i = some l ∧ v = .map (some l.b)
  | .agg l, v => ∃ vs : List Value, v = .agg vs.toArray ∧ VRs m l vs
  | .tup l, v => ∃ vs : List Value, v = .tuple vs.toArray ∧ VRs m l vs
  | .ifc t x, v => ∃ y, v = .iface t y ∧ VR m x y
  | .clo f l, v => ∃ vs : List Value, v = .func (.func f) #[] vs.toArray ∧ VRs m l vs
def VRs (m : LM) : List AV → List Value → Prop
  | [], vs => vs = []
  | a :: l, vs => ∃ v t, vs = v :: t ∧ VR m a v ∧ VRs m l t
end
def Le (m m' : LM) : Prop := ∀ i l, m i = some l → m' i = some l
theorem Le.refl (m : LM) : Le m m := fun _ _ h => h
theorem Le.trans {a b c : LM} (h : Le a b) (h' : Le b c) : Le a c := fun i l e => h' i l (h i l e)
mutual
theorem VR.mono {m m' : LM} (h : Le m m') : ∀ {a : AV} {v : Value}, VR m a v → VR m' a v
  | .lit x, v, e => by simpa [VR] using e
  | .ptr i k, v, e => by simp only [VR] at *; obtain ⟨l, h1, h2⟩ := e; exact ⟨l, h _ _ h1, h2⟩
  | .slc i k o n, v, e => by simp only [VR] at *; obtain ⟨l, h1, h2⟩ := e; exact ⟨l, h _ _ h1, h2⟩
  | .ref i, v, e => by simp only [VR] at *; obtain ⟨l, h1, h2⟩ := e; exact ⟨l, h _ _ h1, h2⟩
  | .agg l, v, e => by simp only [VR] at *; obtain ⟨vs, h1, h2⟩ := e; exact ⟨vs, h1, VRs.mono h h2⟩
  | .tup l, v, e => by simp only [VR] at *; obtain ⟨vs, h1, h2⟩ := e; exact ⟨vs, h1, VRs.mono h h2⟩
  | .ifc t x, v, e => by simp only [VR] at *; obtain ⟨vs, h1, h2⟩ := e; exact ⟨vs, h1, VR.mono h h2⟩
  | .clo f l, v, e => by simp only [VR] at *; obtain ⟨vs, h1, h2⟩ := e; exact ⟨vs, h1, VRs.mono h h2⟩
theorem VRs.mono {m m' : LM} (h : Le m m') : ∀ {a : List AV} {v : List Value}, VRs m a v → VRs m' a v
  | [], v, e => by simpa [VRs] using e
  | a :: l, v, e => by simp only [VRs] at *; obtain ⟨x, t, h1, h2, h3⟩ := e; exact ⟨x, t, h1, VR.mono h h2, VRs.mono h h3⟩
end
section
variable {m : LM}
theorem VR.lit (v : Value) : VR m (.lit v) v := by simp [VR]
theorem VRs.lits : ∀ (l : List Value), VRs m (l.map .lit) l
  | [] => by simp [VRs]
  | x :: l => by simp only [List.map_cons, VRs]; exact ⟨x, l, rfl, VR.lit x, VRs.lits l⟩
theorem VRs.len : ∀ {l : List AV} {vs : List Value}, VRs m l vs → vs.length = l.length
  | [], vs, h => by simp only [VRs] at h; subst h; rfl
  | a :: l, vs, h => by simp only [VRs] at h; obtain ⟨v, t, rfl, _, h2⟩ := h; simp [VRs.len h2]
theorem VRs.get : ∀ {l : List AV} {vs : List Value} {i : Nat} {a : AV}, VRs m l vs → l[i]? = some a → ∃ v, vs[i]? = some v ∧ VR m a v
  | [], vs, i, a, h, e => by simp at e
  | x :: l, vs, i, a, h, e => by
    simp only [VRs] at h
    obtain ⟨v, t, rfl, h1, h2⟩ := h
    cases i with
    | zero => simp at e; subst e; exact ⟨v, rfl, h1⟩
    | succ i => simp at e; simpa using VRs.get h2 e
theorem VRs.set : ∀ {l : List AV} {vs : List Value} {i : Nat} {a : AV} {v : Value}, VRs m l vs → VR m a v → VRs m (l.set i a) (vs.set i v)
  | [], vs, i, a, v, h, e => by simp only [VRs] at h; subst h; simp [VRs]
  | x :: l, vs, i, a, v, h, e => by
    simp only [VRs] at h
    obtain ⟨u, t, rfl, h1, h2⟩ := h
    cases i with
    | zero => simp only [List.set_cons_zero, VRs]; exact ⟨v, t, rfl, e, h2⟩
    | succ i => simp only [List.set_cons_succ, VRs]; exact ⟨u, _, rfl, h1, VRs.set h2 e⟩
theorem VRs.append : ∀ {l l' : List AV} {vs vs' : List Value}, VRs m l vs → VRs m l' vs' → VRs m (l ++ l') (vs ++ vs')
  | [], l', vs, vs', h, h' => by simp only [VRs] at h; subst h; simpa using h'
  | x :: l, l', vs, vs', h, h' => by
    simp only [VRs] at h
    obtain ⟨u, t, rfl, h1, h2⟩ := h
    simp only [List.cons_append, VRs]
    exact ⟨u, _, rfl, h1, VRs.append h2 h'⟩
theorem VRs.take : ∀ {l : List AV} {vs : List Value} (n : Nat), VRs m l vs → VRs m (l.take n) (vs.take n)
  | [], vs, n, h => by simp only [VRs] at h; subst h; simp [VRs]
  | x :: l, vs, n, h => by
    simp only [VRs] at h
    obtain ⟨u, t, rfl, h1, h2⟩ := h
    cases n with
    | zero => simp [VRs]
    | succ n => simp only [List.take_succ_cons, VRs]; exact ⟨u, _, rfl, h1, VRs.take n h2⟩
theorem VRs.drop : ∀ {l : List AV} {vs : List Value} (n : Nat), VRs m l vs → VRs m (l.drop n) (vs.drop n)
  | [], vs, n, h => by simp only [VRs] at h; subst h; simp [VRs]
  | x :: l, vs, n, h => by
    cases n with
    | zero => exact h
    | succ n =>
      simp only [VRs] at h
      obtain ⟨u, t, rfl, h1, h2⟩ := h
      simpa using VRs.drop n h2
end
def AV.cells : AV → List AV
  | .agg l => l
  | .lit v => v.cells.toList.map .lit
  | a => [a]
def AV.one : AV → Bool
  | .agg _ => false
  | .tup _ => false
  | .lit v => v.oneCell'
  | _ => true
theorem VR.cells {m : LM} {a : AV} {v : Value} (h : VR m a v) : VRs m a.cells v.cells.toList := by
  cases a with
  | lit x => simp only [VR] at h; subst h; exact VRs.lits _
  | agg l => simp only [VR] at h; obtain ⟨vs, rfl, h⟩ := h; simpa [AV.cells, Value.cells] using h
  | ptr i k => simp only [VR] at h; obtain ⟨l, h1, rfl⟩ := h; simp [AV.cells, Value.cells, VRs, VR]; exact ⟨l, h1, rfl, rfl⟩
  | slc i k o n => have h0 := h; simp only [VR] at h; obtain ⟨l, h1, h2, rfl⟩ := h; simp only [AV.cells, Value.cells, VRs]; exact ⟨_, [], rfl, h0, rfl⟩
  | ref i => have h0 := h; simp only [VR] at h; obtain ⟨l, h1, rfl⟩ := h; simp only [AV.cells, Value.cells, VRs]; exact ⟨_, [], rfl, h0, rfl⟩
  | tup l => have h0 := h; simp only [VR] at h; obtain ⟨l, rfl, h1⟩ := h; simp only [AV.cells, Value.cells, VRs]; exact ⟨_, [], rfl, h0, rfl⟩
  | ifc t x => have h0 := h; simp only [VR] at h; obtain ⟨l, rfl, h1⟩ := h; simp only [AV.cells, Value.cells, VRs]; exact ⟨_, [], rfl, h0, rfl⟩
  | clo f l => have h0 := h; simp only [VR] at h; obtain ⟨l, rfl, h1⟩ := h; simp only [AV.cells, Value.cells, VRs]; exact ⟨_, [], rfl, h0, rfl⟩
theorem VR.one {m : LM} {a : AV} {v : Value} (h : VR m a v) (h1 : a.one = true) : v.oneCell' = true := by
  cases a with
  | lit x => simp only [VR] at h; subst h; exact h1
  | agg l => simp [AV.one] at h1
  | tup l => simp [AV.one] at h1
  | ptr i k => simp only [VR] at h; obtain ⟨l, h1, rfl⟩ := h; rfl
  | slc i k o n => simp only [VR] at h; obtain ⟨l, h1, h2, rfl⟩ := h; rfl
  | ref i => simp only [VR] at h; obtain ⟨l, h1, rfl⟩ := h; rfl
  | ifc t x => simp only [VR] at h; obtain ⟨l, rfl, h1⟩ := h; rfl
  | clo f l => simp only [VR] at h; obtain ⟨l, rfl, h1⟩ := h; rfl
/-! ### numbered objects -/
inductive AO where
  | row (e : TypeId) (sz : Nat) (cs : List AV)
  | map (es : List (AV × AV))
  | iter (s : ByteArray) (pos : Nat)
def ME (m : LM) : List (AV × AV) → List MapEntry → Nat → Prop
  | [], l, _ => l = []
  | (k, x) :: r, l, n => ∃ v t, ∃ kv, l = ⟨kv, v, n⟩ :: t ∧ k = .lit kv ∧ VR m x v ∧ ME m r t (n + 1)
def OR (m : LM) (l : Lc) (w : World) : AO → Prop
  | .row e sz cs => ∃ (arr : Array Value) (vs : List Value) (fr : Nat × Nat), w.heap[l.b]? = some (.cells arr e fr) ∧ (fr.1 = fr.2 ∨ arr.size ≤ fr.1) ∧ VRs m cs vs ∧ l.o + l.c * sz ≤ arr.size ∧ (sz = 0 → l.o = 0 ∧ arr.size = cs.length) ∧ ∀ j v, vs[j]? = some v → arr[l.o + j]? = some v
  | .map es => ∃ es', w.heap[l.b]? = some (.map es'.toArray es.length) ∧ ME m es es' 0
  | .iter s pos => l.o = 0 ∧ w.heap[l.b]? = some (.stringIter s pos)
theorem ME.mono {m m' : LM} (h : Le m m') : ∀ {l : List (AV × AV)} {es : List MapEntry} {n : Nat}, ME m l es n → ME m' l es n
  | [], es, n, e => e
  | (k, x) :: r, es, n, e => by
    obtain ⟨v, t, kv, h1, h2, h3, h4⟩ := e
    exact ⟨v, t, kv, h1, h2, VR.mono h h3, ME.mono h h4⟩
theorem OR.mono {m m' : LM} (h : Le m m') {l : Lc} {w : World} {o : AO} (e : OR m l w o) : OR m' l w o := by
  cases o with
  | row t sz cs => obtain ⟨arr, vs, fr, h1, hf, h2, h3⟩ := e; exact ⟨arr, vs, fr, h1, hf, VRs.mono h h2, h3⟩
  | map es => obtain ⟨es', h1, h2⟩ := e; exact ⟨es', h1, ME.mono h h2⟩
  | iter s pos => exact e
theorem OR.lt {m : LM} {l : Lc} {w : World} {o : AO} (e : OR m l w o) : l.b < w.heap.size := by
  have key : ∀ {x : Obj}, w.heap[l.b]? = some x → l.b < w.heap.size := fun h => (Array.getElem?_eq_some_iff.1 h).1
  cases o with
  | row t sz cs => obtain ⟨arr, vs, fr, h1, h2, h3⟩ := e; exact key h1
  | map es => obtain ⟨es', h1, h2⟩ := e; exact key h1
  | iter s pos => exact key e.2
theorem OR.keep {m : LM} {l : Lc} {w w' : World} {o : AO} (e : OR m l w o) (h : w'.heap[l.b]? = w.heap[l.b]?) : OR m l w' o := by
  cases o with
  | row t sz cs => obtain ⟨arr, vs, fr, h1, h2, h3⟩ := e; exact ⟨arr, vs, fr, h.trans h1, h2, h3⟩
  | map es => obtain ⟨es', h1, h2⟩ := e; exact ⟨es', h.trans h1, h2⟩
  | iter s pos => exact ⟨e.1, h.trans e.2⟩
structure HR (m : LM) (H : Nat → Option AO) (w : World) : Prop where
  at_ : ∀ i o, H i = some o → ∃ l, m i = some l ∧ OR m l w o
  sep : ∀ i j o o' l l', i ≠ j → H i = some o → H j = some o' → m i = some l → m j = some l' → l.b ≠ l'.b
  bb : ∀ i l, m i = some l → l.b < w.heap.size
def Dom (m : LM) (n : Nat) : Prop := ∀ i l, m i = some l → i < n
structure Upd (m : LM) (w : World) (m' : LM) (w' : World) : Prop where
  le : Le m m'
  os : w'.os = w.os
  tape : w'.tape = w.tape
  output : w'.output = w.output
  size : w.heap.size ≤ w'.heap.size
  keep : ∀ b, b < w.heap.size → (∀ i l, m i = some l → l.b ≠ b) → w'.heap[b]? = w.heap[b]?
  new : ∀ i l, m' i = some l → m i = some l ∨ (∃ j l', m j = some l' ∧ l'.b = l.b) ∨ (w.heap.size ≤ l.b ∧ l.b < w'.heap.size)
theorem Upd.refl (m : LM) (w : World) : Upd m w m w := ⟨Le.refl m, rfl, rfl, rfl, Nat.le_refl _, fun _ _ _ => rfl, fun _ _ h => .inl h⟩
theorem Upd.trans {m m' m'' : LM} {w w' w'' : World} (h : Upd m w m' w') (h' : Upd m' w' m'' w'') : Upd m w m'' w'' := by
  refine ⟨h.le.trans h'.le, h'.os.trans h.os, h'.tape.trans h.tape, h'.output.trans h.output, Nat.le_trans h.size h'.size, ?_, ?_⟩
  · intro b hb hn
    rw [h'.keep b (Nat.lt_of_lt_of_le hb h.size) ?_, h.keep b hb hn]
    intro i l hi
    rcases h.new i l hi with h1 | ⟨j, l', h1, h2⟩ | h1
    · exact hn i l h1
    · exact h2 ▸ hn j l' h1
    · omega
  · intro i l hi
    rcases h'.new i l hi with h1 | ⟨j, l', h1, h2⟩ | h1
    · rcases h.new i l h1 with h3 | h3 | h3
      · exact .inl h3
      · exact .inr (.inl h3)
      · exact .inr (.inr ⟨h3.1, Nat.lt_of_lt_of_le h3.2 h'.size⟩)
    · rcases h.new j l' h1 with h3 | ⟨k, l3, h3, h4⟩ | h3
      · exact .inr (.inl ⟨j, l', h3, h2⟩)
      · exact .inr (.inl ⟨k, l3, h3, h4.trans h2⟩)
      · exact .inr (.inr ⟨h2 ▸ h3.1, h2 ▸ Nat.lt_of_lt_of_le h3.2 h'.size⟩)
    · exact .inr (.inr ⟨Nat.le_trans h.size h1.1, h1.2⟩)
end Go.Ev
end
section
set_option linter.unusedVariables false
set_option linter.unusedSimpArgs false
namespace Go.Ev
open Go Go.RowKit Go.Dk
/-! ### closed values -/
mutual
def AV.clos : AV → Option Value
  | .lit v => some v
  | .agg l => match AV.closL l with | some vs => some (.agg vs.toArray) | none => none
  | .tup l => match AV.closL l with | some vs => some (.tuple vs.toArray) | none => none
  | .ifc t x => match AV.clos x with | some v => some (.iface t v) | none => none
  | _ => none
def AV.closL : List AV → Option (List Value)
  | [] => some []
  | a :: l => match AV.clos a with
    | some v => match AV.closL l with | some vs => some (v :: vs) | none => none
    | none => none
end
mutual
theorem clos_eq {m : LM} : ∀ {a : AV} {v v' : Value}, VR m a v → a.clos = some v' → v = v'
  | .lit x, v, v', h, e => by simp only [VR] at h; simp only [AV.clos, Option.some.injEq] at e; rw [h, e]
  | .agg l, v, v', h, e => by
    simp only [VR] at h
    obtain ⟨vs, rfl, h⟩ := h
    simp only [AV.clos] at e
    cases hl : AV.closL l with
    | none => simp [hl] at e
    | some us => simp only [hl, Option.some.injEq] at e; subst e; rw [closL_eq h hl]
  | .tup l, v, v', h, e => by
    simp only [VR] at h
    obtain ⟨vs, rfl, h⟩ := h
    simp only [AV.clos] at e
    cases hl : AV.closL l with
    | none => simp [hl] at e
    | some us => simp only [hl, Option.some.injEq] at e; subst e; rw [closL_eq h hl]
  | .ifc t x, v, v', h, e => by
    simp only [VR] at h
    obtain ⟨vs, rfl, h⟩ := h
    simp only [AV.clos] at e
    cases hl : AV.clos x with
    | none => simp [hl] at e
    | some us => simp only [hl, Option.some.injEq] at e; subst e; rw [clos_eq h hl]
  | .ptr _ _, v, v', h, e => by simp [AV.clos] at e
  | .slc _ _ _ _, v, v', h, e => by simp [AV.clos] at e
  | .ref _, v, v', h, e => by simp [AV.clos] at e
  | .clo _ _, v, v', h, e => by simp [AV.clos] at e
theorem closL_eq {m : LM} : ∀ {l : List AV} {vs us : List Value}, VRs m l vs → AV.closL l = some us → vs = us
  | [], vs, us, h, e => by simp only [VRs] at h; simp only [AV.closL, Option.some.injEq] at e; rw [h, e]
  | a :: l, vs, us, h, e => by
    simp only [VRs] at h
    obtain ⟨v, t, rfl, h1, h2⟩ := h
    simp only [AV.closL] at e
    cases ha : AV.clos a with
    | none => simp [ha] at e
    | some v' =>
      cases hl : AV.closL l with
      | none => simp [ha, hl] at e
      | some us' => simp only [ha, hl, Option.some.injEq] at e; subst e; rw [clos_eq h1 ha, closL_eq h2 hl]
end
/-! ### what an operation yields -/
inductive LR where
  | val (a : AV)
  | new (a : AV) (o : AO)
structure Grow (w w' : World) : Prop where
  os : w'.os = w.os
  tape : w'.tape = w.tape
  output : w'.output = w.output
  size : w'.heap.size = w.heap.size + 1
  keep : ∀ b, b < w.heap.size → w'.heap[b]? = w.heap[b]?
theorem Grow.alloc (w : World) (o : Obj) : Grow w (w.alloc o) := ⟨rfl, rfl, rfl, by show (w.heap.push o).size = _; simp, fun b hb => Below.heap_alloc w o b hb⟩
def LOk (P : Program) (m : LM) (w : World) (τ : Operand → Value) (n : Nat) (o : Oper) : LR → Prop
  | .val a => ∃ v, VR m a v ∧ (execOp τ o).run P w = .ok (.value v) w
  | .new a ob => ∃ v w' c, (execOp τ o).run P w = .ok (.value v) w' ∧ Grow w w' ∧ ∀ m', Le m m' → m' n = some ⟨w.heap.size, 0, c⟩ → VR m' a v ∧ OR m' ⟨w.heap.size, 0, c⟩ w' ob
def HK (m : LM) (H : Nat → Option AO) (w : World) : Prop := ∀ i o, H i = some o → ∃ l, m i = some l ∧ OR m l w o
def RK (m : LM) (ρ : Operand → Option AV) (τ : Operand → Value) : Prop := ∀ x a, ρ x = some a → VR m a (τ x)
section
variable {P : Program} {m : LM} {w : World} {τ : Operand → Value} {ρ : Operand → Option AV} {H : Nat → Option AO} {o : Oper} {n : Nat}
theorem or_cell {l : Lc} {e sz : Nat} {cs : List AV} {j : Nat} {a : AV} (h : OR m l w (.row e sz cs)) (hj : cs[j]? = some a) : ∃ v, VR m a v ∧ w.cell? ⟨l.b, l.o + j, none⟩ = some v := by
  obtain ⟨arr, vs, fr, h1, h2, h3, h4, h6, h5⟩ := h
  obtain ⟨v, hv, hr⟩ := h3.get hj
  exact ⟨v, hr, by rw [cell_of_row w l.b _ arr e fr h1]; exact h5 j v hv⟩
theorem or_cells {l : Lc} {e sz : Nat} {cs : List AV} (h : OR m l w (.row e sz cs)) (k s : Nat) : ∃ vs, VRs m ((cs.drop k).take s) vs ∧ RowAt w l.b (l.o + k) vs := by
  obtain ⟨arr, vs, fr, h1, h2, h3, h4, h6, h5⟩ := h
  refine ⟨(vs.drop k).take s, (h3.drop k).take s, fun j x hj => ?_⟩
  rw [cell_of_row w l.b _ arr e fr h1, Nat.add_assoc]
  refine h5 (k + j) x ?_
  rw [List.getElem?_take] at hj
  split at hj
  · rwa [List.getElem?_drop] at hj
  · cases hj
def eLoad (P : Program) (H : Nat → Option AO) (t : TypeId) (x : Option AV) : Option LR :=
  match x with
  | some (.ptr i k) => match H i with
    | some (.row _ _ cs) => match P.underlying t with
      | some d => match aggD d with
        | true => match P.info? t with
          | some inf => bif Nat.beq ((cs.drop k).take inf.size).length inf.size then some (.val (.agg ((cs.drop k).take inf.size))) else none
          | none => none
        | false => match cs[k]? with
          | some a => some (.val a)
          | none => none
      | none => none
    | _ => none
  | _ => none
theorem eLoad_ok {t : TypeId} {X : Operand} {r : LR} (hH : HK m H w) (hρ : RK m ρ τ) (h : eLoad P H t (ρ X) = some r) (ho : o.op = .load t X) : LOk P m w τ n o r := by
  unfold eLoad at h
  cases hx : ρ X with
  | none => simp [hx] at h
  | some a =>
    have hv := hρ X a hx
    cases a with
    | ptr i k =>
      simp only [hx] at h
      simp only [VR] at hv
      obtain ⟨l, hm, hv⟩ := hv
      cases hi : H i with
      | none => simp [hi] at h
      | some ob =>
        obtain ⟨l', hm', hor⟩ := hH i ob hi
        rw [hm] at hm'; cases hm'
        cases ob with
        | row e sz cs =>
          simp only [hi] at h
          cases hu : P.underlying t with
          | none => simp [hu] at h
          | some d =>
            simp only [hu] at h
            cases hd : aggD d with
            | true =>
              simp only [hd] at h
              cases hinf : P.info? t with
              | none => simp [hinf] at h
              | some inf =>
                simp only [hinf] at h
                cases hb : Nat.beq ((cs.drop k).take inf.size).length inf.size with
                | false => rw [hb] at h; simp only [cond_false] at h; cases h
                | true =>
                  simp only [hb, cond_true, Option.some.injEq] at h
                  subst h
                  obtain ⟨vs, h1, h2⟩ := or_cells hor k inf.size
                  refine ⟨.agg vs.toArray, by simp only [VR]; exact ⟨vs, rfl, h1⟩, ?_⟩
                  exact v_load ho hv hu hd (k := inf.size) (by simp [hinf]) h2 (by rw [h1.len]; exact Nat.eq_of_beq_eq_true hb)
            | false =>
              simp only [hd] at h
              cases hk : cs[k]? with
              | none => simp [hk] at h
              | some a =>
                simp only [hk, Option.some.injEq] at h
                subst h
                obtain ⟨v, h1, h2⟩ := or_cell hor hk
                exact ⟨v, h1, v_load1 ho hv hu hd h2⟩
        | map es => simp [hi] at h
        | iter s p => simp [hi] at h
    | _ => simp [hx] at h
def eAlloc (P : Program) (n : Nat) (t : TypeId) : Option LR :=
  match P.info? t with
  | some inf => match inf.zero with
    | some v => some (.new (.ptr n 0) (.row t 0 (v.cells.toList.map .lit)))
    | none => none
  | none => none
theorem row_new {m' : LM} {e sz c : Nat} {cs : List AV} {vs : List Value} (h : VRs m' cs vs) (hc : c * sz ≤ vs.length) : OR m' ⟨w.heap.size, 0, c⟩ (w.alloc (.cells vs.toArray e)) (.row e sz cs) :=
  ⟨vs.toArray, vs, (0, 0), heap_alloc_new w _, .inl rfl, h, by simpa using hc, fun _ => ⟨rfl, by simpa using h.len⟩, fun j v hj => by simpa using hj⟩
theorem eAlloc_ok {t : TypeId} {r : LR} (h : eAlloc P n t = some r) (ho : o.op = .alloc t) : LOk P m w τ n o r := by
  unfold eAlloc at h
  cases hi : P.info? t with
  | none => simp [hi] at h
  | some inf =>
    simp only [hi] at h
    cases hz : inf.zero with
    | none => simp [hz] at h
    | some v =>
      simp only [hz, Option.some.injEq] at h
      subst h
      refine ⟨.pointer (some ⟨w.heap.size, 0, none⟩), w.alloc (.cells v.cells t), 0, ?_, Grow.alloc _ _, fun m' hle hn => ⟨by simp only [VR]; exact ⟨_, hn, by simp⟩, ?_⟩⟩
      · unfold execOp; rw [ho]
        simp [Instr.alloc, zeroValue, typeInfo, hi, hz, newVar, newRow]
      · have := row_new (w := w) (m' := m') (e := t) (sz := 0) (c := 0) (VRs.lits v.cells.toList) (by simp)
        simpa using this
def eBox (n : Nat) (t : TypeId) (x : Option AV) : Option LR :=
  match x with
  | some a => some (.new (.ptr n 0) (.row t 0 a.cells))
  | none => none
theorem eBox_ok {t : TypeId} {X : Operand} {r : LR} (hρ : RK m ρ τ) (h : eBox n t (ρ X) = some r) (ho : o.op = .box t X) : LOk P m w τ n o r := by
  unfold eBox at h
  cases hx : ρ X with
  | none => simp [hx] at h
  | some a =>
    simp only [hx, Option.some.injEq] at h
    subst h
    refine ⟨.pointer (some ⟨w.heap.size, 0, none⟩), w.alloc (.cells (τ X).cells t), 0, ?_, Grow.alloc _ _, fun m' hle hn => ⟨by simp only [VR]; exact ⟨_, hn, by simp⟩, ?_⟩⟩
    · unfold execOp; rw [ho]; simp [run_box]
    · have := row_new (w := w) (m' := m') (e := t) (sz := 0) (c := 0) (VRs.mono hle (hρ X a hx).cells) (by simp)
      simpa using this
/-! ### parts put together -/
def putA : Nat → List AV → List AV → List AV
  | _, [], cs => cs
  | k, x :: c, cs => putA (k + 1) c (cs.set k x)
def putV : Nat → List Value → List Value → List Value
  | _, [], cs => cs
  | k, x :: c, cs => putV (k + 1) c (cs.set k x)
theorem put_rel : ∀ {c : List AV} {vc : List Value} {k : Nat} {cs : List AV} {vs : List Value}, VRs m c vc → VRs m cs vs → VRs m (putA k c cs) (putV k vc vs)
  | [], vc, k, cs, vs, h, h' => by simp only [VRs] at h; subst h; exact h'
  | x :: c, vc, k, cs, vs, h, h' => by
    simp only [VRs] at h
    obtain ⟨v, t, rfl, h1, h2⟩ := h
    show VRs m (putA (k + 1) c (cs.set k x)) (putV (k + 1) t (vs.set k v))
    exact put_rel h2 (h'.set h1)
theorem putA_len : ∀ {c : List AV} {k : Nat} {cs : List AV}, (putA k c cs).length = cs.length
  | [], _, _ => rfl
  | _ :: _, _, _ => by rw [putA, putA_len]; simp
theorem putV_len : ∀ {c : List Value} {k : Nat} {cs : List Value}, (putV k c cs).length = cs.length
  | [], k, cs => rfl
  | x :: c, k, cs => by simp [putV, putV_len]
theorem putV_get : ∀ {c : List Value} {k : Nat} {cs : List Value} {i : Nat}, k + c.length ≤ cs.length → (putV k c cs)[i]? = if k ≤ i ∧ i < k + c.length then c[i - k]? else cs[i]?
  | [], k, cs, i, h => by
    have : ¬ (k ≤ i ∧ i < k + ([] : List Value).length) := by simp only [List.length_nil]; omega
    rw [if_neg this]; rfl
  | x :: c, k, cs, i, h => by
    simp only [List.length_cons] at h ⊢
    simp only [putV]
    rw [putV_get (by simp; omega)]
    by_cases h1 : k + 1 ≤ i ∧ i < k + 1 + c.length
    · rw [if_pos h1, if_pos (by omega)]
      have : i - k = (i - (k + 1)) + 1 := by omega
      rw [this]; simp
    · rw [if_neg h1, List.getElem?_set]
      by_cases h2 : k = i
      · subst h2; rw [if_pos rfl, if_pos (by omega), if_pos (by omega)]; simp
      · rw [if_neg h2, if_neg (by omega)]
theorem fold_put : ∀ (c : List Value) (i off : Nat) (cs : Array Value), (c.zipIdx i).foldl (fun (cs : Array Value) (p : Value × Nat) => cs.setIfInBounds (off + p.2) p.1) cs = (putV (off + i) c cs.toList).toArray
  | [], i, off, cs => by simp [putV]
  | x :: c, i, off, cs => by
    simp only [List.zipIdx_cons, List.foldl_cons, putV]
    rw [fold_put c (i + 1) off]
    simp [Nat.add_assoc]
def fillA (place : Nat → Option (Nat × Nat)) (cs : List AV) : List (Nat × AV) → Option (List AV)
  | [] => some cs
  | (i, v) :: rest => match place i with
    | none => none
    | some (off, size) => bif Nat.beq v.cells.length size then (bif Nat.ble (off + size) cs.length then fillA place (putA off v.cells cs) rest else none) else none
def PRs (m : LM) : List (Nat × AV) → List (Nat × Value) → Prop
  | [], l => l = []
  | (i, a) :: r, l => ∃ v t, l = (i, v) :: t ∧ VR m a v ∧ PRs m r t
theorem fill_rel {place : Nat → Option (Nat × Nat)} : ∀ {ps : List (Nat × AV)} {qs : List (Nat × Value)} {cs r : List AV} {vs : List Value}, PRs m ps qs → VRs m cs vs → fillA place cs ps = some r →
    ∃ us, Instr.fill place vs.toArray qs = some us.toArray ∧ VRs m r us
  | [], qs, cs, r, vs, h, h', e => by
    simp only [PRs] at h; subst h
    simp only [fillA, Option.some.injEq] at e; subst e
    exact ⟨vs, rfl, h'⟩
  | (i, a) :: ps, qs, cs, r, vs, h, h', e => by
    obtain ⟨v, t, rfl, h1, h2⟩ := h
    simp only [fillA] at e
    cases hp : place i with
    | none => simp [hp] at e
    | some os =>
      obtain ⟨off, size⟩ := os
      simp only [hp] at e
      cases hb : Nat.beq a.cells.length size with
      | false => simp [hb] at e
      | true =>
        cases hb2 : Nat.ble (off + size) cs.length with
        | false => simp [hb, hb2] at e
        | true =>
          simp only [hb, hb2, cond_true] at e
          have hc := h1.cells
          obtain ⟨us, h3, h4⟩ := fill_rel h2 (put_rel (k := off) hc h') e
          refine ⟨us, ?_, h4⟩
          have hl : v.cells.size = size := by rw [← Nat.eq_of_beq_eq_true hb, ← hc.len]; simp
          have hl2 : off + size ≤ vs.length := by rw [h'.len]; exact Nat.le_of_ble_eq_true hb2
          have hf := fold_put v.cells.toList 0 off vs.toArray
          simp only [Nat.add_zero] at hf
          simp only [Instr.fill, hp]
          rw [if_neg (by simp [hl]; omega)]
          have e1 : v.cells.zipIdx.foldl (fun (cs : Array Value) (p : Value × Nat) => cs.setIfInBounds (off + p.2) p.1) vs.toArray = (putV off v.cells.toList vs).toArray := by
            rw [← Array.foldl_toList, Array.toList_zipIdx]; exact hf
          rw [← h3]
          congr 1
def opL (ρ : Operand → Option AV) : List (Nat × Operand) → Option (List (Nat × AV))
  | [] => some []
  | (i, x) :: r => match ρ x with
    | some a => match opL ρ r with | some l => some ((i, a) :: l) | none => none
    | none => none
theorem opL_rel (hρ : RK m ρ τ) : ∀ {l : List (Nat × Operand)} {r : List (Nat × AV)}, opL ρ l = some r → PRs m r (l.map fun p => (p.1, τ p.2))
  | [], r, h => by simp only [opL, Option.some.injEq] at h; subst h; rfl
  | (i, x) :: l, r, h => by
    simp only [opL] at h
    cases hx : ρ x with
    | none => simp [hx] at h
    | some a =>
      cases hl : opL ρ l with
      | none => simp [hx, hl] at h
      | some l' =>
        simp only [hx, hl, Option.some.injEq] at h
        subst h
        exact ⟨τ x, _, rfl, hρ x a hx, opL_rel hρ hl⟩
def opsL (ρ : Operand → Option AV) : List Operand → Option (List AV)
  | [] => some []
  | x :: r => match ρ x with
    | some a => match opsL ρ r with | some l => some (a :: l) | none => none
    | none => none
theorem opsL_rel (hρ : RK m ρ τ) : ∀ {l : List Operand} {r : List AV}, opsL ρ l = some r → VRs m r (l.map τ)
  | [], r, h => by simp only [opsL, Option.some.injEq] at h; subst h; simp [VRs]
  | x :: l, r, h => by
    simp only [opsL] at h
    cases hx : ρ x with
    | none => simp [hx] at h
    | some a =>
      cases hl : opsL ρ l with
      | none => simp [hx, hl] at h
      | some l' =>
        simp only [hx, hl, Option.some.injEq] at h
        subst h
        simp only [List.map_cons, VRs]
        exact ⟨τ x, _, rfl, hρ x a hx, opsL_rel hρ hl⟩
def places (P : Program) : List Field → Option (List (Nat × Nat))
  | [] => some []
  | f :: r => match P.info? f.type with
    | some inf => match places P r with | some l => some ((f.offset, inf.size) :: l) | none => none
    | none => none
theorem places_run : ∀ {l : List Field} {r : List (Nat × Nat)} (acc : Array (Nat × Nat)), places P l = some r →
    (l.foldlM (fun (bs : Array (Nat × Nat)) (f : Field) => do let b ← (do pure (f.offset, ← sizeOf f.type) : Sem (Nat × Nat)); pure (bs.push b)) acc).run P w = .ok (acc ++ r.toArray) w
  | [], r, acc, h => by simp only [places, Option.some.injEq] at h; subst h; simp
  | f :: l, r, acc, h => by
    simp only [places] at h
    cases hi : P.info? f.type with
    | none => simp [hi] at h
    | some inf =>
      cases hl : places P l with
      | none => simp [hi, hl] at h
      | some l' =>
        simp only [hi, hl, Option.some.injEq] at h
        subst h
        have := places_run (acc.push (f.offset, inf.size)) hl
        have h1 : (do pure (f.offset, ← sizeOf f.type) : Sem (Nat × Nat)).run P w = .ok (f.offset, inf.size) w := by simp [sizeOf, typeInfo, hi]
        rw [List.foldlM_cons, Sem.run_bind, Sem.run_bind, h1, Result.andThen_ok, Sem.run_pure, Result.andThen_ok, this]
        simp
def eBuild (P : Program) (ρ : Operand → Option AV) (t : TypeId) (parts : Array (Nat × Operand)) : Option LR :=
  match P.info? t with
  | some inf => match inf.zero with
    | some z => match opL ρ parts.toList with
      | some ps => match P.underlying t with
        | some (.struct fs) => match places P fs.toList with
          | some pl => match fillA (fun i => pl[i]?) (z.cells.toList.map .lit) ps with
            | some cs => some (.val (.agg cs))
            | none => none
          | none => none
        | some (.array _ e) => match P.info? e with
          | some ie => match fillA (fun i => some (i * ie.size, ie.size)) (z.cells.toList.map .lit) ps with
            | some cs => some (.val (.agg cs))
            | none => none
          | none => none
        | _ => none
      | none => none
    | none => none
  | none => none
theorem eBuild_ok {t : TypeId} {parts : Array (Nat × Operand)} {r : LR} (hρ : RK m ρ τ) (h : eBuild P ρ t parts = some r) (ho : o.op = .build t parts) : LOk P m w τ n o r := by
  unfold eBuild at h
  cases hi : P.info? t with
  | none => simp [hi] at h
  | some inf =>
    simp only [hi] at h
    cases hz : inf.zero with
    | none => simp [hz] at h
    | some z =>
      simp only [hz] at h
      cases hp : opL ρ parts.toList with
      | none => simp [hp] at h
      | some ps =>
        simp only [hp] at h
        have hrel := opL_rel hρ hp
        have eparts : (parts.map fun (i, x) => (i, τ x)).toList = parts.toList.map fun p => (p.1, τ p.2) := by simp
        cases hu : P.underlying t with
        | none => simp [hu] at h
        | some d =>
          cases d with
          | struct fs =>
            simp only [hu] at h
            cases hpl : places P fs.toList with
            | none => simp [hpl] at h
            | some pl =>
              simp only [hpl] at h
              cases hf : fillA (fun i => pl[i]?) (z.cells.toList.map .lit) ps with
              | none => simp [hf] at h
              | some cs =>
                simp only [hf, Option.some.injEq] at h
                subst h
                obtain ⟨us, h1, h2⟩ := fill_rel hrel (VRs.lits (m := m) z.cells.toList) hf
                refine ⟨.agg us.toArray, by simp only [VR]; exact ⟨us, rfl, h2⟩, ?_⟩
                have hpr := places_run (w := w) #[] hpl
                have hm : (fs.mapM (m := Sem) fun f => do pure (f.offset, ← sizeOf f.type)).run P w = .ok pl.toArray w := by
                  rw [Array.mapM_eq_foldlM, ← Array.foldlM_toList]
                  simpa using hpr
                unfold execOp; rw [ho]
                simp only [Instr.build, Sem.run_bind, zeroValue, typeInfo]
                simp [hi, hz, run_underlying hu]
                have hm2 : (fs.mapM (m := Sem) fun f => Functor.map (Prod.mk f.offset) (sizeOf f.type)).run P w = .ok pl.toArray w := by simpa using hm
                rw [hm2]
                simp at h1
                simp [h1]
          | array k e =>
            simp only [hu] at h
            cases hie : P.info? e with
            | none => simp [hie] at h
            | some ie =>
              simp only [hie] at h
              cases hf : fillA (fun i => some (i * ie.size, ie.size)) (z.cells.toList.map .lit) ps with
              | none => simp [hf] at h
              | some cs =>
                simp only [hf, Option.some.injEq] at h
                subst h
                obtain ⟨us, h1, h2⟩ := fill_rel hrel (VRs.lits (m := m) z.cells.toList) hf
                refine ⟨.agg us.toArray, by simp only [VR]; exact ⟨us, rfl, h2⟩, ?_⟩
                unfold execOp; rw [ho]
                simp only [Instr.build, Sem.run_bind, zeroValue, typeInfo]
                simp at h1
                simp [hi, hz, run_underlying hu, sizeOf, typeInfo, hie, h1]
          | _ => simp [hu] at h
def eBsl (P : Program) (ρ : Operand → Option AV) (n : Nat) (t : TypeId) (len : Nat) (parts : Array (Nat × Operand)) : Option LR :=
  match P.underlying t with
  | some (.slice e) => match P.info? e with
    | some inf => match inf.zero with
      | some z => match opL ρ parts.toList with
        | some ps => bif Nat.ble (len * inf.size) 16777216 && Nat.blt 0 (len * inf.size) then
            (match fillA (fun i => some (i * inf.size, inf.size)) ((List.range (len * inf.size)).map fun i => .lit (z.cells[i % z.cells.size]!)) ps with
            | some cs => bif Nat.ble (len * inf.size) cs.length then some (.new (.slc n 0 0 len) (.row e inf.size cs)) else none
            | none => none)
          else none
        | none => none
      | none => none
    | none => none
  | _ => none
theorem eBsl_ok {t : TypeId} {len : Nat} {parts : Array (Nat × Operand)} {r : LR} (hρ : RK m ρ τ) (h : eBsl P ρ n t len parts = some r) (ho : o.op = .buildSlice t len parts) : LOk P m w τ n o r := by
  unfold eBsl at h
  cases hu : P.underlying t with
  | none => simp [hu] at h
  | some d =>
    cases d with
    | slice e =>
      simp only [hu] at h
      cases hi : P.info? e with
      | none => simp [hi] at h
      | some inf =>
        simp only [hi] at h
        cases hz : inf.zero with
        | none => simp [hz] at h
        | some z =>
          simp only [hz] at h
          cases hp : opL ρ parts.toList with
          | none => simp [hp] at h
          | some ps =>
            simp only [hp] at h
            cases hb : Nat.ble (len * inf.size) 16777216 && Nat.blt 0 (len * inf.size) with
            | false => rw [hb] at h; simp only [cond_false] at h; cases h
            | true =>
              rw [hb] at h
              simp only [cond_true] at h
              simp only [Bool.and_eq_true] at hb
              have hb1 : len * inf.size ≤ 16777216 := Nat.le_of_ble_eq_true hb.1
              have hb2 : 0 < len * inf.size := by have := hb.2; rw [blt_iff] at this; simpa using this
              cases hf : fillA (fun i => some (i * inf.size, inf.size)) ((List.range (len * inf.size)).map fun i => AV.lit (z.cells[i % z.cells.size]!)) ps with
              | none => simp [hf] at h
              | some cs =>
                simp only [hf] at h
                cases hl : Nat.ble (len * inf.size) cs.length with
                | false => rw [hl] at h; simp only [cond_false] at h; cases h
                | true =>
                  rw [hl] at h
                  simp only [cond_true, Option.some.injEq] at h
                  subst h
                  have hrel := opL_rel hρ hp
                  have hlits := VRs.lits (m := m) ((List.range (len * inf.size)).map fun i => z.cells[i % z.cells.size]!)
                  rw [List.map_map] at hlits
                  obtain ⟨us, h1, h2⟩ := fill_rel hrel hlits hf
                  have hlen := h2.len
                  refine ⟨.slice (some ⟨w.heap.size, 0, none⟩) len len, w.alloc (.cells us.toArray e), len, ?_, Grow.alloc _ _, fun m' hle hn => ⟨by simp only [VR]; exact ⟨_, hn, by simp, by simp⟩, row_new (VRs.mono hle h2) (by rw [hlen]; exact Nat.le_of_ble_eq_true hl)⟩⟩
                  unfold execOp; rw [ho]
                  have e1 : ¬ (len = 0 ∨ inf.size = 0) := by
                    rintro (h | h) <;> simp [h] at hb2
                  have e2 : ¬ (16777216 < len * inf.size) := by omega
                  have e3 : ((List.range (len * inf.size)).map fun i => z.cells[i % z.cells.size]!).toArray = (Array.range (len * inf.size)).map (z.cells[· % z.cells.size]!) := by apply Array.ext'; simp
                  rw [e3] at h1
                  simp [Instr.buildSlice, run_underlying hu, sizeOf, typeInfo, hi, e1, e2, zeroValue, hz, h1, newRow]
                  intro h; omega
    | _ => simp [hu] at h
end
end Go.Ev
end
section
set_option linter.unusedVariables false
set_option linter.unusedSimpArgs false
namespace Go.Ev
open Go Go.RowKit Go.Dk
section
variable {P : Program} {m : LM} {w : World} {τ : Operand → Value} {ρ : Operand → Option AV} {H : Nat → Option AO} {o : Oper} {n : Nat}
def eFa (P : Program) (t : TypeId) (x : Option AV) (i : Nat) : Option LR :=
  match x with
  | some (.ptr id k) => match P.underlying t with
    | some (.struct fs) => match fs[i]? with
      | some f => match P.info? f.type with
        | some inf => bif Nat.blt 0 inf.size then some (.val (.ptr id (k + f.offset))) else none
        | none => none
      | none => none
    | _ => none
  | _ => none
theorem eFa_ok {t : TypeId} {X : Operand} {i : Nat} {r : LR} (hρ : RK m ρ τ) (h : eFa P t (ρ X) i = some r) (ho : o.op = .fieldAddr t X i) : LOk P m w τ n o r := by
  unfold eFa at h
  split at h
  · rename_i id k hx
    have hv := hρ X _ hx
    simp only [VR] at hv
    obtain ⟨l, hm, hv⟩ := hv
    split at h
    · rename_i fs hu
      split at h
      · rename_i f hf
        split at h
        · rename_i inf hi
          cases hb : Nat.blt 0 inf.size with
          | false => rw [hb] at h; simp only [cond_false] at h; cases h
          | true =>
            rw [hb] at h
            simp only [cond_true, Option.some.injEq] at h
            subst h
            have hfa : FA P t i f.offset := fa_of (s := inf.size) (tt := f.type) hu (by simp [hf]) (by simp [hi]) hb
            refine ⟨.pointer (some ⟨l.b, l.o + k + f.offset, none⟩), by simp only [VR]; exact ⟨l, hm, by simp [Nat.add_assoc]⟩, ?_⟩
            exact v_fa hfa ho hv
        · cases h
      · cases h
    · cases h
  · cases h
def eIa (P : Program) (t : TypeId) (x ix : Option AV) : Option LR :=
  match x, ix with
  | some (.slc id k off len), some (.lit (.int _ (.ofNat j))) => match P.underlying t with
    | some (.slice e) => match P.info? e with
      | some inf => bif Nat.blt j len then some (.val (.ptr id (off + j * inf.size))) else none
      | none => none
    | _ => none
  | _, _ => none
theorem eIa_ok {t : TypeId} {X Y : Operand} {r : LR} (hρ : RK m ρ τ) (h : eIa P t (ρ X) (ρ Y) = some r) (ho : o.op = .indexAddr t X Y) : LOk P m w τ n o r := by
  unfold eIa at h
  split at h
  · rename_i id k off len q j hx hy
    have hv := hρ X _ hx
    have hj := hρ Y _ hy
    simp only [VR] at hv hj
    obtain ⟨l, hm, hc, hv⟩ := hv
    split at h
    · rename_i e hu
      split at h
      · rename_i inf hi
        cases hb : Nat.blt j len with
        | false => rw [hb] at h; simp only [cond_false] at h; cases h
        | true =>
          rw [hb] at h
          simp only [cond_true, Option.some.injEq] at h
          subst h
          rw [blt_iff] at hb
          have hb' : j < len := by simpa using hb
          refine ⟨.pointer (some ⟨l.b, l.o + off + (Int.ofNat j).toNat * inf.size, none⟩), by simp only [VR]; exact ⟨l, hm, by simp [Nat.add_assoc]⟩, ?_⟩
          exact v_ia hu (by simp [hi]) ho hv hj (by simp) (by simp; omega)
      · cases h
    · cases h
  · cases h
def bnd (d : Nat) : Option (Option AV) → Option Nat
  | none => some d
  | some (some (.lit (.int _ (.ofNat j)))) => some j
  | _ => none
theorem bnd_eq {d j : Nat} {L : Option Operand} (hρ : RK m ρ τ) (h : bnd d (L.map ρ) = some j) : (L = none ∧ j = d) ∨ ∃ X q, L = some X ∧ τ X = .int q (j : Int) := by
  cases L with
  | none => simp only [Option.map_none, bnd, Option.some.injEq] at h; exact .inl ⟨rfl, h.symm⟩
  | some X =>
    simp only [Option.map_some] at h
    unfold bnd at h
    split at h
    · rename_i heq; cases heq
    · rename_i q j' heq
      simp only [Option.some.injEq] at heq h
      subst h
      have := hρ X _ heq
      simp only [VR] at this
      exact .inr ⟨X, q, rfl, this⟩
    · cases h
def eSlice (P : Program) (t : TypeId) (x : Option AV) (lo hi : Option (Option AV)) : Option LR :=
  match x with
  | some (.slc id k off len) => match P.underlying t with
    | some (.slice e) => match P.info? e with
      | some inf => match bnd 0 lo with
        | some l => match bnd len hi with
          | some h => bif Nat.ble l h && Nat.ble h len && (Nat.blt l len || Nat.beq l 0) then some (.val (.slc id (k + l) (off + l * inf.size) (h - l))) else none
          | none => none
        | none => none
      | none => none
    | _ => none
  | _ => none
theorem eSlice_ok {t : TypeId} {X : Operand} {lo hi : Option Operand} {r : LR} (hρ : RK m ρ τ) (h : eSlice P t (ρ X) (lo.map ρ) (hi.map ρ) = some r) (ho : o.op = .slice t X lo hi none) : LOk P m w τ n o r := by
  unfold eSlice at h
  split at h
  · rename_i id k off len hx
    have hv := hρ X _ hx
    simp only [VR] at hv
    obtain ⟨c, hm, hc, hv⟩ := hv
    split at h
    · rename_i e hu
      split at h
      · rename_i inf hinf
        split at h
        · rename_i l hl
          split at h
          · rename_i hh hhi
            cases hb : Nat.ble l hh && Nat.ble hh len && (Nat.blt l len || Nat.beq l 0) with
            | false => rw [hb] at h; simp only [cond_false] at h; cases h
            | true =>
              rw [hb] at h
              simp only [cond_true, Option.some.injEq] at h
              subst h
              simp only [Bool.and_eq_true, Bool.or_eq_true, blt_iff, decide_eq_true_eq, Nat.ble_eq, Nat.beq_eq] at hb
              obtain ⟨⟨h1, h2⟩, h3⟩ := hb
              have hadd : (if c.c - k = l then (some ⟨c.b, c.o + off, none⟩ : Option Addr) else (some ((⟨c.b, c.o + off, none⟩ : Addr).add (l * inf.size)))) = some ⟨c.b, c.o + (off + l * inf.size), none⟩ := by
                split
                · have : l = 0 := by omega
                  subst this; simp
                · simp [add_addr, Nat.add_assoc]
              refine ⟨.slice (some ⟨c.b, c.o + (off + l * inf.size), none⟩) (hh - l) (c.c - (k + l)), by simp only [VR]; exact ⟨c, hm, by omega, rfl⟩, ?_⟩
              unfold execOp; rw [ho]
              have h4 : hh ≤ c.c - k := by omega
              have h5 : c.c - k - l = c.c - (k + l) := by omega
              rcases bnd_eq hρ hl with ⟨rfl, rfl⟩ | ⟨L, q, rfl, hL⟩ <;> rcases bnd_eq hρ hhi with ⟨rfl, rfl⟩ | ⟨U, q', rfl, hU⟩
              · simp [Instr.sliceAt, Instr.slice, run_underlying hu, hv, Instr.sliceBounds, sizeOf, typeInfo, hinf]
                intro _; simp [Addr.add]
              · simp [Instr.sliceAt, Instr.slice, run_underlying hu, hv, Instr.sliceBounds, Instr.sliceBound, asIntOf, hU, h4, sizeOf, typeInfo, hinf]
                intro _; simp [Addr.add]
              · simp [Instr.sliceAt, Instr.slice, run_underlying hu, hv, Instr.sliceBounds, Instr.sliceBound, asIntOf, hL, h1, sizeOf, typeInfo, hinf, hadd, h5]
              · simp [Instr.sliceAt, Instr.slice, run_underlying hu, hv, Instr.sliceBounds, Instr.sliceBound, asIntOf, hU, hL, h1, h4, sizeOf, typeInfo, hinf, hadd, h5]
          · cases h
        · cases h
      · cases h
    · cases h
  · cases h
def eExtract (x : Option AV) (i : Nat) : Option LR :=
  match x with
  | some (.tup l) => match l[i]? with | some a => some (.val a) | none => none
  | _ => none
theorem eExtract_ok {X : Operand} {i : Nat} {r : LR} (hρ : RK m ρ τ) (h : eExtract (ρ X) i = some r) (ho : o.op = .extract X i) : LOk P m w τ n o r := by
  unfold eExtract at h
  split at h
  · rename_i l hx
    have hv := hρ X _ hx
    simp only [VR] at hv
    obtain ⟨vs, hv, hr⟩ := hv
    split at h
    · rename_i a ha
      simp only [Option.some.injEq] at h
      subst h
      obtain ⟨v, h1, h2⟩ := hr.get ha
      exact ⟨v, h2, v_extract ho hv (by simpa using h1)⟩
    · cases h
  · cases h
def eField (P : Program) (t : TypeId) (x : Option AV) (i : Nat) : Option LR :=
  match x with
  | some (.agg l) => match P.underlying t with
    | some (.struct fs) => match fs[i]? with
      | some f => match P.underlying f.type with
        | some d => match aggD d with
          | true => match P.info? f.type with
            | some inf => some (.val (.agg ((l.drop f.offset).take inf.size)))
            | none => none
          | false => match l[f.offset]? with | some a => some (.val a) | none => none
        | none => none
      | none => none
    | _ => none
  | _ => none
theorem eField_ok {t : TypeId} {X : Operand} {i : Nat} {r : LR} (hρ : RK m ρ τ) (h : eField P t (ρ X) i = some r) (ho : o.op = .field t X i) : LOk P m w τ n o r := by
  unfold eField at h
  split at h
  · rename_i l hx
    have hv := hρ X _ hx
    simp only [VR] at hv
    obtain ⟨vs, hv, hr⟩ := hv
    split at h
    · rename_i fs hu
      split at h
      · rename_i f hf
        split at h
        · rename_i d hd
          split at h
          · rename_i hag
            split at h
            · rename_i inf hinf
              simp only [Option.some.injEq] at h
              subst h
              refine ⟨.agg ((vs.drop f.offset).take inf.size).toArray, by simp only [VR]; exact ⟨_, rfl, (hr.drop _).take _⟩, ?_⟩
              unfold execOp; rw [ho]
              have e1 : vs.toArray.extract f.offset (f.offset + inf.size) = ((vs.drop f.offset).take inf.size).toArray := by
                apply Array.ext'; simp
              simp [Instr.field, run_underlying hu, hf, hv, asAgg, part, run_isAgg (w := w) hd, hag, sizeOf, typeInfo, hinf, e1]
            · cases h
          · rename_i hag
            split at h
            · rename_i a ha
              simp only [Option.some.injEq] at h
              subst h
              obtain ⟨v, h1, h2⟩ := hr.get ha
              refine ⟨v, h2, ?_⟩
              unfold execOp; rw [ho]
              simp [Instr.field, run_underlying hu, hf, hv, asAgg, part, run_isAgg (w := w) hd, hag, h1]
            · cases h
        · cases h
      · cases h
    · cases h
  · cases h
def eIface (P : Program) (t : TypeId) (x : Option AV) : Option LR :=
  match x with
  | some a => match P.underlying t with
    | some (.interface _) => none
    | some _ => match a with
      | .lit v => some (.val (.lit (.iface t v)))
      | a => some (.val (.ifc t a))
    | none => none
  | none => none
theorem eIface_ok {t : TypeId} {X : Operand} {r : LR} (hρ : RK m ρ τ) (h : eIface P t (ρ X) = some r) (ho : o.op = .makeInterface t X) : LOk P m w τ n o r := by
  unfold eIface at h
  split at h
  · rename_i a hx
    have hv := hρ X _ hx
    split at h
    · cases h
    · rename_i d hni hu
      have hrun : (execOp τ o).run P w = .ok (.value (.iface t (τ X))) w := by
        unfold execOp; rw [ho]
        simp only [Instr.makeInterface, Sem.run_bind, run_underlying hu, Result.andThen_ok]
        cases d <;> first | rfl | (rename_i ms; exact absurd rfl (hni ms))
      split at h
      · simp only [VR] at hv
        simp only [Option.some.injEq] at h
        subst h
        exact ⟨_, VR.lit _, by rw [hrun, hv]⟩
      · simp only [Option.some.injEq] at h
        subst h
        exact ⟨_, by simp only [VR]; exact ⟨_, rfl, hv⟩, hrun⟩
    · cases h
  · cases h
def eClo (ρ : Operand → Option AV) (f : Fn) (first cap : Array Operand) : Option LR :=
  match f, first.toList with
  | .func k, [] => match opsL ρ cap.toList with | some l => some (.val (.clo k l)) | none => none
  | _, _ => none
theorem eClo_ok {f : Fn} {first cap : Array Operand} {r : LR} (hρ : RK m ρ τ) (h : eClo ρ f first cap = some r) (ho : o.op = .makeFunc f first cap) : LOk P m w τ n o r := by
  unfold eClo at h
  split at h
  · rename_i k hf
    split at h
    · rename_i l hl
      simp only [Option.some.injEq] at h
      subst h
      have hfirst : first = #[] := by apply Array.ext'; simpa using hf
      refine ⟨.func (.func k) #[] (cap.toList.map τ).toArray, by simp only [VR]; exact ⟨_, rfl, opsL_rel hρ hl⟩, ?_⟩
      unfold execOp; rw [ho]
      have e1 : (cap.toList.map τ).toArray = cap.map τ := by apply Array.ext'; simp
      simp [Instr.makeFunc, hfirst, e1]
    · cases h
  · cases h
def eMap (n : Nat) (r : Option Operand) : Option LR :=
  match r with
  | none => some (.new (.ref n) (.map []))
  | some _ => none
theorem eMap_ok {t : TypeId} {x : Option Operand} {r : LR} (h : eMap n x = some r) (ho : o.op = .makeMap t x) : LOk P m w τ n o r := by
  cases x with
  | some _ => simp [eMap] at h
  | none =>
    simp only [eMap, Option.some.injEq] at h
    subst h
    refine ⟨.map (some w.heap.size), w.alloc (.map #[] 0), 0, ?_, Grow.alloc _ _, fun m' hle hn => ⟨by simp only [VR]; exact ⟨_, hn, rfl⟩, ⟨[], by simpa using heap_alloc_new w (.map #[] 0), rfl⟩⟩⟩
    unfold execOp; rw [ho]
    simp [Instr.makeMap]
def eLen (P : Program) (t : Option TypeId) (x : Option AV) : Option LR :=
  match x, t with
  | some (.slc _ _ _ len), some t => match P.underlying t with
    | some (.slice _) => some (.val (.lit (.int .i64 (.ofNat len))))
    | _ => none
  | _, _ => none
theorem eLen_ok {t : TypeId} {X : Operand} {r : LR} (hρ : RK m ρ τ) (h : eLen P (some t) (ρ X) = some r) (ho : o.op = .call { callee := .builtin .len, args := #[X], argTypes := #[t] }) : LOk P m w τ n o r := by
  unfold eLen at h
  split at h
  · rename_i id k off len t' hx ht
    cases ht
    have hv := hρ X _ hx
    simp only [VR] at hv
    obtain ⟨c, hm, hc, hv⟩ := hv
    split at h
    · rename_i e hu
      simp only [Option.some.injEq] at h
      subst h
      exact ⟨_, VR.lit _, v_lenSlice ho hv hu⟩
    · cases h
  · cases h
def unNil : TypeDesc → Value → Value → Bool
  | .pointer _, .pointer (some _), .pointer none => true
  | .slice _, .slice (some _) _ _, .slice none _ _ => true
  | .interface _, .iface _ _, .nilIface => true
  | .map _ _, .map (some _), .map none => true
  | .func _ _ _, .func _ _ _, .nilFunc => true
  | _, _, _ => false
theorem run_unNil {t : TypeId} {d : TypeDesc} {x y : Value} (hu : P.underlying t = some d) (h : unNil d x y = true) : (Op.equal t x y).run P w = .ok false w := by
  show (Op.equalIn (9999 + 1) t x y).run P w = _
  rw [Op.equalIn, Sem.run_bind, run_underlying hu, Result.andThen_ok]
  unfold unNil at h
  split at h <;> first | rfl | cases h
theorem v_unEq {t t' : TypeId} {X Y : Operand} {d : TypeDesc} {x y : Value} (hu : P.underlying t = some d) (h : unNil d x y = true) (hx : τ X = x) (hy : τ Y = y) (ho : o.op = .binOp .eql t X Y t') : (execOp τ o).run P w = .ok (.value (.bool false)) w := by
  unfold execOp; rw [ho]
  have := run_unNil (P := P) (w := w) hu h
  unfold unNil at h
  split at h <;> first | (cases h; done) | simp [eqGuard, binOp, hx, hy, this]
theorem v_unNe {t t' : TypeId} {X Y : Operand} {d : TypeDesc} {x y : Value} (hu : P.underlying t = some d) (h : unNil d x y = true) (hx : τ X = x) (hy : τ Y = y) (ho : o.op = .binOp .neq t X Y t') : (execOp τ o).run P w = .ok (.value (.bool true)) w := by
  unfold execOp; rw [ho]
  have := run_unNil (P := P) (w := w) hu h
  unfold unNil at h
  split at h <;> first | (cases h; done) | simp [eqGuard, binOp, hx, hy, this]
def eNil (P : Program) (op : BinOp) (t : TypeId) (x y : Option AV) : Option LR :=
  match op with
  | .eql => match x, y, P.underlying t with
    | some (.ptr _ _), some (.lit (.pointer none)), some (.pointer _) => some (.val (.lit (.bool false)))
    | some (.slc _ _ _ _), some (.lit (.slice none _ _)), some (.slice _) => some (.val (.lit (.bool false)))
    | some (.ifc _ _), some (.lit .nilIface), some (.interface _) => some (.val (.lit (.bool false)))
    | some (.ref _), some (.lit (.map none)), some (.map _ _) => some (.val (.lit (.bool false)))
    | some (.clo _ _), some (.lit .nilFunc), some (.func _ _ _) => some (.val (.lit (.bool false)))
    | _, _, _ => none
  | .neq => match x, y, P.underlying t with
    | some (.ptr _ _), some (.lit (.pointer none)), some (.pointer _) => some (.val (.lit (.bool true)))
    | some (.slc _ _ _ _), some (.lit (.slice none _ _)), some (.slice _) => some (.val (.lit (.bool true)))
    | some (.ifc _ _), some (.lit .nilIface), some (.interface _) => some (.val (.lit (.bool true)))
    | some (.ref _), some (.lit (.map none)), some (.map _ _) => some (.val (.lit (.bool true)))
    | some (.clo _ _), some (.lit .nilFunc), some (.func _ _ _) => some (.val (.lit (.bool true)))
    | _, _, _ => none
  | _ => none
theorem eNil_ok {op : BinOp} {t t' : TypeId} {X Y : Operand} {r : LR} (hρ : RK m ρ τ) (h : eNil P op t (ρ X) (ρ Y) = some r) (ho : o.op = .binOp op t X Y t') : LOk P m w τ n o r := by
  unfold eNil at h
  split at h
  · split at h <;> first
      | (cases h; done)
      | (rename_i hx hy hu
         have hv := hρ X _ hx
         have hv2 := hρ Y _ hy
         simp only [VR] at hv hv2
         simp only [Option.some.injEq] at h
         subst h
         first
           | (obtain ⟨c, hm, hv⟩ := hv; exact ⟨_, VR.lit _, v_unEq hu (by rfl) hv hv2 ho⟩)
           | (obtain ⟨c, hm, hc, hv⟩ := hv; exact ⟨_, VR.lit _, v_unEq hu (by rfl) hv hv2 ho⟩)
           | (obtain ⟨c, hv, hc⟩ := hv; exact ⟨_, VR.lit _, v_unEq hu (by rfl) hv hv2 ho⟩))
  · split at h <;> first
      | (cases h; done)
      | (rename_i hx hy hu
         have hv := hρ X _ hx
         have hv2 := hρ Y _ hy
         simp only [VR] at hv hv2
         simp only [Option.some.injEq] at h
         subst h
         first
           | (obtain ⟨c, hm, hv⟩ := hv; exact ⟨_, VR.lit _, v_unNe hu (by rfl) hv hv2 ho⟩)
           | (obtain ⟨c, hm, hc, hv⟩ := hv; exact ⟨_, VR.lit _, v_unNe hu (by rfl) hv hv2 ho⟩)
           | (obtain ⟨c, hv, hc⟩ := hv; exact ⟨_, VR.lit _, v_unNe hu (by rfl) hv hv2 ho⟩))
  · cases h
end
end Go.Ev
end
section
set_option linter.unusedVariables false
set_option linter.unusedSimpArgs false
namespace Go.Ev
open Go Go.RowKit Go.Dk
section
variable {P : Program} {m : LM} {w : World} {τ : Operand → Value} {ρ : Operand → Option AV} {H : Nat → Option AO} {o : Oper} {n : Nat}
def eIaA (P : Program) (t : TypeId) (x ix : Option AV) : Option LR :=
  match x, ix with
  | some (.ptr id k), some (.lit (.int _ (.ofNat j))) => match P.underlying t with
    | some (.array len e) => match P.info? e with
      | some inf => bif Nat.blt j len then some (.val (.ptr id (k + j * inf.size))) else none
      | none => none
    | _ => none
  | _, _ => none
theorem v_iaA {x ix : Operand} {t e : TypeId} {s b k len : Nat} {q : Int} {kd : IntKind} (hu : P.underlying t = some (.array len e)) (hs : (P.info? e).map (·.size) = some s) (ho : o.op = .indexAddr t x ix)
    (hx : τ x = .pointer (some ⟨b, k, none⟩)) (hi : τ ix = .int kd q) (h0 : 0 ≤ q) (h1 : q < len) :
    (execOp τ o).run P w = .ok (.value (.pointer (some ⟨b, k + q.toNat * s, none⟩))) w := by
  unfold execOp
  rw [ho]
  simp [hx, hi, Instr.indexAt, Instr.sureAddr, run_underlying hu, asIntOf, h0, h1, run_size (w := w) hs, add_addr]
theorem eIaA_ok {t : TypeId} {X Y : Operand} {r : LR} (hρ : RK m ρ τ) (h : eIaA P t (ρ X) (ρ Y) = some r) (ho : o.op = .indexAddr t X Y) : LOk P m w τ n o r := by
  unfold eIaA at h
  split at h
  · rename_i id k q j hx hy
    have hv := hρ X _ hx
    have hj := hρ Y _ hy
    simp only [VR] at hv hj
    obtain ⟨l, hm, hv⟩ := hv
    split at h
    · rename_i len e hu
      split at h
      · rename_i inf hi
        cases hb : Nat.blt j len with
        | false => rw [hb] at h; simp only [cond_false] at h; cases h
        | true =>
          rw [hb] at h
          simp only [cond_true, Option.some.injEq] at h
          subst h
          rw [blt_iff] at hb
          have hb' : j < len := by simpa using hb
          refine ⟨.pointer (some ⟨l.b, l.o + k + (Int.ofNat j).toNat * inf.size, none⟩), by simp only [VR]; exact ⟨l, hm, by simp [Nat.add_assoc]⟩, ?_⟩
          exact v_iaA hu (by simp [hi]) ho hv hj (by simp) (by simp; omega)
      · cases h
    · cases h
  · cases h
def eSame (P : Program) (op : BinOp) (t : TypeId) (x y : Option AV) : Option LR :=
  match op with
  | .neq => match x, y, P.underlying t with
    | some (.ptr i k), some (.ptr j l), some (.pointer te) => match P.info? te with
      | some _ => bif Nat.beq i j && Nat.beq k l then some (.val (.lit (.bool false))) else none
      | none => none
    | _, _, _ => none
  | _ => none
theorem eSame_ok {op : BinOp} {t t' : TypeId} {X Y : Operand} {r : LR} (hρ : RK m ρ τ) (h : eSame P op t (ρ X) (ρ Y) = some r) (ho : o.op = .binOp op t X Y t') : LOk P m w τ n o r := by
  unfold eSame at h
  split at h
  · split at h
    · rename_i i k j l te hx hy hu
      have hv := hρ X _ hx
      have hv2 := hρ Y _ hy
      simp only [VR] at hv hv2
      obtain ⟨c, hm, hv⟩ := hv
      obtain ⟨c2, hm2, hv2⟩ := hv2
      split at h
      · rename_i inf hi
        cases hb : Nat.beq i j && Nat.beq k l with
        | false => rw [hb] at h; simp only [cond_false] at h; cases h
        | true =>
          rw [hb] at h
          simp only [cond_true, Option.some.injEq] at h
          subst h
          simp only [Bool.and_eq_true, Nat.beq_eq] at hb
          obtain ⟨rfl, rfl⟩ := hb
          rw [hm] at hm2; cases hm2
          refine ⟨_, VR.lit _, ?_⟩
          unfold execOp; rw [ho]
          have := Lib.run_neq_ptr_same (P := P) w ⟨c.b, c.o + k, none⟩ hu hi
          simp [eqGuard, hv, hv2, this]
      · cases h
    · cases h
  · cases h
theorem shape_of {b : Nat} {arr : Array Value} {e : TypeId} {fr : Nat × Nat} (h : w.heap[b]? = some (.cells arr e fr)) : w.shape? b = some (e, arr.size) := by
  simp [World.shape?, h]
def eUns (P : Program) (H : Nat → Option AO) (s t : TypeId) (x : Option AV) : Option LR :=
  match x with
  | some (.ptr i k) => match H i with
    | some (.row e sz cs) => match P.underlying s, P.underlying t with
      | some (.pointer a), some .unsafePointer => match P.info? a with
        | some j => bif (bif Nat.beq j.size 0 then false else Nat.blt k cs.length) then some (.val (.ptr i k)) else none
        | none => none
      | some .unsafePointer, some (.pointer u) => match P.info? u with
        | some j => bif Nat.beq sz 0 && liesAt P P.depth e (cs.length / P.cellsOf e) k u 1 then some (.val (.ptr i k)) else none
        | none => none
      | _, _ => none
    | _ => none
  | _ => none
theorem eUns_ok {s t : TypeId} {X : Operand} {r : LR} (hH : HK m H w) (hρ : RK m ρ τ) (h : eUns P H s t (ρ X) = some r) (ho : o.op = .convert s t X) : LOk P m w τ n o r := by
  unfold eUns at h
  split at h
  · rename_i i k hx
    have hv := hρ X _ hx
    simp only [VR] at hv
    obtain ⟨c, hm, hv⟩ := hv
    split at h
    · rename_i e sz cs hi
      obtain ⟨l, hl, hor⟩ := hH _ _ hi
      rw [hm] at hl; cases hl
      obtain ⟨arr, vs, fr, h1, h2, h3, h4, h6, h5⟩ := hor
      have hlen := h3.len
      split at h
      · rename_i a hs ht
        split at h
        · rename_i j hj
          cases hz : Nat.beq j.size 0 with
          | true => rw [hz] at h; simp only [cond_true, cond_false] at h; cases h
          | false =>
            rw [hz] at h
            simp only [cond_false] at h
            cases hb : Nat.blt k cs.length with
            | false => rw [hb] at h; simp only [cond_false] at h; cases h
            | true =>
              rw [hb] at h
              simp only [cond_true, Option.some.injEq] at h
              subst h
              rw [blt_iff] at hb
              have hb' : k < cs.length := by simpa using hb
              have hin : c.o + k < arr.size := (Array.getElem?_eq_some_iff.1 (h5 k _ (List.getElem?_eq_getElem (by omega)))).1
              refine ⟨.pointer (some ⟨c.b, c.o + k, none⟩), by simp only [VR]; exact ⟨c, hm, rfl⟩, ?_⟩
              have hrun := Lib.run_to_unsafe (P := P) w (src := s) (dst := t) ⟨c.b, c.o + k, none⟩ hs ht hj (Nat.ne_of_beq_eq_false hz) (shape_of h1) hin
              unfold execOp; rw [ho]; simp [hv, hrun]
        · cases h
      · rename_i u hs ht
        split at h
        · rename_i j hj
          cases hb : Nat.beq sz 0 && liesAt P P.depth e (cs.length / P.cellsOf e) k u 1 with
          | false => rw [hb] at h; simp only [cond_false] at h; cases h
          | true =>
            rw [hb] at h
            simp only [cond_true, Option.some.injEq] at h
            subst h
            simp only [Bool.and_eq_true, Nat.beq_eq] at hb
            obtain ⟨hb1, hb2⟩ := hb
            obtain ⟨q1, q2⟩ := h6 hb1
            refine ⟨.pointer (some ⟨c.b, c.o + k, none⟩), by simp only [VR]; exact ⟨c, hm, rfl⟩, ?_⟩
            have hrun := Lib.run_from_unsafe (P := P) w (src := s) (dst := t) ⟨c.b, c.o + k, none⟩ hs ht hj (shape_of h1) (by simp only [q1, q2, Nat.zero_add]; exact hb2)
            unfold execOp; rw [ho]; simp [hv, hrun]
        · cases h
      · cases h
    · cases h
  · cases h
def eSd (ρ : Operand → Option AV) (c : Call) : Option LR :=
  match c.callee with
  | .builtin .unsafeSliceData => match c.args.toList, c.argTypes.toList with
    | [x], [t] => match ρ x with
      | some (.slc i k off len) => bif Nat.beq len 0 then none else some (.val (.ptr i off))
      | _ => none
    | _, _ => none
  | _ => none
theorem eSd_ok {c : Call} {r : LR} (hρ : RK m ρ τ) (h : eSd ρ c = some r) (ho : o.op = .call c) : LOk P m w τ n o r := by
  unfold eSd at h
  split at h
  · rename_i hc
    split at h
    · rename_i x t hx ht
      split at h
      · rename_i i k off len hs
        have hv := hρ x _ hs
        simp only [VR] at hv
        obtain ⟨l, hm, hcl, hv⟩ := hv
        cases hb : Nat.beq len 0 with
        | true => rw [hb] at h; simp only [cond_true] at h; cases h
        | false =>
          rw [hb] at h
          simp only [cond_false, Option.some.injEq] at h
          subst h
          have hl0 := Nat.ne_of_beq_eq_false hb
          refine ⟨.pointer (some ⟨l.b, l.o + off, none⟩), by simp only [VR]; exact ⟨l, hm, rfl⟩, ?_⟩
          obtain ⟨ce, az, ats⟩ := c
          simp only at hc hx ht
          subst hc
          have e1 : az = #[x] := by apply Array.ext'; simpa using hx
          have e2 : ats = #[t] := by apply Array.ext'; simpa using ht
          subst e1 e2
          have hrun := Lib.run_unsafeSliceData_row (P := P) w #[t] o.type ⟨l.b, l.o + off, none⟩ len (l.c - k) (by omega)
          unfold execOp; rw [ho]
          simp [resolve, invoke, builtin, hv, hrun]
      · cases h
    · cases h
  · cases h
def eBsl0 (P : Program) (n : Nat) (t : TypeId) (len : Nat) (parts : Array (Nat × Operand)) : Option LR :=
  match P.underlying t with
  | some (.slice e) => match P.info? e with
    | some inf => match len, parts.toList with
      | 0, [] => bif Nat.beq inf.size 0 then none else some (.new (.slc n 0 0 0) (.row e inf.size []))
      | _, _ => none
    | none => none
  | _ => none
theorem eBsl0_ok {t : TypeId} {len : Nat} {parts : Array (Nat × Operand)} {r : LR} (h : eBsl0 P n t len parts = some r) (ho : o.op = .buildSlice t len parts) : LOk P m w τ n o r := by
  unfold eBsl0 at h
  split at h
  · rename_i e hu
    split at h
    · rename_i inf hi
      split at h
      · rename_i hp
        cases hb : Nat.beq inf.size 0 with
        | true => rw [hb] at h; simp only [cond_true] at h; cases h
        | false =>
          rw [hb] at h
          simp only [cond_false, Option.some.injEq] at h
          subst h
          have e1 : parts = #[] := by apply Array.ext'; simpa using hp
          subst e1
          refine ⟨.slice (some ⟨w.heap.size, 0, none⟩) 0 0, w.alloc (.cells #[] e), 0, ?_, Grow.alloc _ _, fun m' hle hn => ⟨by simp only [VR]; exact ⟨_, hn, by simp, by simp⟩, ?_⟩⟩
          · unfold execOp; rw [ho]
            simp [Instr.buildSlice, run_underlying hu, sizeOf, typeInfo, hi, Instr.fill, newRow]
            exact congrArg (fun x => w.alloc (Obj.cells x e)) (by apply Array.ext'; rw [Array.toList_map, Array.toList_range]; rfl)
          · have := row_new (w := w) (m' := m') (e := e) (sz := inf.size) (c := 0) (cs := []) (vs := []) (by simp [VRs]) (by simp)
            simpa using this
      · cases h
    · cases h
  · cases h
end
end Go.Ev
end
section
set_option linter.unusedVariables false
set_option linter.unusedSimpArgs false
namespace Go.Ev
open Go Go.RowKit Go.Dk
section
variable {P : Program} {m : LM} {w : World} {τ : Operand → Value} {ρ : Operand → Option AV} {H : Nat → Option AO} {o : Oper} {n : Nat}
def eNilCk (x : Option AV) : Option LR :=
  match x with
  | some (.ptr i k) => some (.val (.ptr i k))
  | some (.ifc t v) => some (.val (.ifc t v))
  | some (.clo f l) => some (.val (.clo f l))
  | _ => none
theorem eNilCk_ok {X : Operand} {r : LR} (hρ : RK m ρ τ) (h : eNilCk (ρ X) = some r) (ho : o.op = .nilCheck X) : LOk P m w τ n o r := by
  unfold eNilCk at h
  split at h
  · rename_i hx
    have hv := hρ X _ hx
    have hv0 := hv
    simp only [VR] at hv
    obtain ⟨c, hm, hv⟩ := hv
    simp only [Option.some.injEq] at h; subst h
    refine ⟨_, hv0, ?_⟩
    unfold execOp; rw [ho]; simp [hv]
  · rename_i hx
    have hv := hρ X _ hx
    have hv0 := hv
    simp only [VR] at hv
    obtain ⟨c, hv, hm⟩ := hv
    simp only [Option.some.injEq] at h; subst h
    refine ⟨_, hv0, ?_⟩
    unfold execOp; rw [ho]; simp [hv]
  · rename_i hx
    have hv := hρ X _ hx
    have hv0 := hv
    simp only [VR] at hv
    obtain ⟨c, hv, hm⟩ := hv
    simp only [Option.some.injEq] at h; subst h
    refine ⟨_, hv0, ?_⟩
    unfold execOp; rw [ho]; simp [hv]
  · cases h
/-! ### bytes az a string -/
def byteL : List AV → Option (List Int)
  | [] => some []
  | .lit (.int .u8 k) :: l => match byteL l with | some r => some (k :: r) | none => none
  | _ => none
theorem byteL_rel : ∀ {l : List AV} {vs : List Value} {ns : List Int}, VRs m l vs → byteL l = some ns → vs = ns.map (.int .u8)
  | [], vs, ns, h, e => by simp only [VRs] at h; simp only [byteL, Option.some.injEq] at e; subst e; simpa using h
  | a :: l, vs, ns, h, e => by
    simp only [VRs] at h
    obtain ⟨v, t, rfl, h1, h2⟩ := h
    unfold byteL at e
    split at e
    · simp_all
    · rename_i k l' heq
      injection heq with ha hl
      subst ha
      subst hl
      split at e
      · rename_i r hr
        simp only [Option.some.injEq] at e
        subst e
        simp only [VR] at h1
        rw [byteL_rel h2 hr, h1]; rfl
      · cases e
    · cases e
def bytesOf (ns : List Int) : ByteArray := ⟨(ns.map fun k => UInt8.ofNat k.toNat).toArray⟩
theorem foldl_push : ∀ (ns : List Int) (b : ByteArray), ns.foldl (fun r k => r.push (UInt8.ofNat k.toNat)) b = ⟨b.data ++ (ns.map fun k => UInt8.ofNat k.toNat).toArray⟩
  | [], b => by cases b; simp
  | k :: ns, b => by
    rw [List.foldl_cons, foldl_push ns]
    cases b
    simp [ByteArray.push]
theorem strOf_eq (ns : List Int) : strOf ns = bytesOf ns := by
  unfold strOf bytesOf
  rw [foldl_push]
  simp [ByteArray.empty, ByteArray.emptyWithCapacity]
  rfl
def eB2s (P : Program) (H : Nat → Option AO) (s t : TypeId) (x : Option AV) : Option LR :=
  match x with
  | some (.slc i k off len) => match P.underlying s, P.underlying t with
    | some (.slice e), some .string => match P.underlying e with
      | some (.int .u8) => match H i with
        | some (.row _ _ cs) => match byteL ((cs.drop off).take len) with
          | some ns => bif Nat.beq ns.length len then some (.val (.lit (.string (bytesOf ns)))) else none
          | none => none
        | _ => none
      | _ => none
    | _, _ => none
  | _ => none
theorem eB2s_ok {s t : TypeId} {X : Operand} {r : LR} (hH : HK m H w) (hρ : RK m ρ τ) (h : eB2s P H s t (ρ X) = some r) (ho : o.op = .convert s t X) : LOk P m w τ n o r := by
  unfold eB2s at h
  split at h
  · rename_i i k off len hx
    have hv := hρ X _ hx
    simp only [VR] at hv
    obtain ⟨c, hm, hc, hv⟩ := hv
    split at h
    · rename_i e hs ht
      split at h
      · rename_i he
        split at h
        · rename_i e' sz cs hi
          obtain ⟨l, hl, hor⟩ := hH _ _ hi
          rw [hm] at hl; cases hl
          split at h
          · rename_i ns hns
            cases hb : Nat.beq ns.length len with
            | false => rw [hb] at h; simp only [cond_false] at h; cases h
            | true =>
              rw [hb] at h
              simp only [cond_true, Option.some.injEq] at h
              subst h
              obtain ⟨vs, h1, h2⟩ := or_cells hor off len
              have hvs := byteL_rel h1 hns
              subst hvs
              exact ⟨_, VR.lit _, by rw [← strOf_eq]; exact v_b2s ho hs he ht h2 (Nat.eq_of_beq_eq_true hb) hv⟩
          · cases h
        · cases h
      · cases h
    · cases h
  · cases h
def eRange (P : Program) (n : Nat) (t : TypeId) (x : Option AV) : Option LR :=
  match x, P.underlying t with
  | some (.lit (.string s)), some .string => some (.new (.ptr n 0) (.iter s 0))
  | _, _ => none
theorem eRange_ok {t : TypeId} {X : Operand} {r : LR} (hρ : RK m ρ τ) (h : eRange P n t (ρ X) = some r) (ho : o.op = .range t X) : LOk P m w τ n o r := by
  unfold eRange at h
  split at h
  · rename_i s hx hu
    have hv := hρ X _ hx
    simp only [VR] at hv
    simp only [Option.some.injEq] at h; subst h
    refine ⟨.pointer (some ⟨w.heap.size, 0, none⟩), w.alloc (.stringIter s 0), 0, ?_, Grow.alloc _ _, fun m' hle hn => ⟨by simp only [VR]; exact ⟨_, hn, by simp⟩, rfl, heap_alloc_new w _⟩⟩
    unfold execOp; rw [ho]
    simp [Instr.range, run_underlying hu, hv]
  · cases h
def notI : TypeDesc → Bool
  | .interface _ => false
  | _ => true
def eAssert (P : Program) (x : Option AV) (t : TypeId) (ok : Bool) : Option LR :=
  match x with
  | some (.ifc d a) => match P.underlying t with
    | some u => match notI u with
      | true => match Nat.beq d t, ok with
        | true, true => some (.val (.tup [a, .lit (.bool true)]))
        | true, false => some (.val a)
        | false, true => match P.info? t with
          | some inf => match inf.zero with
            | some z => some (.val (.tup [.lit z, .lit (.bool false)]))
            | none => none
          | none => none
        | false, false => none
      | false => none
    | none => none
  | _ => none
theorem eAssert_ok {X : Operand} {xt t : TypeId} {ok : Bool} {r : LR} (hρ : RK m ρ τ) (h : eAssert P (ρ X) t ok = some r) (ho : o.op = .typeAssert X xt t ok) : LOk P m w τ n o r := by
  unfold eAssert at h
  split at h
  · rename_i d a hx
    have hv := hρ X _ hx
    simp only [VR] at hv
    obtain ⟨y, hv, hy⟩ := hv
    split at h
    · rename_i u hu
      split at h
      · rename_i hni
        split at h
        · rename_i hd
          have hd := Nat.eq_of_beq_eq_true hd
          simp only [Option.some.injEq] at h; subst h
          refine ⟨.tuple [y, .bool true].toArray, by simp only [VR, VRs]; exact ⟨_, rfl, _, _, rfl, hy, _, _, rfl, rfl, rfl⟩, ?_⟩
          unfold execOp; rw [ho]
          simp only [hv, Instr.typeAssert, Sem.run_bind, run_underlying hu, Result.andThen_ok]
          cases u <;> simp_all [notI]
        · rename_i hd
          have hd := Nat.eq_of_beq_eq_true hd
          simp only [Option.some.injEq] at h; subst h
          refine ⟨y, hy, ?_⟩
          unfold execOp; rw [ho]
          simp only [hv, Instr.typeAssert, Sem.run_bind, run_underlying hu, Result.andThen_ok]
          cases u <;> simp_all [notI]
        · rename_i hd
          have hd := Nat.ne_of_beq_eq_false hd
          split at h
          · rename_i inf hinf
            split at h
            · rename_i z hz
              simp only [Option.some.injEq] at h; subst h
              refine ⟨.tuple [z, .bool false].toArray, by simp only [VR, VRs]; exact ⟨_, rfl, _, _, rfl, rfl, _, _, rfl, rfl, rfl⟩, ?_⟩
              unfold execOp; rw [ho]
              simp only [hv, Instr.typeAssert, Sem.run_bind, run_underlying hu, Result.andThen_ok]
              cases u <;> simp_all [notI, zeroValue, typeInfo]
            · cases h
          · cases h
        · cases h
      · cases h
    · cases h
  · cases h
/-! ### maps with plain keys -/
def plainK : TypeDesc → Bool
  | .int _ => true
  | .string => true
  | .bool => true
  | _ => false
def findA (kind : TypeDesc) (k : Value) : List (AV × AV) → Nat → Option (Option (Nat × AV))
  | [], _ => some none
  | (.lit kv, x) :: r, i => match Instr.sameNow kind k kv with
    | some true => some (some (i, x))
    | some false => findA kind k r (i + 1)
    | none => none
  | _, _ => none
theorem findA_rel {kind : TypeDesc} {k : Value} : ∀ {es : List (AV × AV)} {es' : List MapEntry} {b i : Nat} {r : Option (Nat × AV)}, ME m es es' b → findA kind k es i = some r →
    match r with
    | none => Instr.findNow kind k es' i = some none
    | some (j, a) => ∃ v, VR m a v ∧ Instr.findNow kind k es' i = some (some (j, v))
  | [], es', b, i, r, h, e => by
    simp only [ME] at h; subst h
    simp only [findA, Option.some.injEq] at e; subst e; rfl
  | (kk, x) :: es, es', b, i, r, h, e => by
    obtain ⟨v, t, kv, rfl, rfl, hx, ht⟩ := h
    simp only [findA] at e
    cases hs : Instr.sameNow kind k kv with
    | none => simp [hs] at e
    | some q =>
      cases q with
      | true =>
        simp only [hs, Option.some.injEq] at e; subst e
        exact ⟨v, hx, by simp [Instr.findNow, hs]⟩
      | false =>
        simp only [hs] at e
        have := findA_rel ht e
        cases r with
        | none => simpa [Instr.findNow, hs] using this
        | some ja => obtain ⟨j, a⟩ := ja; simpa [Instr.findNow, hs] using this
theorem run_checkPlain {t : TypeId} {d : TypeDesc} {b : Bool} {k : Value} (hu : P.underlying t = some d) (hd : plainK d = true) : (Instr.checkKey b 10000 t k).run P w = .ok () w := by
  show (Instr.checkKey b (9999 + 1) t k).run P w = _
  rw [Instr.checkKey, Sem.run_bind, run_underlying hu, Result.andThen_ok]
  cases d <;> first | rfl | cases hd
theorem run_findKey_of {t : TypeId} {d : TypeDesc} {k : Value} {es : List MapEntry} {r : Option (Nat × Value)} (hu : P.underlying t = some d) (h : Instr.findNow d k es 0 = some r) : (Instr.findKey t k es).run P w = .ok r w := by
  simp [Instr.findKey, run_underlying hu, h]
def eLookup (P : Program) (H : Nat → Option AO) (t : TypeId) (x k : Option AV) (ok : Bool) : Option LR :=
  match x, k with
  | some (.ref i), some (.lit kv) => match P.underlying t with
    | some (.map kt et) => match P.underlying kt with
      | some kd => match plainK kd, H i with
        | true, some (.map es) => match findA kd kv es 0 with
          | some (some (_, a)) => some (.val (bif ok then .tup [a, .lit (.bool true)] else a))
          | some none => match P.info? et with
            | some inf => match inf.zero with
              | some z => some (.val (bif ok then .tup [.lit z, .lit (.bool false)] else .lit z))
              | none => none
            | none => none
          | none => none
        | _, _ => none
      | none => none
    | _ => none
  | _, _ => none
theorem eLookup_ok {X Y : Operand} {t : TypeId} {ok : Bool} {r : LR} (hH : HK m H w) (hρ : RK m ρ τ) (h : eLookup P H t (ρ X) (ρ Y) ok = some r) (ho : o.op = .lookup t X Y ok) : LOk P m w τ n o r := by
  unfold eLookup at h
  split at h
  · rename_i i kv hx hy
    have hv := hρ X _ hx
    have hk := hρ Y _ hy
    simp only [VR] at hv hk
    obtain ⟨c, hm, hv⟩ := hv
    split at h
    · rename_i kt et hu
      split at h
      · rename_i kd hkd
        split at h
        · rename_i es hpl hi
          obtain ⟨l, hl, hor⟩ := hH _ _ hi
          rw [hm] at hl; cases hl
          obtain ⟨es', hb, hme⟩ := hor
          have hget : (getObj c.b).run P w = .ok (.map es'.toArray es.length) w := by simp [getObj, Sem.run, hb]
          split at h
          · rename_i j a hf
            obtain ⟨v, h1, h2⟩ := findA_rel hme hf
            simp only [Option.some.injEq] at h; subst h
            have hrun : (execOp τ o).run P w = .ok (.value (if ok then .tuple #[v, .bool true] else v)) w := by
              unfold execOp; rw [ho]
              simp only [hv, hk, Instr.lookup, Sem.run_bind, run_underlying hu, Result.andThen_ok, hget, run_checkPlain hkd hpl, run_findKey_of hkd h2, Sem.run_pure]
            cases ok with
            | true => exact ⟨.tuple [v, .bool true].toArray, by simp only [VR, cond_true]; refine ⟨_, rfl, ?_⟩; simp only [VRs, VR]; exact ⟨_, _, rfl, h1, _, _, rfl, rfl, rfl⟩, hrun⟩
            | false => exact ⟨v, h1, hrun⟩
          · rename_i hf
            have h2 := findA_rel hme hf
            simp only at h2
            split at h
            · rename_i inf hinf
              split at h
              · rename_i z hz
                simp only [Option.some.injEq] at h; subst h
                have hzz : (zeroValue et).run P w = .ok z w := by simp [zeroValue, typeInfo, hinf, hz]
                have hrun : (execOp τ o).run P w = .ok (.value (if ok then .tuple #[z, .bool false] else z)) w := by
                  unfold execOp; rw [ho]
                  simp only [hv, hk, Instr.lookup, Sem.run_bind, run_underlying hu, Result.andThen_ok, hget, run_checkPlain hkd hpl, run_findKey_of hkd h2, Sem.run_pure, hzz]
                cases ok with
                | true => exact ⟨.tuple [z, .bool false].toArray, by simp only [VR, cond_true]; refine ⟨_, rfl, ?_⟩; simp only [VRs, VR]; exact ⟨_, _, rfl, rfl, _, _, rfl, rfl, rfl⟩, hrun⟩
                | false => exact ⟨z, VR.lit _, hrun⟩
              · cases h
            · cases h
          · cases h
        · cases h
      · cases h
    · cases h
  · cases h
/-! ### what needs no memory at all -/
def pureOp : Op → Bool
  | .binOp .. | .unOp .. | .convert .. | .index .. | .slice .. | .field .. | .extract .. | .nilCheck .. | .makeInterface .. | .typeAssert .. => true
  | .call { callee := .builtin .len, .. } | .call { callee := .builtin .min, .. } | .call { callee := .builtin .max, .. } | .call { callee := .builtin .cap, .. } => true
  | _ => false
def clV (ρ : Operand → Option AV) (x : Operand) : Value := match ρ x with
  | some a => match a.clos with | some v => v | none => undef
  | none => undef
def clB (ρ : Operand → Option AV) (x : Operand) : Bool := match ρ x with
  | some a => match a.clos with | some _ => true | none => false
  | none => false
def ePure (P : Program) (ρ : Operand → Option AV) (o : Oper) : Option LR :=
  bif pureOp o.op && o.op.operands.toList.all (clB ρ) then
    match pr P (execOp (clV ρ) o) with
    | some (.value v) => some (.val (.lit v))
    | _ => none
  else none
theorem ePure_ok {r : LR} (hρ : RK m ρ τ) (h : ePure P ρ o = some r) : LOk P m w τ n o r := by
  unfold ePure at h
  cases hb : pureOp o.op && o.op.operands.toList.all (clB ρ) with
  | false => rw [hb] at h; simp only [cond_false] at h; cases h
  | true =>
    rw [hb] at h
    simp only [cond_true] at h
    split at h
    · rename_i v hv
      simp only [Option.some.injEq] at h; subst h
      refine ⟨v, VR.lit _, ?_⟩
      simp only [Bool.and_eq_true, List.all_eq_true] at hb
      rw [execOp_congr (ρ' := clV ρ) o (fun cs b e => by rw [e] at hb; simp [pureOp] at hb) ?_]
      · exact pr_run hv w
      · intro x hx
        have := hb.2 x (by simpa using hx)
        unfold clB at this
        unfold clV
        cases hr : ρ x with
        | none => simp [hr] at this
        | some a =>
          cases hc : a.clos with
          | none => simp [hr, hc] at this
          | some v => simp only [hc]; exact clos_eq (hρ x a hr) hc
    · cases h
def eLenC (P : Program) (ρ : Operand → Option AV) (c : Call) : Option LR :=
  match c.callee with
  | .builtin .len => match c.args.toList, c.argTypes.toList with
    | [x], [t] => eLen P (some t) (ρ x)
    | _, _ => none
  | _ => none
theorem eLenC_ok {c : Call} {r : LR} (hρ : RK m ρ τ) (h : eLenC P ρ c = some r) (ho : o.op = .call c) : LOk P m w τ n o r := by
  unfold eLenC at h
  split at h
  · rename_i hc
    split at h
    · rename_i x t hx ht
      refine eLen_ok hρ h ?_
      rw [ho]
      obtain ⟨ce, az, ats⟩ := c
      simp only at hc hx ht
      subst hc
      have e1 : az = #[x] := by apply Array.ext'; simpa using hx
      have e2 : ats = #[t] := by apply Array.ext'; simpa using ht
      rw [e1, e2]
    · cases h
  · cases h
def eS2b (P : Program) (n : Nat) (s t : TypeId) (x : Option AV) : Option LR :=
  match x with
  | some (.lit (.string b)) => match P.underlying s, P.underlying t with
    | some _, some (.slice e) => match P.underlying e with
      | some (.int .u8) => some (.new (.slc n 0 0 b.size) (.row e 1 (b.data.toList.map fun c => .lit (.int .u8 (Int.ofNat c.toNat)))))
      | _ => none
    | _, _ => none
  | _ => none
theorem vrs_lits {m : LM} : ∀ (l : List Value), VRs m (l.map AV.lit) l
  | [] => by simp only [List.map_nil, VRs]
  | v :: l => by
    simp only [List.map_cons, VRs]
    exact ⟨v, l, rfl, VR.lit v, vrs_lits l⟩
theorem eS2b_ok {s t : TypeId} {X : Operand} {r : LR} (hρ : RK m ρ τ) (h : eS2b P n s t (ρ X) = some r) (ho : o.op = .convert s t X) : LOk P m w τ n o r := by
  unfold eS2b at h
  split at h
  · rename_i b hx
    have hv := hρ X _ hx
    simp only [VR] at hv
    split at h
    · rename_i u e hs ht
      split at h
      · rename_i he
        simp only [Option.some.injEq] at h; subst h
        have hrun := Lib.run_convert_string_bytes (P := P) w s t e b hs ht he
        have hge := grownCap_ge w b.size 0 e
        refine ⟨.slice (some ⟨w.heap.size, 0, none⟩) b.size (grownCap w b.size 0 e), Lib.bytesWorld w e b, grownCap w b.size 0 e, by unfold execOp; rw [ho]; simp [hv, hrun], ⟨rfl, rfl, rfl, Lib.bytesWorld_size w e b, fun j hj => Lib.bytesWorld_at_old w e b j hj⟩, fun m' hle hn => ⟨by simp only [VR]; exact ⟨_, hn, by simpa using hge, by simp⟩, ?_⟩⟩
        have hsz : (Lib.bytesCells w e b).size = grownCap w b.size 0 e := by
          unfold Lib.bytesCells
          simp only [Array.size_append, Array.size_map, Array.size_replicate]
          have : b.data.size = b.size := rfl
          omega
        refine ⟨_, b.data.toList.map (fun c => Value.int .u8 (Int.ofNat c.toNat)), _, Lib.bytesWorld_at_new w e b, .inr (Nat.le_refl _), ?_, ?_, (fun h0 => by cases h0), fun j v hj => ?_⟩
        · have := vrs_lits (m := m') (b.data.toList.map (fun c => Value.int .u8 (Int.ofNat c.toNat)))
          rw [List.map_map] at this
          exact this
        · rw [hsz]; simp
        · have hjl := (List.getElem?_eq_some_iff.1 hj).1
          unfold Lib.bytesCells
          simp only [Nat.zero_add]
          rw [Array.getElem?_append_left (by simpa using hjl)]
          simpa using hj
      · cases h
    · cases h
  · cases h
def light (P : Program) (H : Nat → Option AO) (n : Nat) (ρ : Operand → Option AV) (o : Oper) : Option LR :=
  match o.op with
  | .move x | .assign x => match ρ x with | some a => some (.val a) | none => none
  | .pick c a b => match ρ c with
    | some (.lit (.bool true)) => (match ρ a with | some a => some (.val a) | none => none)
    | some (.lit (.bool false)) => (match ρ b with | some a => some (.val a) | none => none)
    | _ => none
  | .load t x => eLoad P H t (ρ x)
  | .fieldAddr t x i => eFa P t (ρ x) i
  | .alloc t => eAlloc P n t
  | .box t x => eBox n t (ρ x)
  | .build t ps => eBuild P ρ t ps
  | .buildSlice t k ps => match eBsl P ρ n t k ps with | some r => some r | none => eBsl0 P n t k ps
  | .indexAddr t x i => match eIa P t (ρ x) (ρ i) with | some r => some r | none => eIaA P t (ρ x) (ρ i)
  | .makeFunc f a b => eClo ρ f a b
  | .makeMap _ r => eMap n r
  | .range t x => eRange P n t (ρ x)
  | .lookup t x k ok => eLookup P H t (ρ x) (ρ k) ok
  | .nilCheck x => match eNilCk (ρ x) with | some r => some r | none => ePure P ρ o
  | .extract x i => match eExtract (ρ x) i with | some r => some r | none => ePure P ρ o
  | .field t x i => match eField P t (ρ x) i with | some r => some r | none => ePure P ρ o
  | .makeInterface t x => eIface P t (ρ x)
  | .typeAssert x _ t ok => match eAssert P (ρ x) t ok with | some r => some r | none => ePure P ρ o
  | .slice t x a b none => match eSlice P t (ρ x) (a.map ρ) (b.map ρ) with | some r => some r | none => ePure P ρ o
  | .binOp op t x y _ => match eNil P op t (ρ x) (ρ y) with | some r => some r | none => match eSame P op t (ρ x) (ρ y) with | some r => some r | none => ePure P ρ o
  | .convert s t x => match eB2s P H s t (ρ x) with | some r => some r | none => match eS2b P n s t (ρ x) with | some r => some r | none => match eUns P H s t (ρ x) with | some r => some r | none => ePure P ρ o
  | .call c => match eLenC P ρ c with | some r => some r | none => match eSd ρ c with | some r => some r | none => ePure P ρ o
  | _ => ePure P ρ o
theorem light_ok {r : LR} (hH : HK m H w) (hρ : RK m ρ τ) (h : light P H n ρ o = some r) : LOk P m w τ n o r := by
  unfold light at h
  split at h
  · rename_i x ho
    split at h
    · rename_i a ha
      simp only [Option.some.injEq] at h; subst h
      exact ⟨_, hρ x a ha, v_move ho rfl⟩
    · cases h
  · rename_i x ho
    split at h
    · rename_i a ha
      simp only [Option.some.injEq] at h; subst h
      exact ⟨_, hρ x a ha, v_assign ho rfl⟩
    · cases h
  · rename_i c a b ho
    split at h
    · rename_i hc
      have hcv := hρ c _ hc
      simp only [VR] at hcv
      split at h
      · rename_i x hx
        simp only [Option.some.injEq] at h; subst h
        exact ⟨_, hρ a x hx, by unfold execOp; rw [ho]; simp [hcv, asBool]⟩
      · cases h
    · rename_i hc
      have hcv := hρ c _ hc
      simp only [VR] at hcv
      split at h
      · rename_i x hx
        simp only [Option.some.injEq] at h; subst h
        exact ⟨_, hρ b x hx, by unfold execOp; rw [ho]; simp [hcv, asBool]⟩
      · cases h
    · cases h
  · exact eLoad_ok hH hρ h (by assumption)
  · exact eFa_ok hρ h (by assumption)
  · exact eAlloc_ok h (by assumption)
  · exact eBox_ok hρ h (by assumption)
  · exact eBuild_ok hρ h (by assumption)
  · rename_i t k ps ho
    split at h
    · rename_i r' hr; cases h; exact eBsl_ok hρ hr ho
    · exact eBsl0_ok h ho
  · rename_i t x i ho
    split at h
    · rename_i r' hr; cases h; exact eIa_ok hρ hr ho
    · exact eIaA_ok hρ h ho
  · exact eClo_ok hρ h (by assumption)
  · exact eMap_ok h (by assumption)
  · exact eRange_ok hρ h (by assumption)
  · exact eLookup_ok hH hρ h (by assumption)
  · rename_i x ho
    split at h
    · rename_i r' hr; cases h; exact eNilCk_ok hρ hr ho
    · exact ePure_ok hρ h
  · rename_i x i ho
    split at h
    · rename_i r' hr; cases h; exact eExtract_ok hρ hr ho
    · exact ePure_ok hρ h
  · rename_i t x i ho
    split at h
    · rename_i r' hr; cases h; exact eField_ok hρ hr ho
    · exact ePure_ok hρ h
  · exact eIface_ok hρ h (by assumption)
  · rename_i x xt t ok ho
    split at h
    · rename_i r' hr; cases h; exact eAssert_ok hρ hr ho
    · exact ePure_ok hρ h
  · rename_i t x a b ho
    split at h
    · rename_i r' hr; cases h; exact eSlice_ok hρ hr ho
    · exact ePure_ok hρ h
  · rename_i op t x y t' ho
    split at h
    · rename_i r' hr; cases h; exact eNil_ok hρ hr ho
    · split at h
      · rename_i r' hr; cases h; exact eSame_ok hρ hr ho
      · exact ePure_ok hρ h
  · rename_i s t x ho
    split at h
    · rename_i r' hr; cases h; exact eB2s_ok hH hρ hr ho
    · split at h
      · rename_i r' hr; cases h; exact eS2b_ok hρ hr ho
      · split at h
        · rename_i r' hr; cases h; exact eUns_ok hH hρ hr ho
        · exact ePure_ok hρ h
  · rename_i c ho
    split at h
    · rename_i r' hr; cases h; exact eLenC_ok hρ hr ho
    · split at h
      · rename_i r' hr; cases h; exact eSd_ok hρ hr ho
      · exact ePure_ok hρ h
  · exact ePure_ok hρ h
end
end Go.Ev
end
section
set_option linter.unusedVariables false
set_option linter.unusedSimpArgs false
namespace Go.Ev
open Go Go.RowKit Go.Dk
/-! ### written out -/
section
variable {β : Type}
def fN (n : Nat) (k : Nat → β) : β := match n with
  | 0 => k 0
  | p + 1 => k (Nat.succ p)
theorem fN_eq (n : Nat) (k : Nat → β) : fN n k = k n := by cases n <;> rfl
def fI (n : Int) (k : Int → β) : β := match n with
  | .ofNat p => fN p fun p => k (.ofNat p)
  | .negSucc p => fN p fun p => k (.negSucc p)
theorem fI_eq (n : Int) (k : Int → β) : fI n k = k n := by cases n <;> simp [fI, fN_eq]
def fU : List UInt8 → (List UInt8 → β) → β
  | [], k => k []
  | x :: l, k => fN x.toNat fun p => fU l fun l => k (UInt8.ofNat p :: l)
theorem fU_eq : ∀ (l : List UInt8) (k : List UInt8 → β), fU l k = k l
  | [], k => rfl
  | x :: l, k => by simp [fU, fN_eq, fU_eq l]
def fS (s : ByteArray) (k : ByteArray → β) : β := fU s.data.toList fun l => k ⟨⟨l⟩⟩
theorem fS_eq (s : ByteArray) (k : ByteArray → β) : fS s k = k s := by simp [fS, fU_eq]
def fV (v : Value) (k : Value → β) : β := match v with
  | .int q n => fI n fun n => k (.int q n)
  | .bool true => k (.bool true)
  | .bool false => k (.bool false)
  | .string s => fS s fun s => k (.string s)
  | .pointer none => k (.pointer none)
  | v => k v
theorem fV_eq (v : Value) (k : Value → β) : fV v k = k v := by
  unfold fV; split <;> simp [fI_eq, fS_eq]
mutual
def fA : AV → (AV → β) → β
  | .lit v, k => fV v fun v => k (.lit v)
  | .ptr i o, k => fN i fun i => fN o fun o => k (.ptr i o)
  | .slc i a o n, k => fN i fun i => fN a fun a => fN o fun o => fN n fun n => k (.slc i a o n)
  | .ref i, k => fN i fun i => k (.ref i)
  | .agg l, k => fL l fun l => k (.agg l)
  | .tup l, k => fL l fun l => k (.tup l)
  | .ifc t v, k => fN t fun t => fA v fun v => k (.ifc t v)
  | .clo f l, k => fN f fun f => fL l fun l => k (.clo f l)
def fL : List AV → (List AV → β) → β
  | [], k => k []
  | a :: l, k => fA a fun a => fL l fun l => k (a :: l)
end
mutual
theorem fA_eq : ∀ (a : AV) (k : AV → β), fA a k = k a
  | .lit v, k => by simp [fA, fV_eq]
  | .ptr i o, k => by simp [fA, fN_eq]
  | .slc i a o n, k => by simp [fA, fN_eq]
  | .ref i, k => by simp [fA, fN_eq]
  | .agg l, k => by simp [fA, fL_eq l]
  | .tup l, k => by simp [fA, fL_eq l]
  | .ifc t v, k => by simp [fA, fN_eq, fA_eq v]
  | .clo f l, k => by simp [fA, fN_eq, fL_eq l]
theorem fL_eq : ∀ (l : List AV) (k : List AV → β), fL l k = k l
  | [], k => rfl
  | a :: l, k => by simp [fL, fA_eq a, fL_eq l]
end
def fM : List (AV × AV) → (List (AV × AV) → β) → β
  | [], k => k []
  | (a, b) :: l, k => fA a fun a => fA b fun b => fM l fun l => k ((a, b) :: l)
theorem fM_eq : ∀ (l : List (AV × AV)) (k : List (AV × AV) → β), fM l k = k l
  | [], k => rfl
  | (a, b) :: l, k => by simp [fM, fA_eq, fM_eq l]
def fO (o : AO) (k : AO → β) : β := match o with
  | .row e sz cs => fN e fun e => fN sz fun sz => fL cs fun cs => k (.row e sz cs)
  | .map es => fM es fun es => k (.map es)
  | .iter s p => fS s fun s => fN p fun p => k (.iter s p)
theorem fO_eq (o : AO) (k : AO → β) : fO o k = k o := by cases o <;> simp [fO, fN_eq, fL_eq, fM_eq, fS_eq]
end
/-! ### memory written -/
theorem setCells_row {b : Nat} : ∀ (vs : List Value) {p : Nat} {w : World} {arr : Array Value} {e : TypeId} {fr : Nat × Nat}, w.heap[b]? = some (.cells arr e fr) → p + vs.length ≤ arr.size →
    (w.setCells b p vs).heap[b]? = some (.cells (putV p vs arr.toList).toArray e fr) ∧ (w.setCells b p vs).heap.size = w.heap.size ∧ (w.setCells b p vs).os = w.os ∧ (w.setCells b p vs).tape = w.tape ∧ (w.setCells b p vs).output = w.output ∧
    ∀ k, k ≠ b → (w.setCells b p vs).heap[k]? = w.heap[k]?
  | [], p, w, arr, e, fr, h, hl => by simp [World.setCells, putV, h]
  | v :: vs, p, w, arr, e, fr, h, hl => by
    simp only [List.length_cons] at hl
    have h1 : (w.setCell ⟨b, p, none⟩ v).heap[b]? = some (.cells (arr.setIfInBounds p v) e fr) := by
      rw [setCell_eq_setRow w b p arr e fr v h]
      exact setRow_heap w b arr _ e _ h
    have := setCells_row (b := b) vs (p := p + 1) (w := w.setCell ⟨b, p, none⟩ v) h1 (by simp; omega)
    obtain ⟨a1, a2, a3, a4, a5, a6⟩ := this
    refine ⟨?_, by rw [show (w.setCells b p (v :: vs)) = ((w.setCell ⟨b, p, none⟩ v).setCells b (p + 1) vs) from rfl, a2]; simp, by rw [show (w.setCells b p (v :: vs)) = ((w.setCell ⟨b, p, none⟩ v).setCells b (p + 1) vs) from rfl, a3]; rfl, by rw [show (w.setCells b p (v :: vs)) = ((w.setCell ⟨b, p, none⟩ v).setCells b (p + 1) vs) from rfl, a4]; rfl, by rw [show (w.setCells b p (v :: vs)) = ((w.setCell ⟨b, p, none⟩ v).setCells b (p + 1) vs) from rfl, a5]; rfl, ?_⟩
    · rw [show (w.setCells b p (v :: vs)) = ((w.setCell ⟨b, p, none⟩ v).setCells b (p + 1) vs) from rfl, a1]
      simp [putV]
    · intro k hk
      rw [show (w.setCells b p (v :: vs)) = ((w.setCell ⟨b, p, none⟩ v).setCells b (p + 1) vs) from rfl, a6 k hk]
      exact heap_setCell_other w _ k v hk
theorem not_frozen {w : World} {b j : Nat} {arr : Array Value} {e : TypeId} {fr : Nat × Nat} (h : w.heap[b]? = some (.cells arr e fr)) (hf : fr.1 = fr.2 ∨ arr.size ≤ fr.1) (hj : j < arr.size) : w.frozen? ⟨b, j, none⟩ = false := by
  obtain ⟨lo, hi⟩ := fr
  simp only [World.frozen?, h]
  simp only at hf
  simp
  omega
theorem HR.upd {m : LM} {H H' : Nat → Option AO} {w w' : World} {i : Nat} {l : Lc} {ob ob' : AO} (h : HR m H w) (hi : H i = some ob) (hm : m i = some l) (hb : OR m l w' ob') (hoth : ∀ k, k ≠ l.b → w'.heap[k]? = w.heap[k]?) (hsz : w.heap.size ≤ w'.heap.size)
    (hH : ∀ j, H' j = if j = i then some ob' else H j) : HR m H' w' := by
  refine ⟨fun j o hj => ?_, fun j j' o o' l1 l2 hne hj hj' h1 h2 => ?_, fun j lj hj => Nat.lt_of_lt_of_le (h.bb j lj hj) hsz⟩
  · rw [hH] at hj
    split at hj
    · rename_i e; subst e; cases hj; exact ⟨l, hm, hb⟩
    · rename_i hne
      obtain ⟨l', h1, h2⟩ := h.at_ j o hj
      exact ⟨l', h1, h2.keep (hoth _ (h.sep j i o ob l' l hne hj hi h1 hm))⟩
  · have key : ∀ {j o}, H' j = some o → ∃ o', H j = some o' := by
      intro j o hj
      rw [hH] at hj
      split at hj
      · rename_i e; subst e; exact ⟨ob, hi⟩
      · exact ⟨o, hj⟩
    obtain ⟨_, k1⟩ := key hj
    obtain ⟨_, k2⟩ := key hj'
    exact h.sep j j' _ _ l1 l2 hne k1 k2 h1 h2
def HOk (P : Program) (m : LM) (w : World) (τ : Operand → Value) (o : Oper) (H' : Nat → Option AO) (n' : Nat) (r : Option AV) : Prop :=
  ∃ m' w', Upd m w m' w' ∧ HR m' H' w' ∧ Dom m' n' ∧ match r with
    | some a => ∃ v, VR m' a v ∧ (execOp τ o).run P w = .ok (.value v) w'
    | none => (execOp τ o).run P w = .ok .skip w'
section
variable {P : Program} {m : LM} {w : World} {τ : Operand → Value} {ρ : Operand → Option AV} {o : Oper} {n : Nat} {β : Type} {h : Tr AO}
def hStore (P : Program) (h : Tr AO) (t : TypeId) (x y : Option AV) (k : Tr AO → Option β) : Option β :=
  match x, y with
  | some (.ptr i off), some a => match h.get i, P.info? t with
    | some (.row e sz cs), some inf => bif Nat.beq a.cells.length inf.size && Nat.ble (off + a.cells.length) cs.length && a.cells.all AV.one then
        fL (putA off a.cells cs) fun cs => Tr.setK (some (.row e sz cs)) 40 h i k
      else none
    | _, _ => none
  | _, _ => none
theorem hStore_ok {t : TypeId} {X Y : Operand} {k : Tr AO → Option β} {r : β} (hH : HR m h.get w) (hd : Dom m n) (hρ : RK m ρ τ) (hr : hStore P h t (ρ X) (ρ Y) k = some r) (ho : o.op = .store t X Y) :
    ∃ h', k h' = some r ∧ HOk P m w τ o h'.get n none := by
  unfold hStore at hr
  split at hr
  · rename_i i off a hx hy
    have hv := hρ X _ hx
    have hu := hρ Y _ hy
    simp only [VR] at hv
    obtain ⟨l, hm, hv⟩ := hv
    split at hr
    · rename_i e sz cs inf hi hinf
      cases hb : Nat.beq a.cells.length inf.size && Nat.ble (off + a.cells.length) cs.length && a.cells.all AV.one with
      | false => rw [hb] at hr; simp only [cond_false] at hr; cases hr
      | true =>
        rw [hb] at hr
        simp only [cond_true, fL_eq] at hr
        obtain ⟨h', hk, hg⟩ := Tr.setK_some hr
        refine ⟨h', hk, ?_⟩
        simp only [Bool.and_eq_true, Nat.beq_eq, Nat.ble_eq] at hb
        obtain ⟨⟨hb1, hb2⟩, hb3⟩ := hb
        obtain ⟨l', hm', hor⟩ := hH.at_ i _ hi
        rw [hm] at hm'; cases hm'
        have hor0 := hor
        obtain ⟨arr, vs, fr, h1, hf, h3, h4, h6, h5⟩ := hor
        have hc := hu.cells
        have hlen := hc.len
        have hvl := h3.len
        have hbnd : ∀ j, j < vs.length → l.o + j < arr.size := fun j hj => by
          have := h5 j _ (List.getElem?_eq_getElem hj)
          exact (Array.getElem?_eq_some_iff.1 this).1
        have hone : ∀ v ∈ (τ Y).cells.toList, v.oneCell' = true := by
          intro v hvm
          obtain ⟨j, hj⟩ := List.getElem?_of_mem hvm
          have hjl : j < a.cells.length := by rw [← hlen]; exact (List.getElem?_eq_some_iff.1 hj).1
          obtain ⟨v', e1, e2⟩ := hc.get (List.getElem?_eq_getElem hjl)
          rw [hj] at e1; cases e1
          exact e2.one (List.all_eq_true.1 hb3 _ (List.getElem_mem hjl))
        have hsz : off = 0 ∨ 0 < a.cells.length ∨ True := .inr (.inr trivial)
        have hroom : l.o + off + (τ Y).cells.toList.length ≤ arr.size ∨ (τ Y).cells.toList.length = 0 := by
          rcases Nat.eq_zero_or_pos (τ Y).cells.toList.length with h0 | h0
          · exact .inr h0
          · have := hbnd (off + (τ Y).cells.toList.length - 1) (by omega)
            exact .inl (by omega)
        have hcells : ∀ j, j < (τ Y).cells.toList.length → (w.cell? ⟨l.b, l.o + off + 0 + j, none⟩).isSome = true := by
          intro j hj
          rw [cell_of_row w l.b _ arr e fr h1]
          simp; have := hbnd (off + j) (by omega); omega
        have hfro : ∀ j, j < (τ Y).cells.toList.length → w.frozen? ⟨l.b, l.o + off + 0 + j, none⟩ = false := by
          intro j hj
          exact not_frozen h1 hf (by have := hbnd (off + j) (by omega); omega)
        have hst := run_storeCells_cells (P := P) l.b (l.o + off) (τ Y).cells.toList 0 w (by simpa using hcells) (by simpa using hfro) hone
        have hszv : (τ Y).cells.size = inf.size := by rw [← hb1, ← hlen]; simp
        rcases hroom with hroom | h0
        · obtain ⟨b1, b2, b3, b4, b5, b6⟩ := setCells_row (τ Y).cells.toList h1 (p := l.o + off) hroom
          refine ⟨m, _, ⟨Le.refl m, b3, b4, b5, by rw [b2]; exact Nat.le_refl _, fun b hb hn => b6 b (fun e' => hn i l hm e'.symm), fun _ _ hh => .inl hh⟩, hH.upd hi hm ?_ b6 (by rw [b2]; exact Nat.le_refl _) hg, hd, ?_⟩
          · refine ⟨_, putV off (τ Y).cells.toList vs, fr, b1, by simpa [putV_len] using hf, put_rel hc h3, by simpa [putV_len] using h4, (fun h0 => ⟨(h6 h0).1, by rw [putA_len]; simpa [putV_len] using (h6 h0).2⟩), fun j v hj => ?_⟩
            rw [List.getElem?_toArray, putV_get (by simpa using hroom)]
            rw [putV_get (by omega)] at hj
            split at hj
            · rename_i hh
              rw [if_pos (by omega)]
              have : l.o + j - (l.o + off) = j - off := by omega
              rw [this]; exact hj
            · rename_i hh
              rw [if_neg (by omega)]
              have := h5 j v hj
              simpa using this
          · unfold execOp; rw [ho]
            simp only [Nat.add_zero] at hst
            simp [hv, Instr.storeAt, Instr.sureAddr, storeVar, sizeOf, typeInfo, hinf, hszv, hst]
        · have hnil : (τ Y).cells.toList = [] := List.eq_nil_of_length_eq_zero h0
          have hanil : a.cells = [] := List.eq_nil_of_length_eq_zero (by omega)
          refine ⟨m, w, Upd.refl m w, hH.upd hi hm (ob' := .row e sz (putA off a.cells cs)) (by rw [hanil]; exact hor0) (fun _ _ => rfl) (Nat.le_refl _) hg, hd, ?_⟩
          unfold execOp; rw [ho]
          rw [hnil] at hst
          have hst' : (storeCells ⟨l.b, l.o + off, none⟩ []).run P w = .ok () w := by simpa [World.setCells] using hst
          simp [hv, Instr.storeAt, Instr.sureAddr, storeVar, sizeOf, typeInfo, hinf, hszv, hnil, hst']
    · cases hr
  · cases hr
def hNext (h : Tr AO) (x : Option AV) (k : AV → Tr AO → Option β) : Option β :=
  match x with
  | some (.ptr i 0) => match h.get i with
    | some (.iter s pos) => bif Nat.blt pos s.size then
        fN (Utf8.decode s pos).1 fun c => fN (pos + (Utf8.decode s pos).2) fun p => Tr.setK (some (.iter s p)) 40 h i (k (.tup [.lit (.bool true), .lit (.int .i64 (.ofNat pos)), .lit (.int .i32 (.ofNat c))]))
      else k (.tup [.lit (.bool false)]) h
    | _ => none
  | _ => none
theorem hNext_ok {X : Operand} {k : AV → Tr AO → Option β} {r : β} (hH : HR m h.get w) (hd : Dom m n) (hρ : RK m ρ τ) (hr : hNext h (ρ X) k = some r) (ho : o.op = .next X true) :
    ∃ a h', k a h' = some r ∧ HOk P m w τ o h'.get n (some a) := by
  unfold hNext at hr
  split at hr
  · rename_i i hx
    have hv := hρ X _ hx
    simp only [VR] at hv
    obtain ⟨l, hm, hv⟩ := hv
    split at hr
    · rename_i s pos hi
      obtain ⟨l', hm', h0, hb⟩ := hH.at_ i _ hi
      rw [hm] at hm'; cases hm'
      have hv' : τ X = .pointer (some ⟨l.b, 0, none⟩) := by rw [hv, h0]
      have hget : (getObj l.b).run P w = .ok (.stringIter s pos) w := by simp [getObj, Sem.run, hb]
      cases hlt : Nat.blt pos s.size with
      | true =>
        rw [hlt] at hr
        simp only [cond_true, fN_eq] at hr
        obtain ⟨h', hk, hg⟩ := Tr.setK_some hr
        rw [blt_iff] at hlt
        have hlt : pos < s.size := by simpa using hlt
        have hblt : l.b < w.heap.size := (Array.getElem?_eq_some_iff.1 hb).1
        refine ⟨_, h', hk, m, { w with heap := w.heap.setIfInBounds l.b (.stringIter s (pos + (Utf8.decode s pos).2)) }, ⟨Le.refl m, rfl, rfl, rfl, by simp, fun b hb' hn => ?_, fun _ _ hh => .inl hh⟩, hH.upd (ob' := .iter s (pos + (Utf8.decode s pos).2)) hi hm ⟨h0, by simp [hblt]⟩ (fun k hk => ?_) (by simp) hg, hd, .tuple #[.bool true, .int .i64 pos, .int .i32 (Utf8.decode s pos).1], ?_, ?_⟩
        · have := hn i l hm
          simp [Array.getElem?_setIfInBounds_ne this]
        · simp [Array.getElem?_setIfInBounds_ne (Ne.symm hk)]
        · simp only [VR]
          refine ⟨[.bool true, .int .i64 pos, .int .i32 (Utf8.decode s pos).1], rfl, ?_⟩
          simp only [VRs, VR]
          exact ⟨_, _, rfl, rfl, _, _, rfl, rfl, _, _, rfl, rfl, rfl⟩
        · have hset : ∀ ob, (setObj l.b ob).run P w = .ok () { w with heap := w.heap.setIfInBounds l.b ob } := by intro ob; simp [setObj, Sem.run, hb]
          unfold execOp; rw [ho]
          simp [Instr.next, hv', hget, hlt, hset, goInt]
      | false =>
        rw [hlt] at hr
        simp only [cond_false] at hr
        rw [blt_iff] at hlt
        have hlt : ¬ pos < s.size := by simpa using hlt
        refine ⟨_, h, hr, m, w, Upd.refl m w, hH, hd, .tuple #[.bool false], ?_, ?_⟩
        · simp only [VR]; refine ⟨[.bool false], rfl, ?_⟩; simp only [VRs, VR]; exact ⟨_, _, rfl, rfl, rfl⟩
        · unfold execOp; rw [ho]
          simp [Instr.next, hv', hget, hlt]
    · cases hr
  · cases hr
/-! ### append -/
def srcA (P : Program) (h : Tr AO) (sz : Nat) (tx : TypeId) (x : Option AV) : Option (Nat × List AV) :=
  match x, P.underlying tx with
  | some (.lit (.slice none 0 _)), some (.slice _) => some (0, [])
  | some (.slc i k off len), some (.slice _) => match h.get i with
    | some (.row _ _ cs) => bif Nat.beq ((cs.drop off).take (len * sz)).length (len * sz) && ((cs.drop off).take (len * sz)).all AV.one then some (len, (cs.drop off).take (len * sz)) else none
    | _ => none
  | some (.lit (.string s)), some .string => bif Nat.beq sz 1 then some (s.size, s.data.toList.map fun b => .lit (.int .u8 b.toNat)) else none
  | _, _ => none
theorem srcA_ok {sz : Nat} {tx : TypeId} {X : Operand} {c : Nat} {l : List AV} (hH : HR m h.get w) (hρ : RK m ρ τ) (hr : srcA P h sz tx (ρ X) = some (c, l)) : ∃ news, VRs m l news ∧ Src P sz tx (τ X) c news w := by
  unfold srcA at hr
  split at hr
  · rename_i q e hx hu
    have hv := hρ X _ hx
    simp only [VR] at hv
    simp only [Option.some.injEq, Prod.mk.injEq] at hr
    obtain ⟨rfl, rfl⟩ := hr
    exact ⟨[], by simp [VRs], by rw [hv]; exact Src.ofNil (w := w) hu q⟩
  · rename_i i k off len e hx hu
    have hv := hρ X _ hx
    simp only [VR] at hv
    obtain ⟨lc, hm, hc, hv⟩ := hv
    split at hr
    · rename_i e' sz' cs hi
      cases hb : Nat.beq ((cs.drop off).take (len * sz)).length (len * sz) && ((cs.drop off).take (len * sz)).all AV.one with
      | false => rw [hb] at hr; simp only [cond_false] at hr; cases hr
      | true =>
        rw [hb] at hr
        simp only [cond_true, Option.some.injEq, Prod.mk.injEq] at hr
        obtain ⟨rfl, rfl⟩ := hr
        simp only [Bool.and_eq_true, Nat.beq_eq] at hb
        obtain ⟨l', hm', hor⟩ := hH.at_ i _ hi
        rw [hm] at hm'; cases hm'
        obtain ⟨vs, h1, h2⟩ := or_cells hor off (len * sz)
        refine ⟨vs, h1, ?_⟩
        rw [hv]
        refine Src.ofSlice w hu _ _ _ _ (by rw [h1.len]; exact hb.1) (fun j u hj => by rw [add_addr]; exact h2 j u hj) fun u hu' => ?_
        obtain ⟨j, hj⟩ := List.getElem?_of_mem hu'
        have hjl : j < ((cs.drop off).take (len * sz)).length := by rw [← h1.len]; exact (List.getElem?_eq_some_iff.1 hj).1
        obtain ⟨v', e1, e2⟩ := h1.get (List.getElem?_eq_getElem hjl)
        rw [hj] at e1; cases e1
        exact e2.one (List.all_eq_true.1 hb.2 _ (List.getElem_mem hjl))
    · cases hr
  · rename_i s hx hu
    have hv := hρ X _ hx
    simp only [VR] at hv
    cases hb : Nat.beq sz 1 with
    | false => rw [hb] at hr; simp only [cond_false] at hr; cases hr
    | true =>
      rw [hb] at hr
      simp only [cond_true, Option.some.injEq, Prod.mk.injEq] at hr
      obtain ⟨rfl, rfl⟩ := hr
      have := Nat.eq_of_beq_eq_true hb
      subst this
      rw [hv]
      refine ⟨byteCells s, ?_, Src.ofString w hu s⟩
      have := VRs.lits (m := m) (byteCells s)
      unfold byteCells at this ⊢
      rw [List.map_map] at this
      exact this
  · cases hr
def hApp (P : Program) (h : Tr AO) (n : Nat) (ρ : Operand → Option AV) (c : Call) (k : AV → Tr AO → Nat → Option β) : Option β :=
  match c.callee, c.args.toList, c.argTypes.toList with
  | .builtin .append, [s, x], [t, tx] => match P.underlying t with
    | some (.slice e) => match P.info? e with
      | some inf => match inf.zero with
        | some z => bif Nat.beq inf.size 0 then none else match srcA P h inf.size tx (ρ x) with
          | some (cnt, news) => match ρ s with
            | some (.lit (.slice none 0 0)) => bif Nat.beq cnt 0 then k (.lit (.slice none 0 0)) h n
                else bif Nat.ble (cnt * inf.bytes) 140737488355328 && Nat.ble cnt 1000000 && Nat.beq z.cells.size inf.size then
                  fL news fun cs => Tr.setK (some (.row e inf.size cs)) 40 h n fun h => k (.slc n 0 0 cnt) h (Nat.succ n)
                else none
            | some (.slc i a off len) => bif Nat.beq cnt 0 then k (.slc i a off len) h n
                else match h.get i with
                | some (.row e' sz cs) => bif Nat.beq e' e && Nat.beq sz inf.size && Nat.beq off (a * sz) && Nat.beq ((cs.drop off).take (len * sz)).length (len * sz) && Nat.ble ((len + cnt) * inf.bytes) 140737488355328 && Nat.ble (len + cnt) 1000000 && Nat.beq z.cells.size inf.size && Nat.blt i n then
                    fL ((cs.drop off).take (len * sz) ++ news) fun cs => Tr.setK none 40 h i fun h => Tr.setK (some (.row e inf.size cs)) 40 h n fun h => fN (len + cnt) fun len => k (.slc n 0 0 len) h (Nat.succ n)
                  else none
                | _ => none
            | _ => none
          | none => none
        | none => none
      | none => none
    | _ => none
  | _, _, _ => none
def put1 (m : LM) (n : Nat) (l : Lc) : LM := fun i => if i = n then some l else m i
theorem put1_le {n : Nat} {l : Lc} (hd : Dom m n) : Le m (put1 m n l) := by
  intro i l' hi
  have := hd i l' hi
  unfold put1
  rw [if_neg (by omega)]; exact hi
theorem put1_dom {n : Nat} {l : Lc} (hd : Dom m n) : Dom (put1 m n l) (n + 1) := by
  intro i l' hi
  unfold put1 at hi
  split at hi
  · omega
  · have := hd i l' hi; omega
theorem HR.add {H H' : Nat → Option AO} {w' : World} {l : Lc} {ob : AO} (hH : HR m H w) (hd : Dom m n) (hb : OR (put1 m n l) l w' ob) (hfr : ∀ i o l', H i = some o → m i = some l' → l'.b ≠ l.b) (hk : ∀ b, b < w.heap.size → b ≠ l.b → w'.heap[b]? = w.heap[b]?) (hsz : w.heap.size ≤ w'.heap.size)
    (hg : ∀ j, H' j = if j = n then some ob else H j) : HR (put1 m n l) H' w' := by
  refine ⟨fun j o hj => ?_, fun j j' o o' l1 l2 hne hj hj' h1 h2 => ?_, fun j lj hj => by
    unfold put1 at hj
    split at hj
    · cases hj; exact hb.lt
    · exact Nat.lt_of_lt_of_le (hH.bb j lj hj) hsz⟩
  · rw [hg] at hj
    split at hj
    · rename_i e; subst e; cases hj
      exact ⟨l, by simp [put1], hb⟩
    · obtain ⟨l', h1, h2⟩ := hH.at_ j o hj
      exact ⟨l', put1_le hd _ _ h1, (h2.mono (put1_le hd)).keep (hk _ h2.lt (hfr j o l' hj h1))⟩
  · rw [hg] at hj hj'
    unfold put1 at h1 h2
    split at hj
    · rename_i e
      rw [if_pos e] at h1; cases h1
      rw [if_neg (by omega)] at hj'
      rw [if_neg (by omega)] at h2
      exact (hfr j' o' l2 hj' h2).symm
    · rename_i e
      rw [if_neg e] at h1
      split at hj'
      · rename_i e'
        rw [if_pos e'] at h2; cases h2
        exact hfr j o l1 hj h1
      · rename_i e'
        rw [if_neg e'] at h2
        exact hH.sep j j' o o' l1 l2 hne hj hj' h1 h2
theorem HR.drop {H H' : Nat → Option AO} {i : Nat} (hH : HR m H w) (hg : ∀ j, H' j = if j = i then none else H j) : HR m H' w := by
  have key : ∀ {j o}, H' j = some o → H j = some o := by
    intro j o hj
    rw [hg] at hj
    split at hj
    · cases hj
    · exact hj
  exact ⟨fun j o hj => hH.at_ j o (key hj), fun j j' o o' l1 l2 hne hj hj' h1 h2 => hH.sep j j' o o' l1 l2 hne (key hj) (key hj') h1 h2, hH.bb⟩
theorem hApp_ok {c : Call} {k : AV → Tr AO → Nat → Option β} {r : β} (hH : HR m h.get w) (hd : Dom m n) (hρ : RK m ρ τ) (hr : hApp P h n ρ c k = some r) (ho : o.op = .call c) :
    ∃ a h' n', k a h' n' = some r ∧ HOk P m w τ o h'.get n' (some a) := by
  unfold hApp at hr
  split at hr
  · rename_i s x t tx hcal hargs htys
    obtain ⟨ce, az, ats⟩ := c
    simp only at hcal hargs htys
    subst hcal
    have e1 : az = #[s, x] := by apply Array.ext'; simpa using hargs
    have e2 : ats = #[t, tx] := by apply Array.ext'; simpa using htys
    subst e1 e2
    split at hr
    · rename_i e hu
      split at hr
      · rename_i inf hi
        split at hr
        · rename_i z hz
          have hne0 : inf.size ≠ 0 := by
            intro h0
            rw [h0] at hr
            simp at hr
          have hnb : Nat.beq inf.size 0 = false := by
            cases hq : Nat.beq inf.size 0 with
            | true => exact absurd (Nat.eq_of_beq_eq_true hq) hne0
            | false => rfl
          rw [hnb] at hr
          simp only [cond_false] at hr
          split at hr
          · rename_i cnt nws hsrc
            obtain ⟨news, hn1, hn2⟩ := srcA_ok hH hρ hsrc
            have hop : ∀ {v w'}, (Builtin.append_ #[t, tx] o.type #[τ s, τ x]).run P w = .ok v w' → (execOp τ o).run P w = .ok (.value v) w' := by
              intro v w' hh
              unfold execOp; rw [ho]
              simp [resolve, invoke, builtin, hh]
            split at hr
            · rename_i hs
              have hv := hρ s _ hs
              simp only [VR] at hv
              cases hb : Nat.beq cnt 0 with
              | true =>
                rw [hb] at hr
                simp only [cond_true] at hr
                have := Nat.eq_of_beq_eq_true hb
                subst this
                refine ⟨_, h, n, hr, m, w, Upd.refl m w, hH, hd, _, VR.lit _, hop ?_⟩
                rw [hv]
                rcases hn2.kind with ⟨e', hk⟩ | hk <;> simp [Builtin.append_, run_underlying hu, run_underlying hk, sizeOf, typeInfo, hi, hn2.len, hn2.cells]
              | false =>
                rw [hb] at hr
                simp only [cond_false] at hr
                have hc0 := Nat.ne_of_beq_eq_false hb
                cases hb2 : Nat.ble (cnt * inf.bytes) 140737488355328 && Nat.ble cnt 1000000 && Nat.beq z.cells.size inf.size with
                | false => rw [hb2] at hr; simp only [cond_false] at hr; cases hr
                | true =>
                  rw [hb2] at hr
                  simp only [cond_true, fL_eq] at hr
                  obtain ⟨h', hk, hg⟩ := Tr.setK_some hr
                  simp only [Bool.and_eq_true, Nat.beq_eq, Nat.ble_eq] at hb2
                  obtain ⟨⟨hb3, hb4⟩, hb5⟩ := hb2
                  have hrun := run_append_grow_src (P := P) w t tx o.type e inf z hu hi hz none 0 0 [] (run_firstCells_none w.drew inf.size 0 0 0) (τ x) cnt news hn2 (by omega) (by omega) (growslice_fits (by omega) (by simpa using hb3))
                  have hge := grownCap_ge w (0 + cnt) 0 e
                  have hnl := hn2.newsLen
                  refine ⟨_, h', _, hk, put1 m n ⟨w.heap.size, 0, grownCap w (0 + cnt) 0 e⟩, w.drew.alloc (.cells (([] ++ news).toArray ++ Builtin.zeroCells z.cells (grownCap w (0 + cnt) 0 e - (0 + cnt))) e), ⟨put1_le hd, rfl, rfl, rfl, by simp, fun b hb' _ => Below.heap_alloc w.drew _ b (by simpa using hb'), fun i l hl => ?_⟩, HR.add hH hd ?_ (fun i o' l' h1 h2 => ?_) (fun b hb' _ => Below.heap_alloc w.drew _ b (by simpa using hb')) (by simp) hg, put1_dom hd, _, ?_, hop (by rw [hv]; exact hrun)⟩
                  · unfold put1 at hl
                    split at hl
                    · cases hl; exact .inr (.inr ⟨Nat.le_refl _, by simp⟩)
                    · exact .inl hl
                  · refine ⟨([] ++ news).toArray ++ Builtin.zeroCells z.cells (grownCap w (0 + cnt) 0 e - (0 + cnt)), news, (0, 0), heap_alloc_new w.drew _, .inl rfl, VRs.mono (put1_le hd) hn1, ?_, (fun h0 => absurd h0 hne0), fun j v hj => ?_⟩
                    · simp only [Nat.zero_add, List.nil_append, Array.size_append, List.size_toArray, size_zeroCells, hb5, hnl, ← Nat.add_mul]
                      rw [Nat.zero_add] at hge
                      rw [Nat.add_sub_of_le hge]; exact Nat.le_refl _
                    · have hjl := (List.getElem?_eq_some_iff.1 hj).1
                      simp only [Nat.zero_add, List.nil_append]
                      rw [Array.getElem?_append_left (by simpa using hjl)]
                      simpa using hj
                  · obtain ⟨l2, h3, h4⟩ := hH.at_ i o' h1
                    rw [h2] at h3; cases h3
                    have := h4.lt
                    simp only; omega
                  · simp only [VR]
                    exact ⟨⟨w.heap.size, 0, grownCap w (0 + cnt) 0 e⟩, by simp [put1], by simpa using hge, by simp⟩
            · rename_i i a off len hs
              have hv := hρ s _ hs
              have hv0 := hv
              simp only [VR] at hv
              obtain ⟨l, hm, hcl, hv⟩ := hv
              cases hb : Nat.beq cnt 0 with
              | true =>
                rw [hb] at hr
                simp only [cond_true] at hr
                have := Nat.eq_of_beq_eq_true hb
                subst this
                have hnil : news = [] := List.eq_nil_of_length_eq_zero (by rw [hn2.newsLen]; simp)
                refine ⟨_, h, n, hr, m, w, Upd.refl m w, hH, hd, _, hv0, hop ?_⟩
                rw [hv]
                have hle : len ≤ l.c - a := by omega
                have hcells := hn2.cells
                rw [hnil] at hcells
                rcases hn2.kind with ⟨e', hk⟩ | hk <;> simp [Builtin.append_, run_underlying hu, run_underlying hk, sizeOf, typeInfo, hi, hn2.len, hle, hcells, storeCells]
              | false =>
                rw [hb] at hr
                simp only [cond_false] at hr
                have hc0 := Nat.ne_of_beq_eq_false hb
                split at hr
                · rename_i e' sz cs hhi
                  cases hb2 : Nat.beq e' e && Nat.beq sz inf.size && Nat.beq off (a * sz) && Nat.beq ((cs.drop off).take (len * sz)).length (len * sz) && Nat.ble ((len + cnt) * inf.bytes) 140737488355328 && Nat.ble (len + cnt) 1000000 && Nat.beq z.cells.size inf.size && Nat.blt i n with
                  | false => rw [hb2] at hr; simp only [cond_false] at hr; cases hr
                  | true =>
                    rw [hb2] at hr
                    simp only [cond_true, fL_eq, fN_eq] at hr
                    obtain ⟨h1, hk1, hg1⟩ := Tr.setK_some hr
                    obtain ⟨h', hk, hg⟩ := Tr.setK_some hk1
                    simp only [Bool.and_eq_true, Nat.beq_eq, Nat.ble_eq, blt_iff, decide_eq_true_eq] at hb2
                    obtain ⟨⟨⟨⟨⟨⟨⟨rfl, rfl⟩, rfl⟩, hb3⟩, hb4⟩, hb5⟩, hb6⟩, hb7⟩ := hb2
                    obtain ⟨l', hm', hor⟩ := hH.at_ i _ hhi
                    rw [hm] at hm'; cases hm'
                    obtain ⟨olds, ho1, ho2⟩ := or_cells hor (a * inf.size) (len * inf.size)
                    have hol : olds.length = len * inf.size := by rw [ho1.len]; exact hb3
                    obtain ⟨arr, vs, fr, q1, q2, q3, q4, q6, q5⟩ := hor
                    have hnl := hn2.newsLen
                    have hH1 : HR m h1.get w := hH.drop hg1
                    have hnoi : ∀ j o' l', h1.get j = some o' → m j = some l' → j ≠ i ∧ l'.b ≠ l.b := by
                      intro j o' l' hj hl'
                      rw [hg1] at hj
                      split at hj
                      · cases hj
                      · rename_i hne
                        exact ⟨hne, hH.sep j i o' _ l' l hne hj hhi hl' hm⟩
                    by_cases hroom : len + cnt ≤ l.c - a
                    · have hfit : l.o + a * inf.size + len * inf.size + news.length ≤ arr.size := by
                        have h2 : (a + (len + cnt)) * inf.size ≤ l.c * inf.size := Nat.mul_le_mul_right _ (by omega)
                        rw [Nat.add_mul, Nat.add_mul] at h2
                        rw [hnl]; omega
                      have hrun := run_append_room_src (P := P) w t tx o.type e' inf hu hi l.b (l.o + a * inf.size) len (l.c - a) (τ x) cnt news hn2 hroom
                        (fun j hj => by rw [cell_of_row w l.b _ arr _ fr q1]; simp; omega) (fun j hj => not_frozen q1 q2 (by omega))
                      obtain ⟨b1, b2, b3, b4, b5, b6⟩ := setCells_row news q1 (p := l.o + a * inf.size + len * inf.size) hfit
                      refine ⟨_, h', _, hk, put1 m n ⟨l.b, l.o + a * inf.size, l.c - a⟩, w.setCells l.b (l.o + a * inf.size + len * inf.size) news, ⟨put1_le hd, b3, b4, b5, by rw [b2]; exact Nat.le_refl _, fun b hb' hnb => b6 b fun e2 => hnb i l hm e2.symm, fun j lj hl => ?_⟩, HR.add hH1 hd ?_ (fun j o' lj h2 h3 => (hnoi j o' lj h2 h3).2) (fun b hb' hne => b6 b hne) (by rw [b2]; exact Nat.le_refl _) hg, put1_dom hd, _, ?_, hop (by rw [hv]; exact hrun)⟩
                      · unfold put1 at hl
                        split at hl
                        · cases hl; exact .inr (.inl ⟨i, l, hm, rfl⟩)
                        · exact .inl hl
                      · refine ⟨_, olds ++ news, fr, b1, by simpa [putV_len] using q2, VRs.append (VRs.mono (put1_le hd) ho1) (VRs.mono (put1_le hd) hn1), ?_, (fun h0 => absurd h0 hne0), fun j v hj => ?_⟩
                        · simp only [List.size_toArray, putV_len, Array.length_toList]
                          have : a * inf.size + (l.c - a) * inf.size = l.c * inf.size := by rw [← Nat.add_mul]; congr 1; omega
                          omega
                        · dsimp only
                          rw [List.getElem?_toArray, putV_get (by simpa using hfit)]
                          rw [List.getElem?_append] at hj
                          split at hj
                          · rename_i hlt
                            rw [if_neg (by omega)]
                            have := ho2 j v hj
                            rw [cell_of_row w l.b _ arr _ fr q1] at this
                            simpa using this
                          · rename_i hlt
                            have hjl := (List.getElem?_eq_some_iff.1 hj).1
                            rw [if_pos (by omega)]
                            have : l.o + a * inf.size + j - (l.o + a * inf.size + len * inf.size) = j - olds.length := by omega
                            rw [this]; exact hj
                      · simp only [VR]
                        exact ⟨⟨l.b, l.o + a * inf.size, l.c - a⟩, by simp [put1], by simpa using hroom, by simp⟩
                    · have hlt : l.c - a < len + cnt := by omega
                      have hfc := run_firstCells_some (P := P) w.drew inf.size len ⟨l.b, l.o + a * inf.size, none⟩ len (l.c - a) olds hol (fun j u hj => by rw [add_addr]; simpa using ho2 j u hj)
                      have hrun := run_append_grow_src (P := P) w t tx o.type e' inf z hu hi hz (some ⟨l.b, l.o + a * inf.size, none⟩) len (l.c - a) olds hfc (τ x) cnt news hn2 hlt (by omega) (growslice_fits hlt (by simpa using hb4))
                      have hge := grownCap_ge w (len + cnt) (l.c - a) e'
                      refine ⟨_, h', _, hk, put1 m n ⟨w.heap.size, 0, grownCap w (len + cnt) (l.c - a) e'⟩, w.drew.alloc (.cells ((olds ++ news).toArray ++ Builtin.zeroCells z.cells (grownCap w (len + cnt) (l.c - a) e' - (len + cnt))) e'), ⟨put1_le hd, rfl, rfl, rfl, by simp, fun b hb' _ => Below.heap_alloc w.drew _ b (by simpa using hb'), fun j lj hl => ?_⟩, HR.add hH1 hd ?_ (fun j o' lj h2 h3 => ?_) (fun b hb' _ => Below.heap_alloc w.drew _ b (by simpa using hb')) (by simp) hg, put1_dom hd, _, ?_, hop (by rw [hv]; exact hrun)⟩
                      · unfold put1 at hl
                        split at hl
                        · cases hl; exact .inr (.inr ⟨Nat.le_refl _, by simp⟩)
                        · exact .inl hl
                      · refine ⟨(olds ++ news).toArray ++ Builtin.zeroCells z.cells (grownCap w (len + cnt) (l.c - a) e' - (len + cnt)), olds ++ news, (0, 0), heap_alloc_new w.drew _, .inl rfl, VRs.append (VRs.mono (put1_le hd) ho1) (VRs.mono (put1_le hd) hn1), ?_, (fun h0 => absurd h0 hne0), fun j v hj => ?_⟩
                        · simp only [Nat.zero_add, Array.size_append, List.size_toArray, List.length_append, size_zeroCells, hb6, hnl, hol, ← Nat.add_mul]
                          rw [Nat.add_sub_of_le hge]; exact Nat.le_refl _
                        · have hjl := (List.getElem?_eq_some_iff.1 hj).1
                          rw [Nat.zero_add, Array.getElem?_append_left (by simpa using hjl)]
                          simpa using hj
                      · obtain ⟨l2, h4, h5⟩ := hH1.at_ j o' h2
                        rw [h3] at h4; cases h4
                        have := h5.lt
                        simp only; omega
                      · simp only [VR]
                        exact ⟨⟨w.heap.size, 0, grownCap w (len + cnt) (l.c - a) e'⟩, by simp [put1], by simpa using hge, by simp⟩
                · cases hr
            · cases hr
          · cases hr
        · cases hr
      · cases hr
    · cases hr
  · cases hr
end
end Go.Ev
end
section
set_option linter.unusedVariables false
set_option linter.unusedSimpArgs false
namespace Go.Ev
open Go Go.RowKit Go.Dk
theorem liesAt_at {P : Program} {e : TypeId} (hc : P.cellsOf e = 1) (count off n : Nat) (hn : off + n ≤ count) : liesAt P P.depth e count off e n = true := by
  have hd : P.depth = (2 * (P.types.size + Made.depth) + 1) + 1 := rfl
  rw [hd]
  simp only [liesAt, Bool.or_eq_true]
  left
  rw [hd]
  simp [rowAt, hc, hn, sameLayout, Nat.mod_one]
theorem run_loadBytesI {P : Program} (w : World) : ∀ (l : List Int) (a : Addr) (acc : ByteArray), (∀ j x, l[j]? = some x → w.cell? (a.add j) = some (.int .u8 x)) →
    (loadBytes a acc l.length).run P w = .ok ⟨acc.data ++ (l.map fun k => UInt8.ofNat k.toNat).toArray⟩ w
  | [], a, acc, _ => by simp [loadBytes]
  | x :: l, a, acc, h => by
    have h0 : w.cell? a = some (.int .u8 x) := by
      have := h 0 x rfl
      simpa [Addr.add] using this
    have ih := run_loadBytesI (P := P) w l (a.add 1) (acc.push (UInt8.ofNat x.toNat)) (fun j y hy => by
      have := h (j + 1) y (by simpa using hy)
      have e : (a.add 1).add j = a.add (j + 1) := by
        unfold Addr.add
        by_cases hj : j = 0
        · subst hj; simp
        · simp [hj]; omega
      rw [e]; exact this)
    have hx : (x.toNat).toUInt8 = UInt8.ofNat x.toNat := rfl
    simp only [List.length_cons, loadBytes, Sem.run_bind, run_load, h0, Result.andThen, hx]
    rw [ih]
    congr 1
    apply ByteArray.ext
    simp [ByteArray.push]
theorem run_unsafeStringI {P : Program} (w : World) (pt it ty e : TypeId) (hp : P.underlying pt = some (.pointer e)) (hc : P.cellsOf e = 1) (a : Addr) (hsp : a.spot = none) (cells : Nat) (hsh : w.shape? a.block = some (e, cells)) (l : List Int) (h0 : l.length ≠ 0) (hn : a.off + l.length ≤ cells)
    (h63 : l.length ≤ 9223372036854775807) (hcell : ∀ j x, l[j]? = some x → w.cell? (a.add j) = some (.int .u8 x)) :
    (Builtin.unsafeString_ #[pt, it] ty #[.pointer (some a), .int .i64 l.length]).run P w = .ok (.string (bytesOf l)) (w.freeze a l.length) := by
  have hlb := run_loadBytesI (P := P) w l a .empty hcell
  have hlies := liesAt_at (P := P) hc (cells / P.cellsOf e) a.off l.length (by rw [hc]; simpa using hn)
  have h63' : ¬ (9223372036854775807 : Int) < (l.length : Int) := by omega
  obtain ⟨e1, e2, e3, hdef⟩ : ∃ e1 e2 e3, Builtin.unsafeString_ #[pt, it] ty #[.pointer (some a), .int .i64 l.length] =
      (do
        let n ← asInt (.int .i64 l.length)
        if n < 0 then runtimePanic e1
        if n > IntKind.i64.max then unsupported e2
        if n = 0 then pure (.string .empty)
        else if ← variablesAt a (← elemOf pt) n.toNat then do
          let s ← loadBytes a .empty n.toNat
          freeze a n.toNat
          pure (.string s)
        else unsupported e3) := ⟨_, _, _, rfl⟩
  rw [hdef]
  have hmax : IntKind.i64.max = 9223372036854775807 := rfl
  have hneg : ¬ (l.length : Int) < 0 := by omega
  simp [asInt, asIntOf, hmax, h63', hneg, h0, variablesAt, hsh, elemOf, run_underlying hp, hlies, hlb, bytesOf]
section
variable {P : Program} {m : LM} {w : World} {τ : Operand → Value} {ρ : Operand → Option AV} {o : Oper} {n : Nat} {β : Type} {h : Tr AO}
def hStr (P : Program) (h : Tr AO) (n : Nat) (ρ : Operand → Option AV) (c : Call) (k : AV → Tr AO → Nat → Option β) : Option β :=
  match c.callee, c.args.toList, c.argTypes.toList with
  | .builtin .unsafeString, [x, y], [tp, ti] => match ρ x, ρ y, P.underlying tp with
    | some (.ptr i off), some (.lit (.int .i64 (.ofNat len))), some (.pointer e) => match h.get i with
      | some (.row e' sz cs) => match byteL ((cs.drop off).take len) with
        | some ns => bif Nat.beq e' e && Nat.beq (P.cellsOf e) 1 && Nat.beq ns.length len && Nat.blt 0 len && Nat.ble len 1000000 then Tr.setK none 40 h i fun h => k (.lit (.string (bytesOf ns))) h n else none
        | none => none
      | _ => none
    | _, _, _ => none
  | _, _, _ => none
theorem freeze_heap (a : Addr) (k : Nat) : (w.freeze a k).os = w.os ∧ (w.freeze a k).tape = w.tape ∧ (w.freeze a k).output = w.output ∧ (w.freeze a k).heap.size = w.heap.size ∧ ∀ b, b ≠ a.block → (w.freeze a k).heap[b]? = w.heap[b]? := by
  unfold World.freeze
  split
  · exact ⟨rfl, rfl, rfl, rfl, fun _ _ => rfl⟩
  · refine ⟨rfl, rfl, rfl, by simp, fun b hb => ?_⟩
    simp only [Array.getElem?_modify]
    rw [if_neg (fun e => hb e.symm)]
theorem hStr_ok {c : Call} {k : AV → Tr AO → Nat → Option β} {r : β} (hH : HR m h.get w) (hd : Dom m n) (hρ : RK m ρ τ) (hr : hStr P h n ρ c k = some r) (ho : o.op = .call c) :
    ∃ a h' n', k a h' n' = some r ∧ HOk P m w τ o h'.get n' (some a) := by
  unfold hStr at hr
  split at hr
  · rename_i x y tp ti hcal hargs htys
    obtain ⟨ce, az, ats⟩ := c
    simp only at hcal hargs htys
    subst hcal
    have e1 : az = #[x, y] := by apply Array.ext'; simpa using hargs
    have e2 : ats = #[tp, ti] := by apply Array.ext'; simpa using htys
    subst e1 e2
    split at hr
    · rename_i i off len e hx hy hu
      have hv := hρ x _ hx
      have hv2 := hρ y _ hy
      simp only [VR] at hv hv2
      obtain ⟨l, hm, hv⟩ := hv
      split at hr
      · rename_i e' sz cs hi
        obtain ⟨l', hm', hor⟩ := hH.at_ i _ hi
        rw [hm] at hm'; cases hm'
        split at hr
        · rename_i ns hns
          cases hb : Nat.beq e' e && Nat.beq (P.cellsOf e) 1 && Nat.beq ns.length len && Nat.blt 0 len && Nat.ble len 1000000 with
          | false => rw [hb] at hr; simp only [cond_false] at hr; cases hr
          | true =>
            rw [hb] at hr
            simp only [cond_true] at hr
            obtain ⟨h', hk, hg⟩ := Tr.setK_some hr
            simp only [Bool.and_eq_true, Nat.beq_eq, Nat.ble_eq, blt_iff, decide_eq_true_eq] at hb
            obtain ⟨⟨⟨⟨rfl, hb2⟩, rfl⟩, hb4⟩, hb5⟩ := hb
            obtain ⟨vs, g1, g2⟩ := or_cells hor off ns.length
            have hvs := byteL_rel g1 hns
            obtain ⟨arr, us, fr, h1, h2, h3, h4, h6, h5⟩ := hor
            have hcell : ∀ j z, ns[j]? = some z → w.cell? ((⟨l.b, l.o + off, none⟩ : Addr).add j) = some (.int .u8 z) := by
              intro j z hj
              rw [add_addr]
              refine g2 j _ ?_
              rw [hvs, List.getElem?_map, hj]; rfl
            have hin : l.o + off + ns.length ≤ arr.size := by
              have hj : ns[ns.length - 1]? = some ns[ns.length - 1] := List.getElem?_eq_getElem (by omega)
              have := hcell _ _ hj
              rw [add_addr, cell_of_row w l.b _ arr _ fr h1] at this
              have := (Array.getElem?_eq_some_iff.1 this).1
              omega
            have hrun := run_unsafeStringI (P := P) w tp ti o.type e' hu hb2 ⟨l.b, l.o + off, none⟩ rfl arr.size (shape_of h1) ns (by omega) hin (by omega) hcell
            obtain ⟨f1, f2, f3, f4, f5⟩ := freeze_heap (w := w) ⟨l.b, l.o + off, none⟩ ns.length
            refine ⟨_, h', n, hk, m, w.freeze ⟨l.b, l.o + off, none⟩ ns.length, ⟨Le.refl m, f1, f2, f3, by rw [f4]; exact Nat.le_refl _, fun b hb hn => f5 b fun e => hn i l hm e.symm, fun _ _ hh => .inl hh⟩, ?_, hd, _, VR.lit _, ?_⟩
            · have key : ∀ {j o}, h'.get j = some o → j ≠ i ∧ h.get j = some o := by
                intro j o hj
                rw [hg] at hj
                split at hj
                · cases hj
                · rename_i hne; exact ⟨hne, hj⟩
              refine ⟨fun j o hj => ?_, fun j j' o o' l1 l2 hne hj hj' q1 q2 => hH.sep j j' o o' l1 l2 hne (key hj).2 (key hj').2 q1 q2, fun j lj hj => by rw [f4]; exact hH.bb j lj hj⟩
              obtain ⟨hne, hj2⟩ := key hj
              obtain ⟨l', q1, q2⟩ := hH.at_ j o hj2
              exact ⟨l', q1, q2.keep (f5 _ (hH.sep j i o _ l' l hne hj2 hi q1 hm))⟩
            · unfold execOp; rw [ho]
              have hv2' : τ y = .int .i64 (ns.length : Int) := hv2
              simp [resolve, invoke, builtin, hv, hv2', hrun]
        · cases hr
      · cases hr
    · cases hr
  · cases hr
theorem hStr_k {c : Call} {k : Option AV → Tr AO → Nat → Option β} {kp : AV → Tr AO → Nat → Option β} {r : β} (hr : hStr P h n ρ c (fun a h n => k (some a) h n) = some r) :
    (∃ av h' n', k av h' n' = some r) ∨ (∃ x h' n', kp x h' n' = some r) := by
  unfold hStr at hr
  split at hr
  · split at hr
    · split at hr
      · split at hr
        · rename_i ns hns
          cases hb : Nat.beq _ _ && Nat.beq (P.cellsOf _) 1 && Nat.beq ns.length _ && Nat.blt 0 _ && Nat.ble _ 1000000 with
          | false => rw [hb] at hr; simp only [cond_false] at hr; cases hr
          | true =>
            rw [hb] at hr
            simp only [cond_true] at hr
            obtain ⟨h', hk, _⟩ := Tr.setK_some hr
            exact .inl ⟨_, _, _, hk⟩
        · cases hr
      · cases hr
    · cases hr
  · cases hr
def hBlt (P : Program) (h : Tr AO) (n : Nat) (ρ : Operand → Option AV) (c : Call) (k : AV → Tr AO → Nat → Option β) : Option β :=
  match c.callee with
  | .builtin .unsafeString => hStr P h n ρ c k
  | _ => hApp P h n ρ c k
theorem hBlt_ok {c : Call} {k : AV → Tr AO → Nat → Option β} {r : β} (hH : HR m h.get w) (hd : Dom m n) (hρ : RK m ρ τ) (hr : hBlt P h n ρ c k = some r) (ho : o.op = .call c) :
    ∃ a h' n', k a h' n' = some r ∧ HOk P m w τ o h'.get n' (some a) := by
  unfold hBlt at hr
  split at hr
  · exact hStr_ok hH hd hρ hr ho
  · exact hApp_ok hH hd hρ hr ho
end
end Go.Ev
end
