/-
  One operation that changes nothing that is there: what it yields, reckoned on values with numbered places.
-/
import Derived.Test.YthiafbkolhnadaaGreatDoorEa
import Derived.Orders
set_option linter.unusedVariables false
set_option linter.unusedSimpArgs false
namespace Go.Ev
open Go Go.RowKit Go.Dk

/-! ### closed values -/
mutual
def AV.clos : AV → Option Value
  | .lit v => some v
  | .agg l => match AV.closL l with | some vs => some (.agg vs.toArray) | none => none
  | .tup l => match AV.closL l with | some vs => some (.tuple vs.toArray) | none => none
  | .ifc t x => match AV.clos x with | some v => some (.iface t v) | none => none
  | _ => none
def AV.closL : List AV → Option (List Value)
  | [] => some []
  | a :: l => match AV.clos a with
    | some v => match AV.closL l with | some vs => some (v :: vs) | none => none
    | none => none
end
mutual
theorem clos_eq {m : LM} : ∀ {a : AV} {v v' : Value}, VR m a v → a.clos = some v' → v = v'
  | .lit x, v, v', h, e => by simp only [VR] at h; simp only [AV.clos, Option.some.injEq] at e; rw [h, e]
  | .agg l, v, v', h, e => by
    simp only [VR] at h
    obtain ⟨vs, rfl, h⟩ := h
    simp only [AV.clos] at e
    cases hl : AV.closL l with
    | none => simp [hl] at e
    | some us => simp only [hl, Option.some.injEq] at e; subst e; rw [closL_eq h hl]
  | .tup l, v, v', h, e => by
    simp only [VR] at h
    obtain ⟨vs, rfl, h⟩ := h
    simp only [AV.clos] at e
    cases hl : AV.closL l with
    | none => simp [hl] at e
    | some us => simp only [hl, Option.some.injEq] at e; subst e; rw [closL_eq h hl]
  | .ifc t x, v, v', h, e => by
    simp only [VR] at h
    obtain ⟨vs, rfl, h⟩ := h
    simp only [AV.clos] at e
    cases hl : AV.clos x with
    | none => simp [hl] at e
    | some us => simp only [hl, Option.some.injEq] at e; subst e; rw [clos_eq h hl]
  | .ptr _ _, v, v', h, e => by simp [AV.clos] at e
  | .slc _ _ _ _, v, v', h, e => by simp [AV.clos] at e
  | .ref _, v, v', h, e => by simp [AV.clos] at e
  | .clo _ _, v, v', h, e => by simp [AV.clos] at e
theorem closL_eq {m : LM} : ∀ {l : List AV} {vs us : List Value}, VRs m l vs → AV.closL l = some us → vs = us
  | [], vs, us, h, e => by simp only [VRs] at h; simp only [AV.closL, Option.some.injEq] at e; rw [h, e]
  | a :: l, vs, us, h, e => by
    simp only [VRs] at h
    obtain ⟨v, t, rfl, h1, h2⟩ := h
    simp only [AV.closL] at e
    cases ha : AV.clos a with
    | none => simp [ha] at e
    | some v' =>
      cases hl : AV.closL l with
      | none => simp [ha, hl] at e
      | some us' => simp only [ha, hl, Option.some.injEq] at e; subst e; rw [clos_eq h1 ha, closL_eq h2 hl]
end

/-! ### what an operation yields -/
inductive LR where
  | val (a : AV)
  | new (a : AV) (o : AO)
/-- a world with one block more -/
structure Grow (w w' : World) : Prop where
  os : w'.os = w.os
  tape : w'.tape = w.tape
  output : w'.output = w.output
  size : w'.heap.size = w.heap.size + 1
  keep : ∀ b, b < w.heap.size → w'.heap[b]? = w.heap[b]?
theorem Grow.alloc (w : World) (o : Obj) : Grow w (w.alloc o) := ⟨rfl, rfl, rfl, by show (w.heap.push o).size = _; simp, fun b hb => Below.heap_alloc w o b hb⟩
def LOk (P : Program) (m : LM) (w : World) (τ : Operand → Value) (n : Nat) (o : Oper) : LR → Prop
  | .val a => ∃ v, VR m a v ∧ (execOp τ o).run P w = .ok (.value v) w
  | .new a ob => ∃ v w' c, (execOp τ o).run P w = .ok (.value v) w' ∧ Grow w w' ∧ ∀ m', Le m m' → m' n = some ⟨w.heap.size, 0, c⟩ → VR m' a v ∧ OR m' ⟨w.heap.size, 0, c⟩ w' ob
def HK (m : LM) (H : Nat → Option AO) (w : World) : Prop := ∀ i o, H i = some o → ∃ l, m i = some l ∧ OR m l w o
def RK (m : LM) (ρ : Operand → Option AV) (τ : Operand → Value) : Prop := ∀ x a, ρ x = some a → VR m a (τ x)

section
variable {P : Program} {m : LM} {w : World} {τ : Operand → Value} {ρ : Operand → Option AV} {H : Nat → Option AO} {o : Oper} {n : Nat}

theorem or_cell {l : Lc} {e sz : Nat} {cs : List AV} {j : Nat} {a : AV} (h : OR m l w (.row e sz cs)) (hj : cs[j]? = some a) : ∃ v, VR m a v ∧ w.cell? ⟨l.b, l.o + j, none⟩ = some v := by
  obtain ⟨arr, vs, fr, h1, h2, h3, h4, h5⟩ := h
  obtain ⟨v, hv, hr⟩ := h3.get hj
  exact ⟨v, hr, by rw [cell_of_row w l.b _ arr e fr h1]; exact h5 j v hv⟩
theorem or_cells {l : Lc} {e sz : Nat} {cs : List AV} (h : OR m l w (.row e sz cs)) (k s : Nat) : ∃ vs, VRs m ((cs.drop k).take s) vs ∧ RowAt w l.b (l.o + k) vs := by
  obtain ⟨arr, vs, fr, h1, h2, h3, h4, h5⟩ := h
  refine ⟨(vs.drop k).take s, (h3.drop k).take s, fun j x hj => ?_⟩
  rw [cell_of_row w l.b _ arr e fr h1, Nat.add_assoc]
  refine h5 (k + j) x ?_
  rw [List.getElem?_take] at hj
  split at hj
  · rwa [List.getElem?_drop] at hj
  · cases hj

/-- a load -/
def eLoad (P : Program) (H : Nat → Option AO) (t : TypeId) (x : Option AV) : Option LR :=
  match x with
  | some (.ptr i k) => match H i with
    | some (.row _ _ cs) => match P.underlying t with
      | some d => match aggD d with
        | true => match P.info? t with
          | some inf => bif Nat.beq ((cs.drop k).take inf.size).length inf.size then some (.val (.agg ((cs.drop k).take inf.size))) else none
          | none => none
        | false => match cs[k]? with
          | some a => some (.val a)
          | none => none
      | none => none
    | _ => none
  | _ => none
theorem eLoad_ok {t : TypeId} {X : Operand} {r : LR} (hH : HK m H w) (hρ : RK m ρ τ) (h : eLoad P H t (ρ X) = some r) (ho : o.op = .load t X) : LOk P m w τ n o r := by
  unfold eLoad at h
  cases hx : ρ X with
  | none => simp [hx] at h
  | some a =>
    have hv := hρ X a hx
    cases a with
    | ptr i k =>
      simp only [hx] at h
      simp only [VR] at hv
      obtain ⟨l, hm, hv⟩ := hv
      cases hi : H i with
      | none => simp [hi] at h
      | some ob =>
        obtain ⟨l', hm', hor⟩ := hH i ob hi
        rw [hm] at hm'; cases hm'
        cases ob with
        | row e sz cs =>
          simp only [hi] at h
          cases hu : P.underlying t with
          | none => simp [hu] at h
          | some d =>
            simp only [hu] at h
            cases hd : aggD d with
            | true =>
              simp only [hd] at h
              cases hinf : P.info? t with
              | none => simp [hinf] at h
              | some inf =>
                simp only [hinf] at h
                cases hb : Nat.beq ((cs.drop k).take inf.size).length inf.size with
                | false => rw [hb] at h; simp only [cond_false] at h; cases h
                | true =>
                  simp only [hb, cond_true, Option.some.injEq] at h
                  subst h
                  obtain ⟨vs, h1, h2⟩ := or_cells hor k inf.size
                  refine ⟨.agg vs.toArray, by simp only [VR]; exact ⟨vs, rfl, h1⟩, ?_⟩
                  exact v_load ho hv hu hd (k := inf.size) (by simp [hinf]) h2 (by rw [h1.len]; exact Nat.eq_of_beq_eq_true hb)
            | false =>
              simp only [hd] at h
              cases hk : cs[k]? with
              | none => simp [hk] at h
              | some a =>
                simp only [hk, Option.some.injEq] at h
                subst h
                obtain ⟨v, h1, h2⟩ := or_cell hor hk
                exact ⟨v, h1, v_load1 ho hv hu hd h2⟩
        | map es => simp [hi] at h
        | iter s p => simp [hi] at h
    | _ => simp [hx] at h

/-- a variable of its own -/
def eAlloc (P : Program) (n : Nat) (t : TypeId) : Option LR :=
  match P.info? t with
  | some inf => match inf.zero with
    | some v => some (.new (.ptr n 0) (.row t 0 (v.cells.toList.map .lit)))
    | none => none
  | none => none
theorem row_new {m' : LM} {e sz c : Nat} {cs : List AV} {vs : List Value} (h : VRs m' cs vs) (hc : c * sz ≤ vs.length) : OR m' ⟨w.heap.size, 0, c⟩ (w.alloc (.cells vs.toArray e)) (.row e sz cs) :=
  ⟨vs.toArray, vs, (0, 0), heap_alloc_new w _, .inl rfl, h, by simpa using hc, fun j v hj => by simpa using hj⟩
theorem eAlloc_ok {t : TypeId} {r : LR} (h : eAlloc P n t = some r) (ho : o.op = .alloc t) : LOk P m w τ n o r := by
  unfold eAlloc at h
  cases hi : P.info? t with
  | none => simp [hi] at h
  | some inf =>
    simp only [hi] at h
    cases hz : inf.zero with
    | none => simp [hz] at h
    | some v =>
      simp only [hz, Option.some.injEq] at h
      subst h
      refine ⟨.pointer (some ⟨w.heap.size, 0, none⟩), w.alloc (.cells v.cells t), 0, ?_, Grow.alloc _ _, fun m' hle hn => ⟨by simp only [VR]; exact ⟨_, hn, by simp⟩, ?_⟩⟩
      · unfold execOp; rw [ho]
        simp [Instr.alloc, zeroValue, typeInfo, hi, hz, newVar, newRow]
      · have := row_new (w := w) (m' := m') (e := t) (sz := 0) (c := 0) (VRs.lits v.cells.toList) (by simp)
        simpa using this
def eBox (n : Nat) (t : TypeId) (x : Option AV) : Option LR :=
  match x with
  | some a => some (.new (.ptr n 0) (.row t 0 a.cells))
  | none => none
theorem eBox_ok {t : TypeId} {X : Operand} {r : LR} (hρ : RK m ρ τ) (h : eBox n t (ρ X) = some r) (ho : o.op = .box t X) : LOk P m w τ n o r := by
  unfold eBox at h
  cases hx : ρ X with
  | none => simp [hx] at h
  | some a =>
    simp only [hx, Option.some.injEq] at h
    subst h
    refine ⟨.pointer (some ⟨w.heap.size, 0, none⟩), w.alloc (.cells (τ X).cells t), 0, ?_, Grow.alloc _ _, fun m' hle hn => ⟨by simp only [VR]; exact ⟨_, hn, by simp⟩, ?_⟩⟩
    · unfold execOp; rw [ho]; simp [run_box]
    · have := row_new (w := w) (m' := m') (e := t) (sz := 0) (c := 0) (VRs.mono hle (hρ X a hx).cells) (by simp)
      simpa using this

/-! ### parts put together -/
def putA : Nat → List AV → List AV → List AV
  | _, [], cs => cs
  | k, x :: c, cs => putA (k + 1) c (cs.set k x)
def putV : Nat → List Value → List Value → List Value
  | _, [], cs => cs
  | k, x :: c, cs => putV (k + 1) c (cs.set k x)
theorem put_rel : ∀ {c : List AV} {vc : List Value} {k : Nat} {cs : List AV} {vs : List Value}, VRs m c vc → VRs m cs vs → VRs m (putA k c cs) (putV k vc vs)
  | [], vc, k, cs, vs, h, h' => by simp only [VRs] at h; subst h; exact h'
  | x :: c, vc, k, cs, vs, h, h' => by
    simp only [VRs] at h
    obtain ⟨v, t, rfl, h1, h2⟩ := h
    show VRs m (putA (k + 1) c (cs.set k x)) (putV (k + 1) t (vs.set k v))
    exact put_rel h2 (h'.set h1)
theorem putV_len : ∀ {c : List Value} {k : Nat} {cs : List Value}, (putV k c cs).length = cs.length
  | [], k, cs => rfl
  | x :: c, k, cs => by simp [putV, putV_len]
theorem putV_get : ∀ {c : List Value} {k : Nat} {cs : List Value} {i : Nat}, k + c.length ≤ cs.length → (putV k c cs)[i]? = if k ≤ i ∧ i < k + c.length then c[i - k]? else cs[i]?
  | [], k, cs, i, h => by
    have : ¬ (k ≤ i ∧ i < k + ([] : List Value).length) := by simp only [List.length_nil]; omega
    rw [if_neg this]; rfl
  | x :: c, k, cs, i, h => by
    simp only [List.length_cons] at h ⊢
    simp only [putV]
    rw [putV_get (by simp; omega)]
    by_cases h1 : k + 1 ≤ i ∧ i < k + 1 + c.length
    · rw [if_pos h1, if_pos (by omega)]
      have : i - k = (i - (k + 1)) + 1 := by omega
      rw [this]; simp
    · rw [if_neg h1, List.getElem?_set]
      by_cases h2 : k = i
      · subst h2; rw [if_pos rfl, if_pos (by omega), if_pos (by omega)]; simp
      · rw [if_neg h2, if_neg (by omega)]
theorem fold_put : ∀ (c : List Value) (i off : Nat) (cs : Array Value), (c.zipIdx i).foldl (fun (cs : Array Value) (p : Value × Nat) => cs.setIfInBounds (off + p.2) p.1) cs = (putV (off + i) c cs.toList).toArray
  | [], i, off, cs => by simp [putV]
  | x :: c, i, off, cs => by
    simp only [List.zipIdx_cons, List.foldl_cons, putV]
    rw [fold_put c (i + 1) off]
    simp [Nat.add_assoc]
def fillA (place : Nat → Option (Nat × Nat)) (cs : List AV) : List (Nat × AV) → Option (List AV)
  | [] => some cs
  | (i, v) :: rest => match place i with
    | none => none
    | some (off, size) => bif Nat.beq v.cells.length size then (bif Nat.ble (off + size) cs.length then fillA place (putA off v.cells cs) rest else none) else none
def PRs (m : LM) : List (Nat × AV) → List (Nat × Value) → Prop
  | [], l => l = []
  | (i, a) :: r, l => ∃ v t, l = (i, v) :: t ∧ VR m a v ∧ PRs m r t
theorem fill_rel {place : Nat → Option (Nat × Nat)} : ∀ {ps : List (Nat × AV)} {qs : List (Nat × Value)} {cs r : List AV} {vs : List Value}, PRs m ps qs → VRs m cs vs → fillA place cs ps = some r →
    ∃ us, Instr.fill place vs.toArray qs = some us.toArray ∧ VRs m r us
  | [], qs, cs, r, vs, h, h', e => by
    simp only [PRs] at h; subst h
    simp only [fillA, Option.some.injEq] at e; subst e
    exact ⟨vs, rfl, h'⟩
  | (i, a) :: ps, qs, cs, r, vs, h, h', e => by
    obtain ⟨v, t, rfl, h1, h2⟩ := h
    simp only [fillA] at e
    cases hp : place i with
    | none => simp [hp] at e
    | some os =>
      obtain ⟨off, size⟩ := os
      simp only [hp] at e
      cases hb : Nat.beq a.cells.length size with
      | false => simp [hb] at e
      | true =>
        cases hb2 : Nat.ble (off + size) cs.length with
        | false => simp [hb, hb2] at e
        | true =>
          simp only [hb, hb2, cond_true] at e
          have hc := h1.cells
          obtain ⟨us, h3, h4⟩ := fill_rel h2 (put_rel (k := off) hc h') e
          refine ⟨us, ?_, h4⟩
          have hl : v.cells.size = size := by rw [← Nat.eq_of_beq_eq_true hb, ← hc.len]; simp
          have hl2 : off + size ≤ vs.length := by rw [h'.len]; exact Nat.le_of_ble_eq_true hb2
          have hf := fold_put v.cells.toList 0 off vs.toArray
          simp only [Nat.add_zero] at hf
          simp only [Instr.fill, hp]
          rw [if_neg (by simp [hl]; omega)]
          have e1 : v.cells.zipIdx.foldl (fun (cs : Array Value) (p : Value × Nat) => cs.setIfInBounds (off + p.2) p.1) vs.toArray = (putV off v.cells.toList vs).toArray := by
            rw [← Array.foldl_toList, Array.toList_zipIdx]; exact hf
          rw [← h3]
          congr 1
def opL (ρ : Operand → Option AV) : List (Nat × Operand) → Option (List (Nat × AV))
  | [] => some []
  | (i, x) :: r => match ρ x with
    | some a => match opL ρ r with | some l => some ((i, a) :: l) | none => none
    | none => none
theorem opL_rel (hρ : RK m ρ τ) : ∀ {l : List (Nat × Operand)} {r : List (Nat × AV)}, opL ρ l = some r → PRs m r (l.map fun p => (p.1, τ p.2))
  | [], r, h => by simp only [opL, Option.some.injEq] at h; subst h; rfl
  | (i, x) :: l, r, h => by
    simp only [opL] at h
    cases hx : ρ x with
    | none => simp [hx] at h
    | some a =>
      cases hl : opL ρ l with
      | none => simp [hx, hl] at h
      | some l' =>
        simp only [hx, hl, Option.some.injEq] at h
        subst h
        exact ⟨τ x, _, rfl, hρ x a hx, opL_rel hρ hl⟩
def opsL (ρ : Operand → Option AV) : List Operand → Option (List AV)
  | [] => some []
  | x :: r => match ρ x with
    | some a => match opsL ρ r with | some l => some (a :: l) | none => none
    | none => none
theorem opsL_rel (hρ : RK m ρ τ) : ∀ {l : List Operand} {r : List AV}, opsL ρ l = some r → VRs m r (l.map τ)
  | [], r, h => by simp only [opsL, Option.some.injEq] at h; subst h; simp [VRs]
  | x :: l, r, h => by
    simp only [opsL] at h
    cases hx : ρ x with
    | none => simp [hx] at h
    | some a =>
      cases hl : opsL ρ l with
      | none => simp [hx, hl] at h
      | some l' =>
        simp only [hx, hl, Option.some.injEq] at h
        subst h
        simp only [List.map_cons, VRs]
        exact ⟨τ x, _, rfl, hρ x a hx, opsL_rel hρ hl⟩

/-- the places of a struct's fields -/
def places (P : Program) : List Field → Option (List (Nat × Nat))
  | [] => some []
  | f :: r => match P.info? f.type with
    | some inf => match places P r with | some l => some ((f.offset, inf.size) :: l) | none => none
    | none => none
theorem places_run : ∀ {l : List Field} {r : List (Nat × Nat)} (acc : Array (Nat × Nat)), places P l = some r →
    (l.foldlM (fun (bs : Array (Nat × Nat)) (f : Field) => do let b ← (do pure (f.offset, ← sizeOf f.type) : Sem (Nat × Nat)); pure (bs.push b)) acc).run P w = .ok (acc ++ r.toArray) w
  | [], r, acc, h => by simp only [places, Option.some.injEq] at h; subst h; simp
  | f :: l, r, acc, h => by
    simp only [places] at h
    cases hi : P.info? f.type with
    | none => simp [hi] at h
    | some inf =>
      cases hl : places P l with
      | none => simp [hi, hl] at h
      | some l' =>
        simp only [hi, hl, Option.some.injEq] at h
        subst h
        have := places_run (acc.push (f.offset, inf.size)) hl
        have h1 : (do pure (f.offset, ← sizeOf f.type) : Sem (Nat × Nat)).run P w = .ok (f.offset, inf.size) w := by simp [sizeOf, typeInfo, hi]
        rw [List.foldlM_cons, Sem.run_bind, Sem.run_bind, h1, Result.andThen_ok, Sem.run_pure, Result.andThen_ok, this]
        simp
def eBuild (P : Program) (ρ : Operand → Option AV) (t : TypeId) (parts : Array (Nat × Operand)) : Option LR :=
  match P.info? t with
  | some inf => match inf.zero with
    | some z => match opL ρ parts.toList with
      | some ps => match P.underlying t with
        | some (.struct fs) => match places P fs.toList with
          | some pl => match fillA (fun i => pl[i]?) (z.cells.toList.map .lit) ps with
            | some cs => some (.val (.agg cs))
            | none => none
          | none => none
        | some (.array _ e) => match P.info? e with
          | some ie => match fillA (fun i => some (i * ie.size, ie.size)) (z.cells.toList.map .lit) ps with
            | some cs => some (.val (.agg cs))
            | none => none
          | none => none
        | _ => none
      | none => none
    | none => none
  | none => none
theorem eBuild_ok {t : TypeId} {parts : Array (Nat × Operand)} {r : LR} (hρ : RK m ρ τ) (h : eBuild P ρ t parts = some r) (ho : o.op = .build t parts) : LOk P m w τ n o r := by
  unfold eBuild at h
  cases hi : P.info? t with
  | none => simp [hi] at h
  | some inf =>
    simp only [hi] at h
    cases hz : inf.zero with
    | none => simp [hz] at h
    | some z =>
      simp only [hz] at h
      cases hp : opL ρ parts.toList with
      | none => simp [hp] at h
      | some ps =>
        simp only [hp] at h
        have hrel := opL_rel hρ hp
        have eparts : (parts.map fun (i, x) => (i, τ x)).toList = parts.toList.map fun p => (p.1, τ p.2) := by simp
        cases hu : P.underlying t with
        | none => simp [hu] at h
        | some d =>
          cases d with
          | struct fs =>
            simp only [hu] at h
            cases hpl : places P fs.toList with
            | none => simp [hpl] at h
            | some pl =>
              simp only [hpl] at h
              cases hf : fillA (fun i => pl[i]?) (z.cells.toList.map .lit) ps with
              | none => simp [hf] at h
              | some cs =>
                simp only [hf, Option.some.injEq] at h
                subst h
                obtain ⟨us, h1, h2⟩ := fill_rel hrel (VRs.lits (m := m) z.cells.toList) hf
                refine ⟨.agg us.toArray, by simp only [VR]; exact ⟨us, rfl, h2⟩, ?_⟩
                have hpr := places_run (w := w) #[] hpl
                have hm : (fs.mapM (m := Sem) fun f => do pure (f.offset, ← sizeOf f.type)).run P w = .ok pl.toArray w := by
                  rw [Array.mapM_eq_foldlM, ← Array.foldlM_toList]
                  simpa using hpr
                unfold execOp; rw [ho]
                simp only [Instr.build, Sem.run_bind, zeroValue, typeInfo]
                simp [hi, hz, run_underlying hu]
                have hm2 : (fs.mapM (m := Sem) fun f => Prod.mk f.offset <$> sizeOf f.type).run P w = .ok pl.toArray w := by simpa using hm
                rw [hm2]
                simp at h1
                simp [h1]
          | array k e =>
            simp only [hu] at h
            cases hie : P.info? e with
            | none => simp [hie] at h
            | some ie =>
              simp only [hie] at h
              cases hf : fillA (fun i => some (i * ie.size, ie.size)) (z.cells.toList.map .lit) ps with
              | none => simp [hf] at h
              | some cs =>
                simp only [hf, Option.some.injEq] at h
                subst h
                obtain ⟨us, h1, h2⟩ := fill_rel hrel (VRs.lits (m := m) z.cells.toList) hf
                refine ⟨.agg us.toArray, by simp only [VR]; exact ⟨us, rfl, h2⟩, ?_⟩
                unfold execOp; rw [ho]
                simp only [Instr.build, Sem.run_bind, zeroValue, typeInfo]
                simp at h1
                simp [hi, hz, run_underlying hu, sizeOf, typeInfo, hie, h1]
          | _ => simp [hu] at h

/-- a slice of given parts -/
def eBsl (P : Program) (ρ : Operand → Option AV) (n : Nat) (t : TypeId) (len : Nat) (parts : Array (Nat × Operand)) : Option LR :=
  match P.underlying t with
  | some (.slice e) => match P.info? e with
    | some inf => match inf.zero with
      | some z => match opL ρ parts.toList with
        | some ps => bif Nat.ble (len * inf.size) 16777216 && Nat.blt 0 (len * inf.size) then
            (match fillA (fun i => some (i * inf.size, inf.size)) ((List.range (len * inf.size)).map fun i => .lit (z.cells[i % z.cells.size]!)) ps with
            | some cs => bif Nat.ble (len * inf.size) cs.length then some (.new (.slc n 0 0 len) (.row e inf.size cs)) else none
            | none => none)
          else none
        | none => none
      | none => none
    | none => none
  | _ => none
theorem eBsl_ok {t : TypeId} {len : Nat} {parts : Array (Nat × Operand)} {r : LR} (hρ : RK m ρ τ) (h : eBsl P ρ n t len parts = some r) (ho : o.op = .buildSlice t len parts) : LOk P m w τ n o r := by
  unfold eBsl at h
  cases hu : P.underlying t with
  | none => simp [hu] at h
  | some d =>
    cases d with
    | slice e =>
      simp only [hu] at h
      cases hi : P.info? e with
      | none => simp [hi] at h
      | some inf =>
        simp only [hi] at h
        cases hz : inf.zero with
        | none => simp [hz] at h
        | some z =>
          simp only [hz] at h
          cases hp : opL ρ parts.toList with
          | none => simp [hp] at h
          | some ps =>
            simp only [hp] at h
            cases hb : Nat.ble (len * inf.size) 16777216 && Nat.blt 0 (len * inf.size) with
            | false => rw [hb] at h; simp only [cond_false] at h; cases h
            | true =>
              rw [hb] at h
              simp only [cond_true] at h
              simp only [Bool.and_eq_true] at hb
              have hb1 : len * inf.size ≤ 16777216 := Nat.le_of_ble_eq_true hb.1
              have hb2 : 0 < len * inf.size := by have := hb.2; rw [blt_iff] at this; simpa using this
              cases hf : fillA (fun i => some (i * inf.size, inf.size)) ((List.range (len * inf.size)).map fun i => AV.lit (z.cells[i % z.cells.size]!)) ps with
              | none => simp [hf] at h
              | some cs =>
                simp only [hf] at h
                cases hl : Nat.ble (len * inf.size) cs.length with
                | false => rw [hl] at h; simp only [cond_false] at h; cases h
                | true =>
                  rw [hl] at h
                  simp only [cond_true, Option.some.injEq] at h
                  subst h
                  have hrel := opL_rel hρ hp
                  have hlits := VRs.lits (m := m) ((List.range (len * inf.size)).map fun i => z.cells[i % z.cells.size]!)
                  rw [List.map_map] at hlits
                  obtain ⟨us, h1, h2⟩ := fill_rel hrel hlits hf
                  have hlen := h2.len
                  refine ⟨.slice (some ⟨w.heap.size, 0, none⟩) len len, w.alloc (.cells us.toArray e), len, ?_, Grow.alloc _ _, fun m' hle hn => ⟨by simp only [VR]; exact ⟨_, hn, by simp, by simp⟩, row_new (VRs.mono hle h2) (by rw [hlen]; exact Nat.le_of_ble_eq_true hl)⟩⟩
                  unfold execOp; rw [ho]
                  have e1 : ¬ (len = 0 ∨ inf.size = 0) := by
                    rintro (h | h) <;> simp [h] at hb2
                  have e2 : ¬ (16777216 < len * inf.size) := by omega
                  have e3 : ((List.range (len * inf.size)).map fun i => z.cells[i % z.cells.size]!).toArray = (Array.range (len * inf.size)).map (z.cells[· % z.cells.size]!) := by apply Array.ext'; simp
                  rw [e3] at h1
                  simp [Instr.buildSlice, run_underlying hu, sizeOf, typeInfo, hi, e1, e2, zeroValue, hz, h1, newRow]
                  intro h; omega
    | _ => simp [hu] at h
end
end Go.Ev
