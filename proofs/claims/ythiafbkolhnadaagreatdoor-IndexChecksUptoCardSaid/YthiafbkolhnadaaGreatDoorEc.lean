/-
  More operations that change nothing that is there.
-/
import Derived.Test.YthiafbkolhnadaaGreatDoorEb
set_option linter.unusedVariables false
set_option linter.unusedSimpArgs false
namespace Go.Ev
open Go Go.RowKit Go.Dk

section
variable {P : Program} {m : LM} {w : World} {τ : Operand → Value} {ρ : Operand → Option AV} {H : Nat → Option AO} {o : Oper} {n : Nat}

/-- the place of a field -/
def eFa (P : Program) (t : TypeId) (x : Option AV) (i : Nat) : Option LR :=
  match x with
  | some (.ptr id k) => match P.underlying t with
    | some (.struct fs) => match fs[i]? with
      | some f => match P.info? f.type with
        | some inf => bif Nat.blt 0 inf.size then some (.val (.ptr id (k + f.offset))) else none
        | none => none
      | none => none
    | _ => none
  | _ => none
theorem eFa_ok {t : TypeId} {X : Operand} {i : Nat} {r : LR} (hρ : RK m ρ τ) (h : eFa P t (ρ X) i = some r) (ho : o.op = .fieldAddr t X i) : LOk P m w τ n o r := by
  unfold eFa at h
  split at h
  · rename_i id k hx
    have hv := hρ X _ hx
    simp only [VR] at hv
    obtain ⟨l, hm, hv⟩ := hv
    split at h
    · rename_i fs hu
      split at h
      · rename_i f hf
        split at h
        · rename_i inf hi
          cases hb : Nat.blt 0 inf.size with
          | false => rw [hb] at h; simp only [cond_false] at h; cases h
          | true =>
            rw [hb] at h
            simp only [cond_true, Option.some.injEq] at h
            subst h
            have hfa : FA P t i f.offset := fa_of (s := inf.size) (tt := f.type) hu (by simp [hf]) (by simp [hi]) hb
            refine ⟨.pointer (some ⟨l.b, l.o + k + f.offset, none⟩), by simp only [VR]; exact ⟨l, hm, by simp [Nat.add_assoc]⟩, ?_⟩
            exact v_fa hfa ho hv
        · cases h
      · cases h
    · cases h
  · cases h

/-- the place of an element -/
def eIa (P : Program) (t : TypeId) (x ix : Option AV) : Option LR :=
  match x, ix with
  | some (.slc id k off len), some (.lit (.int _ (.ofNat j))) => match P.underlying t with
    | some (.slice e) => match P.info? e with
      | some inf => bif Nat.blt j len then some (.val (.ptr id (off + j * inf.size))) else none
      | none => none
    | _ => none
  | _, _ => none
theorem eIa_ok {t : TypeId} {X Y : Operand} {r : LR} (hρ : RK m ρ τ) (h : eIa P t (ρ X) (ρ Y) = some r) (ho : o.op = .indexAddr t X Y) : LOk P m w τ n o r := by
  unfold eIa at h
  split at h
  · rename_i id k off len q j hx hy
    have hv := hρ X _ hx
    have hj := hρ Y _ hy
    simp only [VR] at hv hj
    obtain ⟨l, hm, hc, hv⟩ := hv
    split at h
    · rename_i e hu
      split at h
      · rename_i inf hi
        cases hb : Nat.blt j len with
        | false => rw [hb] at h; simp only [cond_false] at h; cases h
        | true =>
          rw [hb] at h
          simp only [cond_true, Option.some.injEq] at h
          subst h
          rw [blt_iff] at hb
          have hb' : j < len := by simpa using hb
          refine ⟨.pointer (some ⟨l.b, l.o + off + (Int.ofNat j).toNat * inf.size, none⟩), by simp only [VR]; exact ⟨l, hm, by simp [Nat.add_assoc]⟩, ?_⟩
          exact v_ia hu (by simp [hi]) ho hv hj (by simp) (by simp; omega)
      · cases h
    · cases h
  · cases h

/-- a bound of a part -/
def bnd (d : Nat) : Option (Option AV) → Option Nat
  | none => some d
  | some (some (.lit (.int _ (.ofNat j)))) => some j
  | _ => none
theorem bnd_eq {d j : Nat} {L : Option Operand} (hρ : RK m ρ τ) (h : bnd d (L.map ρ) = some j) : (L = none ∧ j = d) ∨ ∃ X q, L = some X ∧ τ X = .int q (j : Int) := by
  cases L with
  | none => simp only [Option.map_none, bnd, Option.some.injEq] at h; exact .inl ⟨rfl, h.symm⟩
  | some X =>
    simp only [Option.map_some] at h
    unfold bnd at h
    split at h
    · rename_i heq; cases heq
    · rename_i q j' heq
      simp only [Option.some.injEq] at heq h
      subst h
      have := hρ X _ heq
      simp only [VR] at this
      exact .inr ⟨X, q, rfl, this⟩
    · cases h
/-- a part of a slice -/
def eSlice (P : Program) (t : TypeId) (x : Option AV) (lo hi : Option (Option AV)) : Option LR :=
  match x with
  | some (.slc id k off len) => match P.underlying t with
    | some (.slice e) => match P.info? e with
      | some inf => match bnd 0 lo with
        | some l => match bnd len hi with
          | some h => bif Nat.ble l h && Nat.ble h len && (Nat.blt l len || Nat.beq l 0) then some (.val (.slc id (k + l) (off + l * inf.size) (h - l))) else none
          | none => none
        | none => none
      | none => none
    | _ => none
  | _ => none
theorem eSlice_ok {t : TypeId} {X : Operand} {lo hi : Option Operand} {r : LR} (hρ : RK m ρ τ) (h : eSlice P t (ρ X) (lo.map ρ) (hi.map ρ) = some r) (ho : o.op = .slice t X lo hi none) : LOk P m w τ n o r := by
  unfold eSlice at h
  split at h
  · rename_i id k off len hx
    have hv := hρ X _ hx
    simp only [VR] at hv
    obtain ⟨c, hm, hc, hv⟩ := hv
    split at h
    · rename_i e hu
      split at h
      · rename_i inf hinf
        split at h
        · rename_i l hl
          split at h
          · rename_i hh hhi
            cases hb : Nat.ble l hh && Nat.ble hh len && (Nat.blt l len || Nat.beq l 0) with
            | false => rw [hb] at h; simp only [cond_false] at h; cases h
            | true =>
              rw [hb] at h
              simp only [cond_true, Option.some.injEq] at h
              subst h
              simp only [Bool.and_eq_true, Bool.or_eq_true, blt_iff, decide_eq_true_eq, Nat.ble_eq, Nat.beq_eq] at hb
              obtain ⟨⟨h1, h2⟩, h3⟩ := hb
              have hadd : (if c.c - k = l then (some ⟨c.b, c.o + off, none⟩ : Option Addr) else (some ((⟨c.b, c.o + off, none⟩ : Addr).add (l * inf.size)))) = some ⟨c.b, c.o + (off + l * inf.size), none⟩ := by
                split
                · have : l = 0 := by omega
                  subst this; simp
                · simp [add_addr, Nat.add_assoc]
              refine ⟨.slice (some ⟨c.b, c.o + (off + l * inf.size), none⟩) (hh - l) (c.c - (k + l)), by simp only [VR]; exact ⟨c, hm, by omega, rfl⟩, ?_⟩
              unfold execOp; rw [ho]
              have h4 : hh ≤ c.c - k := by omega
              have h5 : c.c - k - l = c.c - (k + l) := by omega
              rcases bnd_eq hρ hl with ⟨rfl, rfl⟩ | ⟨L, q, rfl, hL⟩ <;> rcases bnd_eq hρ hhi with ⟨rfl, rfl⟩ | ⟨U, q', rfl, hU⟩
              · simp [Instr.sliceAt, Instr.slice, run_underlying hu, hv, Instr.sliceBounds, sizeOf, typeInfo, hinf]
                intro _; simp [Addr.add]
              · simp [Instr.sliceAt, Instr.slice, run_underlying hu, hv, Instr.sliceBounds, Instr.sliceBound, asIntOf, hU, h4, sizeOf, typeInfo, hinf]
                intro _; simp [Addr.add]
              · simp [Instr.sliceAt, Instr.slice, run_underlying hu, hv, Instr.sliceBounds, Instr.sliceBound, asIntOf, hL, h1, sizeOf, typeInfo, hinf, hadd, h5]
              · simp [Instr.sliceAt, Instr.slice, run_underlying hu, hv, Instr.sliceBounds, Instr.sliceBound, asIntOf, hU, hL, h1, h4, sizeOf, typeInfo, hinf, hadd, h5]
          · cases h
        · cases h
      · cases h
    · cases h
  · cases h

/-- one of several results -/
def eExtract (x : Option AV) (i : Nat) : Option LR :=
  match x with
  | some (.tup l) => match l[i]? with | some a => some (.val a) | none => none
  | _ => none
theorem eExtract_ok {X : Operand} {i : Nat} {r : LR} (hρ : RK m ρ τ) (h : eExtract (ρ X) i = some r) (ho : o.op = .extract X i) : LOk P m w τ n o r := by
  unfold eExtract at h
  split at h
  · rename_i l hx
    have hv := hρ X _ hx
    simp only [VR] at hv
    obtain ⟨vs, hv, hr⟩ := hv
    split at h
    · rename_i a ha
      simp only [Option.some.injEq] at h
      subst h
      obtain ⟨v, h1, h2⟩ := hr.get ha
      exact ⟨v, h2, v_extract ho hv (by simpa using h1)⟩
    · cases h
  · cases h
/-- a field of a struct -/
def eField (P : Program) (t : TypeId) (x : Option AV) (i : Nat) : Option LR :=
  match x with
  | some (.agg l) => match P.underlying t with
    | some (.struct fs) => match fs[i]? with
      | some f => match P.underlying f.type with
        | some d => match aggD d with
          | true => match P.info? f.type with
            | some inf => some (.val (.agg ((l.drop f.offset).take inf.size)))
            | none => none
          | false => match l[f.offset]? with | some a => some (.val a) | none => none
        | none => none
      | none => none
    | _ => none
  | _ => none
theorem eField_ok {t : TypeId} {X : Operand} {i : Nat} {r : LR} (hρ : RK m ρ τ) (h : eField P t (ρ X) i = some r) (ho : o.op = .field t X i) : LOk P m w τ n o r := by
  unfold eField at h
  split at h
  · rename_i l hx
    have hv := hρ X _ hx
    simp only [VR] at hv
    obtain ⟨vs, hv, hr⟩ := hv
    split at h
    · rename_i fs hu
      split at h
      · rename_i f hf
        split at h
        · rename_i d hd
          split at h
          · rename_i hag
            split at h
            · rename_i inf hinf
              simp only [Option.some.injEq] at h
              subst h
              refine ⟨.agg ((vs.drop f.offset).take inf.size).toArray, by simp only [VR]; exact ⟨_, rfl, (hr.drop _).take _⟩, ?_⟩
              unfold execOp; rw [ho]
              have e1 : vs.toArray.extract f.offset (f.offset + inf.size) = ((vs.drop f.offset).take inf.size).toArray := by
                apply Array.ext'; simp
              simp [Instr.field, run_underlying hu, hf, hv, asAgg, part, run_isAgg (w := w) hd, hag, sizeOf, typeInfo, hinf, e1]
            · cases h
          · rename_i hag
            split at h
            · rename_i a ha
              simp only [Option.some.injEq] at h
              subst h
              obtain ⟨v, h1, h2⟩ := hr.get ha
              refine ⟨v, h2, ?_⟩
              unfold execOp; rw [ho]
              simp [Instr.field, run_underlying hu, hf, hv, asAgg, part, run_isAgg (w := w) hd, hag, h1]
            · cases h
        · cases h
      · cases h
    · cases h
  · cases h
/-- a value as one of an interface type -/
def eIface (P : Program) (t : TypeId) (x : Option AV) : Option LR :=
  match x with
  | some a => match P.underlying t with
    | some (.interface _) => none
    | some _ => match a with
      | .lit v => some (.val (.lit (.iface t v)))
      | a => some (.val (.ifc t a))
    | none => none
  | none => none
theorem eIface_ok {t : TypeId} {X : Operand} {r : LR} (hρ : RK m ρ τ) (h : eIface P t (ρ X) = some r) (ho : o.op = .makeInterface t X) : LOk P m w τ n o r := by
  unfold eIface at h
  split at h
  · rename_i a hx
    have hv := hρ X _ hx
    split at h
    · cases h
    · rename_i d hni hu
      have hrun : (execOp τ o).run P w = .ok (.value (.iface t (τ X))) w := by
        unfold execOp; rw [ho]
        simp only [Instr.makeInterface, Sem.run_bind, run_underlying hu, Result.andThen_ok]
        cases d <;> first | rfl | (rename_i ms; exact absurd rfl (hni ms))
      split at h
      · simp only [VR] at hv
        simp only [Option.some.injEq] at h
        subst h
        exact ⟨_, VR.lit _, by rw [hrun, hv]⟩
      · simp only [Option.some.injEq] at h
        subst h
        exact ⟨_, by simp only [VR]; exact ⟨_, rfl, hv⟩, hrun⟩
    · cases h
  · cases h
/-- a closure -/
def eClo (ρ : Operand → Option AV) (f : Fn) (first cap : Array Operand) : Option LR :=
  match f, first.toList with
  | .func k, [] => match opsL ρ cap.toList with | some l => some (.val (.clo k l)) | none => none
  | _, _ => none
theorem eClo_ok {f : Fn} {first cap : Array Operand} {r : LR} (hρ : RK m ρ τ) (h : eClo ρ f first cap = some r) (ho : o.op = .makeFunc f first cap) : LOk P m w τ n o r := by
  unfold eClo at h
  split at h
  · rename_i k hf
    split at h
    · rename_i l hl
      simp only [Option.some.injEq] at h
      subst h
      have hfirst : first = #[] := by apply Array.ext'; simpa using hf
      refine ⟨.func (.func k) #[] (cap.toList.map τ).toArray, by simp only [VR]; exact ⟨_, rfl, opsL_rel hρ hl⟩, ?_⟩
      unfold execOp; rw [ho]
      have e1 : (cap.toList.map τ).toArray = cap.map τ := by apply Array.ext'; simp
      simp [Instr.makeFunc, hfirst, e1]
    · cases h
  · cases h
/-- an empty map -/
def eMap (n : Nat) (r : Option Operand) : Option LR :=
  match r with
  | none => some (.new (.ref n) (.map []))
  | some _ => none
theorem eMap_ok {t : TypeId} {x : Option Operand} {r : LR} (h : eMap n x = some r) (ho : o.op = .makeMap t x) : LOk P m w τ n o r := by
  cases x with
  | some _ => simp [eMap] at h
  | none =>
    simp only [eMap, Option.some.injEq] at h
    subst h
    refine ⟨.map (some w.heap.size), w.alloc (.map #[] 0), 0, ?_, Grow.alloc _ _, fun m' hle hn => ⟨by simp only [VR]; exact ⟨_, hn, rfl⟩, ⟨[], by simpa using heap_alloc_new w (.map #[] 0), rfl⟩⟩⟩
    unfold execOp; rw [ho]
    simp [Instr.makeMap]
/-- the length of a slice -/
def eLen (P : Program) (t : Option TypeId) (x : Option AV) : Option LR :=
  match x, t with
  | some (.slc _ _ _ len), some t => match P.underlying t with
    | some (.slice _) => some (.val (.lit (.int .i64 (.ofNat len))))
    | _ => none
  | _, _ => none
theorem eLen_ok {t : TypeId} {X : Operand} {r : LR} (hρ : RK m ρ τ) (h : eLen P (some t) (ρ X) = some r) (ho : o.op = .call { callee := .builtin .len, args := #[X], argTypes := #[t] }) : LOk P m w τ n o r := by
  unfold eLen at h
  split at h
  · rename_i id k off len t' hx ht
    cases ht
    have hv := hρ X _ hx
    simp only [VR] at hv
    obtain ⟨c, hm, hc, hv⟩ := hv
    split at h
    · rename_i e hu
      simp only [Option.some.injEq] at h
      subst h
      exact ⟨_, VR.lit _, v_lenSlice ho hv hu⟩
    · cases h
  · cases h
/-- no nil, and nil -/
def unNil : TypeDesc → Value → Value → Bool
  | .pointer _, .pointer (some _), .pointer none => true
  | .slice _, .slice (some _) _ _, .slice none _ _ => true
  | .interface _, .iface _ _, .nilIface => true
  | .map _ _, .map (some _), .map none => true
  | .func _ _ _, .func _ _ _, .nilFunc => true
  | _, _, _ => false
theorem run_unNil {t : TypeId} {d : TypeDesc} {x y : Value} (hu : P.underlying t = some d) (h : unNil d x y = true) : (Op.equal t x y).run P w = .ok false w := by
  show (Op.equalIn (9999 + 1) t x y).run P w = _
  rw [Op.equalIn, Sem.run_bind, run_underlying hu, Result.andThen_ok]
  unfold unNil at h
  split at h <;> first | rfl | cases h
theorem v_unEq {t t' : TypeId} {X Y : Operand} {d : TypeDesc} {x y : Value} (hu : P.underlying t = some d) (h : unNil d x y = true) (hx : τ X = x) (hy : τ Y = y) (ho : o.op = .binOp .eql t X Y t') : (execOp τ o).run P w = .ok (.value (.bool false)) w := by
  unfold execOp; rw [ho]
  have := run_unNil (P := P) (w := w) hu h
  unfold unNil at h
  split at h <;> first | (cases h; done) | simp [eqGuard, binOp, hx, hy, this]
theorem v_unNe {t t' : TypeId} {X Y : Operand} {d : TypeDesc} {x y : Value} (hu : P.underlying t = some d) (h : unNil d x y = true) (hx : τ X = x) (hy : τ Y = y) (ho : o.op = .binOp .neq t X Y t') : (execOp τ o).run P w = .ok (.value (.bool true)) w := by
  unfold execOp; rw [ho]
  have := run_unNil (P := P) (w := w) hu h
  unfold unNil at h
  split at h <;> first | (cases h; done) | simp [eqGuard, binOp, hx, hy, this]
/-- is it nil? -/
def eNil (P : Program) (op : BinOp) (t : TypeId) (x y : Option AV) : Option LR :=
  match op with
  | .eql => match x, y, P.underlying t with
    | some (.ptr _ _), some (.lit (.pointer none)), some (.pointer _) => some (.val (.lit (.bool false)))
    | some (.slc _ _ _ _), some (.lit (.slice none _ _)), some (.slice _) => some (.val (.lit (.bool false)))
    | some (.ifc _ _), some (.lit .nilIface), some (.interface _) => some (.val (.lit (.bool false)))
    | some (.ref _), some (.lit (.map none)), some (.map _ _) => some (.val (.lit (.bool false)))
    | some (.clo _ _), some (.lit .nilFunc), some (.func _ _ _) => some (.val (.lit (.bool false)))
    | _, _, _ => none
  | .neq => match x, y, P.underlying t with
    | some (.ptr _ _), some (.lit (.pointer none)), some (.pointer _) => some (.val (.lit (.bool true)))
    | some (.slc _ _ _ _), some (.lit (.slice none _ _)), some (.slice _) => some (.val (.lit (.bool true)))
    | some (.ifc _ _), some (.lit .nilIface), some (.interface _) => some (.val (.lit (.bool true)))
    | some (.ref _), some (.lit (.map none)), some (.map _ _) => some (.val (.lit (.bool true)))
    | some (.clo _ _), some (.lit .nilFunc), some (.func _ _ _) => some (.val (.lit (.bool true)))
    | _, _, _ => none
  | _ => none
theorem eNil_ok {op : BinOp} {t t' : TypeId} {X Y : Operand} {r : LR} (hρ : RK m ρ τ) (h : eNil P op t (ρ X) (ρ Y) = some r) (ho : o.op = .binOp op t X Y t') : LOk P m w τ n o r := by
  unfold eNil at h
  split at h
  · split at h <;> first
      | (cases h; done)
      | (rename_i hx hy hu
         have hv := hρ X _ hx
         have hv2 := hρ Y _ hy
         simp only [VR] at hv hv2
         simp only [Option.some.injEq] at h
         subst h
         first
           | (obtain ⟨c, hm, hv⟩ := hv; exact ⟨_, VR.lit _, v_unEq hu (by rfl) hv hv2 ho⟩)
           | (obtain ⟨c, hm, hc, hv⟩ := hv; exact ⟨_, VR.lit _, v_unEq hu (by rfl) hv hv2 ho⟩)
           | (obtain ⟨c, hv, hc⟩ := hv; exact ⟨_, VR.lit _, v_unEq hu (by rfl) hv hv2 ho⟩))
  · split at h <;> first
      | (cases h; done)
      | (rename_i hx hy hu
         have hv := hρ X _ hx
         have hv2 := hρ Y _ hy
         simp only [VR] at hv hv2
         simp only [Option.some.injEq] at h
         subst h
         first
           | (obtain ⟨c, hm, hv⟩ := hv; exact ⟨_, VR.lit _, v_unNe hu (by rfl) hv hv2 ho⟩)
           | (obtain ⟨c, hm, hc, hv⟩ := hv; exact ⟨_, VR.lit _, v_unNe hu (by rfl) hv hv2 ho⟩)
           | (obtain ⟨c, hv, hc⟩ := hv; exact ⟨_, VR.lit _, v_unNe hu (by rfl) hv hv2 ho⟩))
  · cases h
end
end Go.Ev
