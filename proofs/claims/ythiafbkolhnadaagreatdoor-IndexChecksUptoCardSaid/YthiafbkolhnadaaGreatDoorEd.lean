/-
  The last operations that change nothing that is there, and all of them together.
-/
import Derived.Test.YthiafbkolhnadaaGreatDoorEc
import Derived.Lib.ConvBytes
set_option linter.unusedVariables false
set_option linter.unusedSimpArgs false
namespace Go.Ev
open Go Go.RowKit Go.Dk

section
variable {P : Program} {m : LM} {w : World} {τ : Operand → Value} {ρ : Operand → Option AV} {H : Nat → Option AO} {o : Oper} {n : Nat}

def eNilCk (x : Option AV) : Option LR :=
  match x with
  | some (.ptr i k) => some (.val (.ptr i k))
  | some (.ifc t v) => some (.val (.ifc t v))
  | some (.clo f l) => some (.val (.clo f l))
  | _ => none
theorem eNilCk_ok {X : Operand} {r : LR} (hρ : RK m ρ τ) (h : eNilCk (ρ X) = some r) (ho : o.op = .nilCheck X) : LOk P m w τ n o r := by
  unfold eNilCk at h
  split at h
  · rename_i hx
    have hv := hρ X _ hx
    have hv0 := hv
    simp only [VR] at hv
    obtain ⟨c, hm, hv⟩ := hv
    simp only [Option.some.injEq] at h; subst h
    refine ⟨_, hv0, ?_⟩
    unfold execOp; rw [ho]; simp [hv]
  · rename_i hx
    have hv := hρ X _ hx
    have hv0 := hv
    simp only [VR] at hv
    obtain ⟨c, hv, hm⟩ := hv
    simp only [Option.some.injEq] at h; subst h
    refine ⟨_, hv0, ?_⟩
    unfold execOp; rw [ho]; simp [hv]
  · rename_i hx
    have hv := hρ X _ hx
    have hv0 := hv
    simp only [VR] at hv
    obtain ⟨c, hv, hm⟩ := hv
    simp only [Option.some.injEq] at h; subst h
    refine ⟨_, hv0, ?_⟩
    unfold execOp; rw [ho]; simp [hv]
  · cases h

/-! ### bytes as a string -/
def byteL : List AV → Option (List Int)
  | [] => some []
  | .lit (.int .u8 k) :: l => match byteL l with | some r => some (k :: r) | none => none
  | _ => none
theorem byteL_rel : ∀ {l : List AV} {vs : List Value} {ns : List Int}, VRs m l vs → byteL l = some ns → vs = ns.map (.int .u8)
  | [], vs, ns, h, e => by simp only [VRs] at h; simp only [byteL, Option.some.injEq] at e; subst e; simpa using h
  | a :: l, vs, ns, h, e => by
    simp only [VRs] at h
    obtain ⟨v, t, rfl, h1, h2⟩ := h
    unfold byteL at e
    split at e
    · simp_all
    · rename_i k l' heq
      injection heq with ha hl
      subst ha
      subst hl
      split at e
      · rename_i r hr
        simp only [Option.some.injEq] at e
        subst e
        simp only [VR] at h1
        rw [byteL_rel h2 hr, h1]; rfl
      · cases e
    · cases e
def bytesOf (ns : List Int) : ByteArray := ⟨(ns.map fun k => UInt8.ofNat k.toNat).toArray⟩
theorem foldl_push : ∀ (ns : List Int) (b : ByteArray), ns.foldl (fun r k => r.push (UInt8.ofNat k.toNat)) b = ⟨b.data ++ (ns.map fun k => UInt8.ofNat k.toNat).toArray⟩
  | [], b => by cases b; simp
  | k :: ns, b => by
    rw [List.foldl_cons, foldl_push ns]
    cases b
    simp [ByteArray.push]
theorem strOf_eq (ns : List Int) : strOf ns = bytesOf ns := by
  unfold strOf bytesOf
  rw [foldl_push]
  simp [ByteArray.empty, ByteArray.emptyWithCapacity]
  rfl
def eB2s (P : Program) (H : Nat → Option AO) (s t : TypeId) (x : Option AV) : Option LR :=
  match x with
  | some (.slc i k off len) => match P.underlying s, P.underlying t with
    | some (.slice e), some .string => match P.underlying e with
      | some (.int .u8) => match H i with
        | some (.row _ _ cs) => match byteL ((cs.drop off).take len) with
          | some ns => bif Nat.beq ns.length len then some (.val (.lit (.string (bytesOf ns)))) else none
          | none => none
        | _ => none
      | _ => none
    | _, _ => none
  | _ => none
theorem eB2s_ok {s t : TypeId} {X : Operand} {r : LR} (hH : HK m H w) (hρ : RK m ρ τ) (h : eB2s P H s t (ρ X) = some r) (ho : o.op = .convert s t X) : LOk P m w τ n o r := by
  unfold eB2s at h
  split at h
  · rename_i i k off len hx
    have hv := hρ X _ hx
    simp only [VR] at hv
    obtain ⟨c, hm, hc, hv⟩ := hv
    split at h
    · rename_i e hs ht
      split at h
      · rename_i he
        split at h
        · rename_i e' sz cs hi
          obtain ⟨l, hl, hor⟩ := hH _ _ hi
          rw [hm] at hl; cases hl
          split at h
          · rename_i ns hns
            cases hb : Nat.beq ns.length len with
            | false => rw [hb] at h; simp only [cond_false] at h; cases h
            | true =>
              rw [hb] at h
              simp only [cond_true, Option.some.injEq] at h
              subst h
              obtain ⟨vs, h1, h2⟩ := or_cells hor off len
              have hvs := byteL_rel h1 hns
              subst hvs
              exact ⟨_, VR.lit _, by rw [← strOf_eq]; exact v_b2s ho hs he ht h2 (Nat.eq_of_beq_eq_true hb) hv⟩
          · cases h
        · cases h
      · cases h
    · cases h
  · cases h
def eRange (P : Program) (n : Nat) (t : TypeId) (x : Option AV) : Option LR :=
  match x, P.underlying t with
  | some (.lit (.string s)), some .string => some (.new (.ptr n 0) (.iter s 0))
  | _, _ => none
theorem eRange_ok {t : TypeId} {X : Operand} {r : LR} (hρ : RK m ρ τ) (h : eRange P n t (ρ X) = some r) (ho : o.op = .range t X) : LOk P m w τ n o r := by
  unfold eRange at h
  split at h
  · rename_i s hx hu
    have hv := hρ X _ hx
    simp only [VR] at hv
    simp only [Option.some.injEq] at h; subst h
    refine ⟨.pointer (some ⟨w.heap.size, 0, none⟩), w.alloc (.stringIter s 0), 0, ?_, Grow.alloc _ _, fun m' hle hn => ⟨by simp only [VR]; exact ⟨_, hn, by simp⟩, rfl, heap_alloc_new w _⟩⟩
    unfold execOp; rw [ho]
    simp [Instr.range, run_underlying hu, hv]
  · cases h
def notI : TypeDesc → Bool
  | .interface _ => false
  | _ => true
def eAssert (P : Program) (x : Option AV) (t : TypeId) (ok : Bool) : Option LR :=
  match x with
  | some (.ifc d a) => match P.underlying t with
    | some u => match notI u with
      | true => match Nat.beq d t, ok with
        | true, true => some (.val (.tup [a, .lit (.bool true)]))
        | true, false => some (.val a)
        | false, true => match P.info? t with
          | some inf => match inf.zero with
            | some z => some (.val (.tup [.lit z, .lit (.bool false)]))
            | none => none
          | none => none
        | false, false => none
      | false => none
    | none => none
  | _ => none
theorem eAssert_ok {X : Operand} {xt t : TypeId} {ok : Bool} {r : LR} (hρ : RK m ρ τ) (h : eAssert P (ρ X) t ok = some r) (ho : o.op = .typeAssert X xt t ok) : LOk P m w τ n o r := by
  unfold eAssert at h
  split at h
  · rename_i d a hx
    have hv := hρ X _ hx
    simp only [VR] at hv
    obtain ⟨y, hv, hy⟩ := hv
    split at h
    · rename_i u hu
      split at h
      · rename_i hni
        split at h
        · rename_i hd
          have hd := Nat.eq_of_beq_eq_true hd
          simp only [Option.some.injEq] at h; subst h
          refine ⟨.tuple [y, .bool true].toArray, by simp only [VR, VRs]; exact ⟨_, rfl, _, _, rfl, hy, _, _, rfl, rfl, rfl⟩, ?_⟩
          unfold execOp; rw [ho]
          simp only [hv, Instr.typeAssert, Sem.run_bind, run_underlying hu, Result.andThen_ok]
          cases u <;> simp_all [notI]
        · rename_i hd
          have hd := Nat.eq_of_beq_eq_true hd
          simp only [Option.some.injEq] at h; subst h
          refine ⟨y, hy, ?_⟩
          unfold execOp; rw [ho]
          simp only [hv, Instr.typeAssert, Sem.run_bind, run_underlying hu, Result.andThen_ok]
          cases u <;> simp_all [notI]
        · rename_i hd
          have hd := Nat.ne_of_beq_eq_false hd
          split at h
          · rename_i inf hinf
            split at h
            · rename_i z hz
              simp only [Option.some.injEq] at h; subst h
              refine ⟨.tuple [z, .bool false].toArray, by simp only [VR, VRs]; exact ⟨_, rfl, _, _, rfl, rfl, _, _, rfl, rfl, rfl⟩, ?_⟩
              unfold execOp; rw [ho]
              simp only [hv, Instr.typeAssert, Sem.run_bind, run_underlying hu, Result.andThen_ok]
              cases u <;> simp_all [notI, zeroValue, typeInfo]
            · cases h
          · cases h
        · cases h
      · cases h
    · cases h
  · cases h

/-! ### maps with plain keys -/
def plainK : TypeDesc → Bool
  | .int _ => true
  | .string => true
  | .bool => true
  | _ => false
def findA (kind : TypeDesc) (k : Value) : List (AV × AV) → Nat → Option (Option (Nat × AV))
  | [], _ => some none
  | (.lit kv, x) :: r, i => match Instr.sameNow kind k kv with
    | some true => some (some (i, x))
    | some false => findA kind k r (i + 1)
    | none => none
  | _, _ => none
theorem findA_rel {kind : TypeDesc} {k : Value} : ∀ {es : List (AV × AV)} {es' : List MapEntry} {b i : Nat} {r : Option (Nat × AV)}, ME m es es' b → findA kind k es i = some r →
    match r with
    | none => Instr.findNow kind k es' i = some none
    | some (j, a) => ∃ v, VR m a v ∧ Instr.findNow kind k es' i = some (some (j, v))
  | [], es', b, i, r, h, e => by
    simp only [ME] at h; subst h
    simp only [findA, Option.some.injEq] at e; subst e; rfl
  | (kk, x) :: es, es', b, i, r, h, e => by
    obtain ⟨v, t, kv, rfl, rfl, hx, ht⟩ := h
    simp only [findA] at e
    cases hs : Instr.sameNow kind k kv with
    | none => simp [hs] at e
    | some q =>
      cases q with
      | true =>
        simp only [hs, Option.some.injEq] at e; subst e
        exact ⟨v, hx, by simp [Instr.findNow, hs]⟩
      | false =>
        simp only [hs] at e
        have := findA_rel ht e
        cases r with
        | none => simpa [Instr.findNow, hs] using this
        | some ja => obtain ⟨j, a⟩ := ja; simpa [Instr.findNow, hs] using this
theorem run_checkPlain {t : TypeId} {d : TypeDesc} {b : Bool} {k : Value} (hu : P.underlying t = some d) (hd : plainK d = true) : (Instr.checkKey b 10000 t k).run P w = .ok () w := by
  show (Instr.checkKey b (9999 + 1) t k).run P w = _
  rw [Instr.checkKey, Sem.run_bind, run_underlying hu, Result.andThen_ok]
  cases d <;> first | rfl | cases hd
theorem run_findKey_of {t : TypeId} {d : TypeDesc} {k : Value} {es : List MapEntry} {r : Option (Nat × Value)} (hu : P.underlying t = some d) (h : Instr.findNow d k es 0 = some r) : (Instr.findKey t k es).run P w = .ok r w := by
  simp [Instr.findKey, run_underlying hu, h]
def eLookup (P : Program) (H : Nat → Option AO) (t : TypeId) (x k : Option AV) (ok : Bool) : Option LR :=
  match x, k with
  | some (.ref i), some (.lit kv) => match P.underlying t with
    | some (.map kt et) => match P.underlying kt with
      | some kd => match plainK kd, H i with
        | true, some (.map es) => match findA kd kv es 0 with
          | some (some (_, a)) => some (.val (bif ok then .tup [a, .lit (.bool true)] else a))
          | some none => match P.info? et with
            | some inf => match inf.zero with
              | some z => some (.val (bif ok then .tup [.lit z, .lit (.bool false)] else .lit z))
              | none => none
            | none => none
          | none => none
        | _, _ => none
      | none => none
    | _ => none
  | _, _ => none
theorem eLookup_ok {X Y : Operand} {t : TypeId} {ok : Bool} {r : LR} (hH : HK m H w) (hρ : RK m ρ τ) (h : eLookup P H t (ρ X) (ρ Y) ok = some r) (ho : o.op = .lookup t X Y ok) : LOk P m w τ n o r := by
  unfold eLookup at h
  split at h
  · rename_i i kv hx hy
    have hv := hρ X _ hx
    have hk := hρ Y _ hy
    simp only [VR] at hv hk
    obtain ⟨c, hm, hv⟩ := hv
    split at h
    · rename_i kt et hu
      split at h
      · rename_i kd hkd
        split at h
        · rename_i es hpl hi
          obtain ⟨l, hl, hor⟩ := hH _ _ hi
          rw [hm] at hl; cases hl
          obtain ⟨es', hb, hme⟩ := hor
          have hget : (getObj c.b).run P w = .ok (.map es'.toArray es.length) w := by simp [getObj, Sem.run, hb]
          split at h
          · rename_i j a hf
            obtain ⟨v, h1, h2⟩ := findA_rel hme hf
            simp only [Option.some.injEq] at h; subst h
            have hrun : (execOp τ o).run P w = .ok (.value (if ok then .tuple #[v, .bool true] else v)) w := by
              unfold execOp; rw [ho]
              simp only [hv, hk, Instr.lookup, Sem.run_bind, run_underlying hu, Result.andThen_ok, hget, run_checkPlain hkd hpl, run_findKey_of hkd h2, Sem.run_pure]
            cases ok with
            | true => exact ⟨.tuple [v, .bool true].toArray, by simp only [VR, cond_true]; refine ⟨_, rfl, ?_⟩; simp only [VRs, VR]; exact ⟨_, _, rfl, h1, _, _, rfl, rfl, rfl⟩, hrun⟩
            | false => exact ⟨v, h1, hrun⟩
          · rename_i hf
            have h2 := findA_rel hme hf
            simp only at h2
            split at h
            · rename_i inf hinf
              split at h
              · rename_i z hz
                simp only [Option.some.injEq] at h; subst h
                have hzz : (zeroValue et).run P w = .ok z w := by simp [zeroValue, typeInfo, hinf, hz]
                have hrun : (execOp τ o).run P w = .ok (.value (if ok then .tuple #[z, .bool false] else z)) w := by
                  unfold execOp; rw [ho]
                  simp only [hv, hk, Instr.lookup, Sem.run_bind, run_underlying hu, Result.andThen_ok, hget, run_checkPlain hkd hpl, run_findKey_of hkd h2, Sem.run_pure, hzz]
                cases ok with
                | true => exact ⟨.tuple [z, .bool false].toArray, by simp only [VR, cond_true]; refine ⟨_, rfl, ?_⟩; simp only [VRs, VR]; exact ⟨_, _, rfl, rfl, _, _, rfl, rfl, rfl⟩, hrun⟩
                | false => exact ⟨z, VR.lit _, hrun⟩
              · cases h
            · cases h
          · cases h
        · cases h
      · cases h
    · cases h
  · cases h

/-! ### what needs no memory at all -/
def pureOp : Op → Bool
  | .binOp .. | .unOp .. | .convert .. | .index .. | .slice .. | .field .. | .extract .. | .nilCheck .. | .makeInterface .. | .typeAssert .. => true
  | .call { callee := .builtin .len, .. } | .call { callee := .builtin .min, .. } | .call { callee := .builtin .max, .. } | .call { callee := .builtin .cap, .. } => true
  | _ => false
def clV (ρ : Operand → Option AV) (x : Operand) : Value := match ρ x with
  | some a => match a.clos with | some v => v | none => undef
  | none => undef
def clB (ρ : Operand → Option AV) (x : Operand) : Bool := match ρ x with
  | some a => match a.clos with | some _ => true | none => false
  | none => false
def ePure (P : Program) (ρ : Operand → Option AV) (o : Oper) : Option LR :=
  bif pureOp o.op && o.op.operands.toList.all (clB ρ) then
    match pr P (execOp (clV ρ) o) with
    | some (.value v) => some (.val (.lit v))
    | _ => none
  else none
theorem ePure_ok {r : LR} (hρ : RK m ρ τ) (h : ePure P ρ o = some r) : LOk P m w τ n o r := by
  unfold ePure at h
  cases hb : pureOp o.op && o.op.operands.toList.all (clB ρ) with
  | false => rw [hb] at h; simp only [cond_false] at h; cases h
  | true =>
    rw [hb] at h
    simp only [cond_true] at h
    split at h
    · rename_i v hv
      simp only [Option.some.injEq] at h; subst h
      refine ⟨v, VR.lit _, ?_⟩
      simp only [Bool.and_eq_true, List.all_eq_true] at hb
      rw [execOp_congr (ρ' := clV ρ) o (fun cs b e => by rw [e] at hb; simp [pureOp] at hb) ?_]
      · exact pr_run hv w
      · intro x hx
        have := hb.2 x (by simpa using hx)
        unfold clB at this
        unfold clV
        cases hr : ρ x with
        | none => simp [hr] at this
        | some a =>
          cases hc : a.clos with
          | none => simp [hr, hc] at this
          | some v => simp only [hc]; exact clos_eq (hρ x a hr) hc
    · cases h

def eLenC (P : Program) (ρ : Operand → Option AV) (c : Call) : Option LR :=
  match c.callee with
  | .builtin .len => match c.args.toList, c.argTypes.toList with
    | [x], [t] => eLen P (some t) (ρ x)
    | _, _ => none
  | _ => none
theorem eLenC_ok {c : Call} {r : LR} (hρ : RK m ρ τ) (h : eLenC P ρ c = some r) (ho : o.op = .call c) : LOk P m w τ n o r := by
  unfold eLenC at h
  split at h
  · rename_i hc
    split at h
    · rename_i x t hx ht
      refine eLen_ok hρ h ?_
      rw [ho]
      obtain ⟨ce, as, ats⟩ := c
      simp only at hc hx ht
      subst hc
      have e1 : as = #[x] := by apply Array.ext'; simpa using hx
      have e2 : ats = #[t] := by apply Array.ext'; simpa using ht
      rw [e1, e2]
    · cases h
  · cases h
/-- a string's bytes, as a row of its own -/
def eS2b (P : Program) (n : Nat) (s t : TypeId) (x : Option AV) : Option LR :=
  match x with
  | some (.lit (.string b)) => match P.underlying s, P.underlying t with
    | some _, some (.slice e) => match P.underlying e with
      | some (.int .u8) => some (.new (.slc n 0 0 b.size) (.row e 1 (b.data.toList.map fun c => .lit (.int .u8 (Int.ofNat c.toNat)))))
      | _ => none
    | _, _ => none
  | _ => none
theorem vrs_lits {m : LM} : ∀ (l : List Value), VRs m (l.map AV.lit) l
  | [] => by simp only [List.map_nil, VRs]
  | v :: l => by
    simp only [List.map_cons, VRs]
    exact ⟨v, l, rfl, VR.lit v, vrs_lits l⟩
theorem eS2b_ok {s t : TypeId} {X : Operand} {r : LR} (hρ : RK m ρ τ) (h : eS2b P n s t (ρ X) = some r) (ho : o.op = .convert s t X) : LOk P m w τ n o r := by
  unfold eS2b at h
  split at h
  · rename_i b hx
    have hv := hρ X _ hx
    simp only [VR] at hv
    split at h
    · rename_i u e hs ht
      split at h
      · rename_i he
        simp only [Option.some.injEq] at h; subst h
        have hrun := Lib.run_convert_string_bytes (P := P) w s t e b hs ht he
        have hge := grownCap_ge w b.size 0 e
        refine ⟨.slice (some ⟨w.heap.size, 0, none⟩) b.size (grownCap w b.size 0 e), Lib.bytesWorld w e b, grownCap w b.size 0 e, by unfold execOp; rw [ho]; simp [hv, hrun], ⟨rfl, rfl, rfl, Lib.bytesWorld_size w e b, fun j hj => Lib.bytesWorld_at_old w e b j hj⟩, fun m' hle hn => ⟨by simp only [VR]; exact ⟨_, hn, by simpa using hge, by simp⟩, ?_⟩⟩
        have hsz : (Lib.bytesCells w e b).size = grownCap w b.size 0 e := by
          unfold Lib.bytesCells
          simp only [Array.size_append, Array.size_map, Array.size_replicate]
          have : b.data.size = b.size := rfl
          omega
        refine ⟨_, b.data.toList.map (fun c => Value.int .u8 (Int.ofNat c.toNat)), _, Lib.bytesWorld_at_new w e b, .inr (Nat.le_refl _), ?_, ?_, fun j v hj => ?_⟩
        · have := vrs_lits (m := m') (b.data.toList.map (fun c => Value.int .u8 (Int.ofNat c.toNat)))
          rw [List.map_map] at this
          exact this
        · rw [hsz]; simp
        · have hjl := (List.getElem?_eq_some_iff.1 hj).1
          unfold Lib.bytesCells
          simp only [Nat.zero_add]
          rw [Array.getElem?_append_left (by simpa using hjl)]
          simpa using hj
      · cases h
    · cases h
  · cases h
/-- an operation that changes nothing that is there -/
def light (P : Program) (H : Nat → Option AO) (n : Nat) (ρ : Operand → Option AV) (o : Oper) : Option LR :=
  match o.op with
  | .move x | .assign x => match ρ x with | some a => some (.val a) | none => none
  | .pick c a b => match ρ c with
    | some (.lit (.bool true)) => (match ρ a with | some a => some (.val a) | none => none)
    | some (.lit (.bool false)) => (match ρ b with | some a => some (.val a) | none => none)
    | _ => none
  | .load t x => eLoad P H t (ρ x)
  | .fieldAddr t x i => eFa P t (ρ x) i
  | .alloc t => eAlloc P n t
  | .box t x => eBox n t (ρ x)
  | .build t ps => eBuild P ρ t ps
  | .buildSlice t k ps => eBsl P ρ n t k ps
  | .indexAddr t x i => eIa P t (ρ x) (ρ i)
  | .makeFunc f a b => eClo ρ f a b
  | .makeMap _ r => eMap n r
  | .range t x => eRange P n t (ρ x)
  | .lookup t x k ok => eLookup P H t (ρ x) (ρ k) ok
  | .nilCheck x => match eNilCk (ρ x) with | some r => some r | none => ePure P ρ o
  | .extract x i => match eExtract (ρ x) i with | some r => some r | none => ePure P ρ o
  | .field t x i => match eField P t (ρ x) i with | some r => some r | none => ePure P ρ o
  | .makeInterface t x => eIface P t (ρ x)
  | .typeAssert x _ t ok => match eAssert P (ρ x) t ok with | some r => some r | none => ePure P ρ o
  | .slice t x a b none => match eSlice P t (ρ x) (a.map ρ) (b.map ρ) with | some r => some r | none => ePure P ρ o
  | .binOp op t x y _ => match eNil P op t (ρ x) (ρ y) with | some r => some r | none => ePure P ρ o
  | .convert s t x => match eB2s P H s t (ρ x) with | some r => some r | none => match eS2b P n s t (ρ x) with | some r => some r | none => ePure P ρ o
  | .call c => match eLenC P ρ c with | some r => some r | none => ePure P ρ o
  | _ => ePure P ρ o
theorem light_ok {r : LR} (hH : HK m H w) (hρ : RK m ρ τ) (h : light P H n ρ o = some r) : LOk P m w τ n o r := by
  unfold light at h
  split at h
  · rename_i x ho
    split at h
    · rename_i a ha
      simp only [Option.some.injEq] at h; subst h
      exact ⟨_, hρ x a ha, v_move ho rfl⟩
    · cases h
  · rename_i x ho
    split at h
    · rename_i a ha
      simp only [Option.some.injEq] at h; subst h
      exact ⟨_, hρ x a ha, v_assign ho rfl⟩
    · cases h
  · rename_i c a b ho
    split at h
    · rename_i hc
      have hcv := hρ c _ hc
      simp only [VR] at hcv
      split at h
      · rename_i x hx
        simp only [Option.some.injEq] at h; subst h
        exact ⟨_, hρ a x hx, by unfold execOp; rw [ho]; simp [hcv, asBool]⟩
      · cases h
    · rename_i hc
      have hcv := hρ c _ hc
      simp only [VR] at hcv
      split at h
      · rename_i x hx
        simp only [Option.some.injEq] at h; subst h
        exact ⟨_, hρ b x hx, by unfold execOp; rw [ho]; simp [hcv, asBool]⟩
      · cases h
    · cases h
  · exact eLoad_ok hH hρ h (by assumption)
  · exact eFa_ok hρ h (by assumption)
  · exact eAlloc_ok h (by assumption)
  · exact eBox_ok hρ h (by assumption)
  · exact eBuild_ok hρ h (by assumption)
  · exact eBsl_ok hρ h (by assumption)
  · exact eIa_ok hρ h (by assumption)
  · exact eClo_ok hρ h (by assumption)
  · exact eMap_ok h (by assumption)
  · exact eRange_ok hρ h (by assumption)
  · exact eLookup_ok hH hρ h (by assumption)
  · rename_i x ho
    split at h
    · rename_i r' hr; cases h; exact eNilCk_ok hρ hr ho
    · exact ePure_ok hρ h
  · rename_i x i ho
    split at h
    · rename_i r' hr; cases h; exact eExtract_ok hρ hr ho
    · exact ePure_ok hρ h
  · rename_i t x i ho
    split at h
    · rename_i r' hr; cases h; exact eField_ok hρ hr ho
    · exact ePure_ok hρ h
  · exact eIface_ok hρ h (by assumption)
  · rename_i x xt t ok ho
    split at h
    · rename_i r' hr; cases h; exact eAssert_ok hρ hr ho
    · exact ePure_ok hρ h
  · rename_i t x a b ho
    split at h
    · rename_i r' hr; cases h; exact eSlice_ok hρ hr ho
    · exact ePure_ok hρ h
  · rename_i op t x y t' ho
    split at h
    · rename_i r' hr; cases h; exact eNil_ok hρ hr ho
    · exact ePure_ok hρ h
  · rename_i s t x ho
    split at h
    · rename_i r' hr; cases h; exact eB2s_ok hH hρ hr ho
    · split at h
      · rename_i r' hr; cases h; exact eS2b_ok hρ hr ho
      · exact ePure_ok hρ h
  · rename_i c ho
    split at h
    · rename_i r' hr; cases h; exact eLenC_ok hρ hr ho
    · exact ePure_ok hρ h
  · exact ePure_ok hρ h
end
end Go.Ev
