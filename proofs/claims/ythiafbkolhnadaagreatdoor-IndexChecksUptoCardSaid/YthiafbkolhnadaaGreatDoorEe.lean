/-
  One operation that changes what is there.
-/
import Derived.Test.YthiafbkolhnadaaGreatDoorEd
import Derived.Deep.AppendSrc
set_option linter.unusedVariables false
set_option linter.unusedSimpArgs false
namespace Go.Ev
open Go Go.RowKit Go.Dk

/-! ### written out -/
section
variable {β : Type}
def fN (n : Nat) (k : Nat → β) : β := match n with
  | 0 => k 0
  | p + 1 => k (Nat.succ p)
theorem fN_eq (n : Nat) (k : Nat → β) : fN n k = k n := by cases n <;> rfl
def fI (n : Int) (k : Int → β) : β := match n with
  | .ofNat p => fN p fun p => k (.ofNat p)
  | .negSucc p => fN p fun p => k (.negSucc p)
theorem fI_eq (n : Int) (k : Int → β) : fI n k = k n := by cases n <;> simp [fI, fN_eq]
def fU : List UInt8 → (List UInt8 → β) → β
  | [], k => k []
  | x :: l, k => fN x.toNat fun p => fU l fun l => k (UInt8.ofNat p :: l)
theorem fU_eq : ∀ (l : List UInt8) (k : List UInt8 → β), fU l k = k l
  | [], k => rfl
  | x :: l, k => by simp [fU, fN_eq, fU_eq l]
def fS (s : ByteArray) (k : ByteArray → β) : β := fU s.data.toList fun l => k ⟨⟨l⟩⟩
theorem fS_eq (s : ByteArray) (k : ByteArray → β) : fS s k = k s := by simp [fS, fU_eq]
def fV (v : Value) (k : Value → β) : β := match v with
  | .int q n => fI n fun n => k (.int q n)
  | .bool true => k (.bool true)
  | .bool false => k (.bool false)
  | .string s => fS s fun s => k (.string s)
  | .pointer none => k (.pointer none)
  | v => k v
theorem fV_eq (v : Value) (k : Value → β) : fV v k = k v := by
  unfold fV; split <;> simp [fI_eq, fS_eq]
mutual
def fA : AV → (AV → β) → β
  | .lit v, k => fV v fun v => k (.lit v)
  | .ptr i o, k => fN i fun i => fN o fun o => k (.ptr i o)
  | .slc i a o n, k => fN i fun i => fN a fun a => fN o fun o => fN n fun n => k (.slc i a o n)
  | .ref i, k => fN i fun i => k (.ref i)
  | .agg l, k => fL l fun l => k (.agg l)
  | .tup l, k => fL l fun l => k (.tup l)
  | .ifc t v, k => fN t fun t => fA v fun v => k (.ifc t v)
  | .clo f l, k => fN f fun f => fL l fun l => k (.clo f l)
def fL : List AV → (List AV → β) → β
  | [], k => k []
  | a :: l, k => fA a fun a => fL l fun l => k (a :: l)
end
mutual
theorem fA_eq : ∀ (a : AV) (k : AV → β), fA a k = k a
  | .lit v, k => by simp [fA, fV_eq]
  | .ptr i o, k => by simp [fA, fN_eq]
  | .slc i a o n, k => by simp [fA, fN_eq]
  | .ref i, k => by simp [fA, fN_eq]
  | .agg l, k => by simp [fA, fL_eq l]
  | .tup l, k => by simp [fA, fL_eq l]
  | .ifc t v, k => by simp [fA, fN_eq, fA_eq v]
  | .clo f l, k => by simp [fA, fN_eq, fL_eq l]
theorem fL_eq : ∀ (l : List AV) (k : List AV → β), fL l k = k l
  | [], k => rfl
  | a :: l, k => by simp [fL, fA_eq a, fL_eq l]
end
def fM : List (AV × AV) → (List (AV × AV) → β) → β
  | [], k => k []
  | (a, b) :: l, k => fA a fun a => fA b fun b => fM l fun l => k ((a, b) :: l)
theorem fM_eq : ∀ (l : List (AV × AV)) (k : List (AV × AV) → β), fM l k = k l
  | [], k => rfl
  | (a, b) :: l, k => by simp [fM, fA_eq, fM_eq l]
def fO (o : AO) (k : AO → β) : β := match o with
  | .row e sz cs => fN e fun e => fN sz fun sz => fL cs fun cs => k (.row e sz cs)
  | .map es => fM es fun es => k (.map es)
  | .iter s p => fS s fun s => fN p fun p => k (.iter s p)
theorem fO_eq (o : AO) (k : AO → β) : fO o k = k o := by cases o <;> simp [fO, fN_eq, fL_eq, fM_eq, fS_eq]
end

/-! ### memory written -/
theorem setCells_row {b : Nat} : ∀ (vs : List Value) {p : Nat} {w : World} {arr : Array Value} {e : TypeId} {fr : Nat × Nat}, w.heap[b]? = some (.cells arr e fr) → p + vs.length ≤ arr.size →
    (w.setCells b p vs).heap[b]? = some (.cells (putV p vs arr.toList).toArray e fr) ∧ (w.setCells b p vs).heap.size = w.heap.size ∧ (w.setCells b p vs).os = w.os ∧ (w.setCells b p vs).tape = w.tape ∧ (w.setCells b p vs).output = w.output ∧
    ∀ k, k ≠ b → (w.setCells b p vs).heap[k]? = w.heap[k]?
  | [], p, w, arr, e, fr, h, hl => by simp [World.setCells, putV, h]
  | v :: vs, p, w, arr, e, fr, h, hl => by
    simp only [List.length_cons] at hl
    have h1 : (w.setCell ⟨b, p, none⟩ v).heap[b]? = some (.cells (arr.setIfInBounds p v) e fr) := by
      rw [setCell_eq_setRow w b p arr e fr v h]
      exact setRow_heap w b arr _ e _ h
    have := setCells_row (b := b) vs (p := p + 1) (w := w.setCell ⟨b, p, none⟩ v) h1 (by simp; omega)
    obtain ⟨a1, a2, a3, a4, a5, a6⟩ := this
    refine ⟨?_, by rw [show (w.setCells b p (v :: vs)) = ((w.setCell ⟨b, p, none⟩ v).setCells b (p + 1) vs) from rfl, a2]; simp, by rw [show (w.setCells b p (v :: vs)) = ((w.setCell ⟨b, p, none⟩ v).setCells b (p + 1) vs) from rfl, a3]; rfl, by rw [show (w.setCells b p (v :: vs)) = ((w.setCell ⟨b, p, none⟩ v).setCells b (p + 1) vs) from rfl, a4]; rfl, by rw [show (w.setCells b p (v :: vs)) = ((w.setCell ⟨b, p, none⟩ v).setCells b (p + 1) vs) from rfl, a5]; rfl, ?_⟩
    · rw [show (w.setCells b p (v :: vs)) = ((w.setCell ⟨b, p, none⟩ v).setCells b (p + 1) vs) from rfl, a1]
      simp [putV]
    · intro k hk
      rw [show (w.setCells b p (v :: vs)) = ((w.setCell ⟨b, p, none⟩ v).setCells b (p + 1) vs) from rfl, a6 k hk]
      exact heap_setCell_other w _ k v hk
theorem not_frozen {w : World} {b j : Nat} {arr : Array Value} {e : TypeId} {fr : Nat × Nat} (h : w.heap[b]? = some (.cells arr e fr)) (hf : fr.1 = fr.2 ∨ arr.size ≤ fr.1) (hj : j < arr.size) : w.frozen? ⟨b, j, none⟩ = false := by
  obtain ⟨lo, hi⟩ := fr
  simp only [World.frozen?, h]
  simp only at hf
  simp
  omega
/-- an object of the call's own has turned -/
theorem HR.upd {m : LM} {H H' : Nat → Option AO} {w w' : World} {i : Nat} {l : Lc} {ob ob' : AO} (h : HR m H w) (hi : H i = some ob) (hm : m i = some l) (hb : OR m l w' ob') (hoth : ∀ k, k ≠ l.b → w'.heap[k]? = w.heap[k]?) (hsz : w.heap.size ≤ w'.heap.size)
    (hH : ∀ j, H' j = if j = i then some ob' else H j) : HR m H' w' := by
  refine ⟨fun j o hj => ?_, fun j j' o o' l1 l2 hne hj hj' h1 h2 => ?_, fun j lj hj => Nat.lt_of_lt_of_le (h.bb j lj hj) hsz⟩
  · rw [hH] at hj
    split at hj
    · rename_i e; subst e; cases hj; exact ⟨l, hm, hb⟩
    · rename_i hne
      obtain ⟨l', h1, h2⟩ := h.at_ j o hj
      exact ⟨l', h1, h2.keep (hoth _ (h.sep j i o ob l' l hne hj hi h1 hm))⟩
  · have key : ∀ {j o}, H' j = some o → ∃ o', H j = some o' := by
      intro j o hj
      rw [hH] at hj
      split at hj
      · rename_i e; subst e; exact ⟨ob, hi⟩
      · exact ⟨o, hj⟩
    obtain ⟨_, k1⟩ := key hj
    obtain ⟨_, k2⟩ := key hj'
    exact h.sep j j' _ _ l1 l2 hne k1 k2 h1 h2
def HOk (P : Program) (m : LM) (w : World) (τ : Operand → Value) (o : Oper) (H' : Nat → Option AO) (n' : Nat) (r : Option AV) : Prop :=
  ∃ m' w', Upd m w m' w' ∧ HR m' H' w' ∧ Dom m' n' ∧ match r with
    | some a => ∃ v, VR m' a v ∧ (execOp τ o).run P w = .ok (.value v) w'
    | none => (execOp τ o).run P w = .ok .skip w'

section
variable {P : Program} {m : LM} {w : World} {τ : Operand → Value} {ρ : Operand → Option AV} {o : Oper} {n : Nat} {β : Type} {h : Tr AO}

/-- a store -/
def hStore (P : Program) (h : Tr AO) (t : TypeId) (x y : Option AV) (k : Tr AO → Option β) : Option β :=
  match x, y with
  | some (.ptr i off), some a => match h.get i, P.info? t with
    | some (.row e sz cs), some inf => bif Nat.beq a.cells.length inf.size && Nat.ble (off + a.cells.length) cs.length && a.cells.all AV.one then
        fL (putA off a.cells cs) fun cs => Tr.setK (some (.row e sz cs)) 40 h i k
      else none
    | _, _ => none
  | _, _ => none
theorem hStore_ok {t : TypeId} {X Y : Operand} {k : Tr AO → Option β} {r : β} (hH : HR m h.get w) (hd : Dom m n) (hρ : RK m ρ τ) (hr : hStore P h t (ρ X) (ρ Y) k = some r) (ho : o.op = .store t X Y) :
    ∃ h', k h' = some r ∧ HOk P m w τ o h'.get n none := by
  unfold hStore at hr
  split at hr
  · rename_i i off a hx hy
    have hv := hρ X _ hx
    have hu := hρ Y _ hy
    simp only [VR] at hv
    obtain ⟨l, hm, hv⟩ := hv
    split at hr
    · rename_i e sz cs inf hi hinf
      cases hb : Nat.beq a.cells.length inf.size && Nat.ble (off + a.cells.length) cs.length && a.cells.all AV.one with
      | false => rw [hb] at hr; simp only [cond_false] at hr; cases hr
      | true =>
        rw [hb] at hr
        simp only [cond_true, fL_eq] at hr
        obtain ⟨h', hk, hg⟩ := Tr.setK_some hr
        refine ⟨h', hk, ?_⟩
        simp only [Bool.and_eq_true, Nat.beq_eq, Nat.ble_eq] at hb
        obtain ⟨⟨hb1, hb2⟩, hb3⟩ := hb
        obtain ⟨l', hm', hor⟩ := hH.at_ i _ hi
        rw [hm] at hm'; cases hm'
        have hor0 := hor
        obtain ⟨arr, vs, fr, h1, hf, h3, h4, h5⟩ := hor
        have hc := hu.cells
        have hlen := hc.len
        have hvl := h3.len
        have hbnd : ∀ j, j < vs.length → l.o + j < arr.size := fun j hj => by
          have := h5 j _ (List.getElem?_eq_getElem hj)
          exact (Array.getElem?_eq_some_iff.1 this).1
        have hone : ∀ v ∈ (τ Y).cells.toList, v.oneCell' = true := by
          intro v hvm
          obtain ⟨j, hj⟩ := List.getElem?_of_mem hvm
          have hjl : j < a.cells.length := by rw [← hlen]; exact (List.getElem?_eq_some_iff.1 hj).1
          obtain ⟨v', e1, e2⟩ := hc.get (List.getElem?_eq_getElem hjl)
          rw [hj] at e1; cases e1
          exact e2.one (List.all_eq_true.1 hb3 _ (List.getElem_mem hjl))
        have hsz : off = 0 ∨ 0 < a.cells.length ∨ True := .inr (.inr trivial)
        have hroom : l.o + off + (τ Y).cells.toList.length ≤ arr.size ∨ (τ Y).cells.toList.length = 0 := by
          rcases Nat.eq_zero_or_pos (τ Y).cells.toList.length with h0 | h0
          · exact .inr h0
          · have := hbnd (off + (τ Y).cells.toList.length - 1) (by omega)
            exact .inl (by omega)
        have hcells : ∀ j, j < (τ Y).cells.toList.length → (w.cell? ⟨l.b, l.o + off + 0 + j, none⟩).isSome = true := by
          intro j hj
          rw [cell_of_row w l.b _ arr e fr h1]
          simp; have := hbnd (off + j) (by omega); omega
        have hfro : ∀ j, j < (τ Y).cells.toList.length → w.frozen? ⟨l.b, l.o + off + 0 + j, none⟩ = false := by
          intro j hj
          exact not_frozen h1 hf (by have := hbnd (off + j) (by omega); omega)
        have hst := run_storeCells_cells (P := P) l.b (l.o + off) (τ Y).cells.toList 0 w (by simpa using hcells) (by simpa using hfro) hone
        have hszv : (τ Y).cells.size = inf.size := by rw [← hb1, ← hlen]; simp
        rcases hroom with hroom | h0
        · obtain ⟨b1, b2, b3, b4, b5, b6⟩ := setCells_row (τ Y).cells.toList h1 (p := l.o + off) hroom
          refine ⟨m, _, ⟨Le.refl m, b3, b4, b5, by rw [b2]; exact Nat.le_refl _, fun b hb hn => b6 b (fun e' => hn i l hm e'.symm), fun _ _ hh => .inl hh⟩, hH.upd hi hm ?_ b6 (by rw [b2]; exact Nat.le_refl _) hg, hd, ?_⟩
          · refine ⟨_, putV off (τ Y).cells.toList vs, fr, b1, by simpa [putV_len] using hf, put_rel hc h3, by simpa [putV_len] using h4, fun j v hj => ?_⟩
            rw [List.getElem?_toArray, putV_get (by simpa using hroom)]
            rw [putV_get (by omega)] at hj
            split at hj
            · rename_i hh
              rw [if_pos (by omega)]
              have : l.o + j - (l.o + off) = j - off := by omega
              rw [this]; exact hj
            · rename_i hh
              rw [if_neg (by omega)]
              have := h5 j v hj
              simpa using this
          · unfold execOp; rw [ho]
            simp only [Nat.add_zero] at hst
            simp [hv, Instr.storeAt, Instr.sureAddr, storeVar, sizeOf, typeInfo, hinf, hszv, hst]
        · have hnil : (τ Y).cells.toList = [] := List.eq_nil_of_length_eq_zero h0
          have hanil : a.cells = [] := List.eq_nil_of_length_eq_zero (by omega)
          refine ⟨m, w, Upd.refl m w, hH.upd hi hm (ob' := .row e sz (putA off a.cells cs)) (by rw [hanil]; exact hor0) (fun _ _ => rfl) (Nat.le_refl _) hg, hd, ?_⟩
          unfold execOp; rw [ho]
          rw [hnil] at hst
          have hst' : (storeCells ⟨l.b, l.o + off, none⟩ []).run P w = .ok () w := by simpa [World.setCells] using hst
          simp [hv, Instr.storeAt, Instr.sureAddr, storeVar, sizeOf, typeInfo, hinf, hszv, hnil, hst']
    · cases hr
  · cases hr

/-- the next character of a string -/
def hNext (h : Tr AO) (x : Option AV) (k : AV → Tr AO → Option β) : Option β :=
  match x with
  | some (.ptr i 0) => match h.get i with
    | some (.iter s pos) => bif Nat.blt pos s.size then
        fN (Utf8.decode s pos).1 fun c => fN (pos + (Utf8.decode s pos).2) fun p => Tr.setK (some (.iter s p)) 40 h i (k (.tup [.lit (.bool true), .lit (.int .i64 (.ofNat pos)), .lit (.int .i32 (.ofNat c))]))
      else k (.tup [.lit (.bool false)]) h
    | _ => none
  | _ => none
theorem hNext_ok {X : Operand} {k : AV → Tr AO → Option β} {r : β} (hH : HR m h.get w) (hd : Dom m n) (hρ : RK m ρ τ) (hr : hNext h (ρ X) k = some r) (ho : o.op = .next X true) :
    ∃ a h', k a h' = some r ∧ HOk P m w τ o h'.get n (some a) := by
  unfold hNext at hr
  split at hr
  · rename_i i hx
    have hv := hρ X _ hx
    simp only [VR] at hv
    obtain ⟨l, hm, hv⟩ := hv
    split at hr
    · rename_i s pos hi
      obtain ⟨l', hm', h0, hb⟩ := hH.at_ i _ hi
      rw [hm] at hm'; cases hm'
      have hv' : τ X = .pointer (some ⟨l.b, 0, none⟩) := by rw [hv, h0]
      have hget : (getObj l.b).run P w = .ok (.stringIter s pos) w := by simp [getObj, Sem.run, hb]
      cases hlt : Nat.blt pos s.size with
      | true =>
        rw [hlt] at hr
        simp only [cond_true, fN_eq] at hr
        obtain ⟨h', hk, hg⟩ := Tr.setK_some hr
        rw [blt_iff] at hlt
        have hlt : pos < s.size := by simpa using hlt
        have hblt : l.b < w.heap.size := (Array.getElem?_eq_some_iff.1 hb).1
        refine ⟨_, h', hk, m, { w with heap := w.heap.setIfInBounds l.b (.stringIter s (pos + (Utf8.decode s pos).2)) }, ⟨Le.refl m, rfl, rfl, rfl, by simp, fun b hb' hn => ?_, fun _ _ hh => .inl hh⟩, hH.upd (ob' := .iter s (pos + (Utf8.decode s pos).2)) hi hm ⟨h0, by simp [hblt]⟩ (fun k hk => ?_) (by simp) hg, hd, .tuple #[.bool true, .int .i64 pos, .int .i32 (Utf8.decode s pos).1], ?_, ?_⟩
        · have := hn i l hm
          simp [Array.getElem?_setIfInBounds_ne this]
        · simp [Array.getElem?_setIfInBounds_ne (Ne.symm hk)]
        · simp only [VR]
          refine ⟨[.bool true, .int .i64 pos, .int .i32 (Utf8.decode s pos).1], rfl, ?_⟩
          simp only [VRs, VR]
          exact ⟨_, _, rfl, rfl, _, _, rfl, rfl, _, _, rfl, rfl, rfl⟩
        · have hset : ∀ ob, (setObj l.b ob).run P w = .ok () { w with heap := w.heap.setIfInBounds l.b ob } := by intro ob; simp [setObj, Sem.run, hb]
          unfold execOp; rw [ho]
          simp [Instr.next, hv', hget, hlt, hset, goInt]
      | false =>
        rw [hlt] at hr
        simp only [cond_false] at hr
        rw [blt_iff] at hlt
        have hlt : ¬ pos < s.size := by simpa using hlt
        refine ⟨_, h, hr, m, w, Upd.refl m w, hH, hd, .tuple #[.bool false], ?_, ?_⟩
        · simp only [VR]; refine ⟨[.bool false], rfl, ?_⟩; simp only [VRs, VR]; exact ⟨_, _, rfl, rfl, rfl⟩
        · unfold execOp; rw [ho]
          simp [Instr.next, hv', hget, hlt]
    · cases hr
  · cases hr

/-! ### append -/
def srcA (P : Program) (h : Tr AO) (sz : Nat) (tx : TypeId) (x : Option AV) : Option (Nat × List AV) :=
  match x, P.underlying tx with
  | some (.lit (.slice none 0 _)), some (.slice _) => some (0, [])
  | some (.slc i k off len), some (.slice _) => match h.get i with
    | some (.row _ _ cs) => bif Nat.beq ((cs.drop off).take (len * sz)).length (len * sz) && ((cs.drop off).take (len * sz)).all AV.one then some (len, (cs.drop off).take (len * sz)) else none
    | _ => none
  | some (.lit (.string s)), some .string => bif Nat.beq sz 1 then some (s.size, s.data.toList.map fun b => .lit (.int .u8 b.toNat)) else none
  | _, _ => none
theorem srcA_ok {sz : Nat} {tx : TypeId} {X : Operand} {c : Nat} {l : List AV} (hH : HR m h.get w) (hρ : RK m ρ τ) (hr : srcA P h sz tx (ρ X) = some (c, l)) : ∃ news, VRs m l news ∧ Src P sz tx (τ X) c news w := by
  unfold srcA at hr
  split at hr
  · rename_i q e hx hu
    have hv := hρ X _ hx
    simp only [VR] at hv
    simp only [Option.some.injEq, Prod.mk.injEq] at hr
    obtain ⟨rfl, rfl⟩ := hr
    exact ⟨[], by simp [VRs], by rw [hv]; exact Src.ofNil (w := w) hu q⟩
  · rename_i i k off len e hx hu
    have hv := hρ X _ hx
    simp only [VR] at hv
    obtain ⟨lc, hm, hc, hv⟩ := hv
    split at hr
    · rename_i e' sz' cs hi
      cases hb : Nat.beq ((cs.drop off).take (len * sz)).length (len * sz) && ((cs.drop off).take (len * sz)).all AV.one with
      | false => rw [hb] at hr; simp only [cond_false] at hr; cases hr
      | true =>
        rw [hb] at hr
        simp only [cond_true, Option.some.injEq, Prod.mk.injEq] at hr
        obtain ⟨rfl, rfl⟩ := hr
        simp only [Bool.and_eq_true, Nat.beq_eq] at hb
        obtain ⟨l', hm', hor⟩ := hH.at_ i _ hi
        rw [hm] at hm'; cases hm'
        obtain ⟨vs, h1, h2⟩ := or_cells hor off (len * sz)
        refine ⟨vs, h1, ?_⟩
        rw [hv]
        refine Src.ofSlice w hu _ _ _ _ (by rw [h1.len]; exact hb.1) (fun j u hj => by rw [add_addr]; exact h2 j u hj) fun u hu' => ?_
        obtain ⟨j, hj⟩ := List.getElem?_of_mem hu'
        have hjl : j < ((cs.drop off).take (len * sz)).length := by rw [← h1.len]; exact (List.getElem?_eq_some_iff.1 hj).1
        obtain ⟨v', e1, e2⟩ := h1.get (List.getElem?_eq_getElem hjl)
        rw [hj] at e1; cases e1
        exact e2.one (List.all_eq_true.1 hb.2 _ (List.getElem_mem hjl))
    · cases hr
  · rename_i s hx hu
    have hv := hρ X _ hx
    simp only [VR] at hv
    cases hb : Nat.beq sz 1 with
    | false => rw [hb] at hr; simp only [cond_false] at hr; cases hr
    | true =>
      rw [hb] at hr
      simp only [cond_true, Option.some.injEq, Prod.mk.injEq] at hr
      obtain ⟨rfl, rfl⟩ := hr
      have := Nat.eq_of_beq_eq_true hb
      subst this
      rw [hv]
      refine ⟨byteCells s, ?_, Src.ofString w hu s⟩
      have := VRs.lits (m := m) (byteCells s)
      unfold byteCells at this ⊢
      rw [List.map_map] at this
      exact this
  · cases hr
def hApp (P : Program) (h : Tr AO) (n : Nat) (ρ : Operand → Option AV) (c : Call) (k : AV → Tr AO → Nat → Option β) : Option β :=
  match c.callee, c.args.toList, c.argTypes.toList with
  | .builtin .append, [s, x], [t, tx] => match P.underlying t with
    | some (.slice e) => match P.info? e with
      | some inf => match inf.zero with
        | some z => match srcA P h inf.size tx (ρ x) with
          | some (cnt, news) => match ρ s with
            | some (.lit (.slice none 0 0)) => bif Nat.beq cnt 0 then k (.lit (.slice none 0 0)) h n
                else bif Nat.ble (cnt * inf.bytes) 140737488355328 && Nat.ble cnt 1000000 && Nat.beq z.cells.size inf.size then
                  fL news fun cs => Tr.setK (some (.row e inf.size cs)) 40 h n fun h => k (.slc n 0 0 cnt) h (Nat.succ n)
                else none
            | some (.slc i a off len) => bif Nat.beq cnt 0 then k (.slc i a off len) h n
                else match h.get i with
                | some (.row e' sz cs) => bif Nat.beq e' e && Nat.beq sz inf.size && Nat.beq off (a * sz) && Nat.beq ((cs.drop off).take (len * sz)).length (len * sz) && Nat.ble ((len + cnt) * inf.bytes) 140737488355328 && Nat.ble (len + cnt) 1000000 && Nat.beq z.cells.size inf.size && Nat.blt i n then
                    fL ((cs.drop off).take (len * sz) ++ news) fun cs => Tr.setK none 40 h i fun h => Tr.setK (some (.row e inf.size cs)) 40 h n fun h => fN (len + cnt) fun len => k (.slc n 0 0 len) h (Nat.succ n)
                  else none
                | _ => none
            | _ => none
          | none => none
        | none => none
      | none => none
    | _ => none
  | _, _, _ => none
/-- the new map -/
def put1 (m : LM) (n : Nat) (l : Lc) : LM := fun i => if i = n then some l else m i
theorem put1_le {n : Nat} {l : Lc} (hd : Dom m n) : Le m (put1 m n l) := by
  intro i l' hi
  have := hd i l' hi
  unfold put1
  rw [if_neg (by omega)]; exact hi
theorem put1_dom {n : Nat} {l : Lc} (hd : Dom m n) : Dom (put1 m n l) (n + 1) := by
  intro i l' hi
  unfold put1 at hi
  split at hi
  · omega
  · have := hd i l' hi; omega
/-- an object more -/
theorem HR.add {H H' : Nat → Option AO} {w' : World} {l : Lc} {ob : AO} (hH : HR m H w) (hd : Dom m n) (hb : OR (put1 m n l) l w' ob) (hfr : ∀ i o l', H i = some o → m i = some l' → l'.b ≠ l.b) (hk : ∀ b, b < w.heap.size → b ≠ l.b → w'.heap[b]? = w.heap[b]?) (hsz : w.heap.size ≤ w'.heap.size)
    (hg : ∀ j, H' j = if j = n then some ob else H j) : HR (put1 m n l) H' w' := by
  refine ⟨fun j o hj => ?_, fun j j' o o' l1 l2 hne hj hj' h1 h2 => ?_, fun j lj hj => by
    unfold put1 at hj
    split at hj
    · cases hj; exact hb.lt
    · exact Nat.lt_of_lt_of_le (hH.bb j lj hj) hsz⟩
  · rw [hg] at hj
    split at hj
    · rename_i e; subst e; cases hj
      exact ⟨l, by simp [put1], hb⟩
    · obtain ⟨l', h1, h2⟩ := hH.at_ j o hj
      exact ⟨l', put1_le hd _ _ h1, (h2.mono (put1_le hd)).keep (hk _ h2.lt (hfr j o l' hj h1))⟩
  · rw [hg] at hj hj'
    unfold put1 at h1 h2
    split at hj
    · rename_i e
      rw [if_pos e] at h1; cases h1
      rw [if_neg (by omega)] at hj'
      rw [if_neg (by omega)] at h2
      exact (hfr j' o' l2 hj' h2).symm
    · rename_i e
      rw [if_neg e] at h1
      split at hj'
      · rename_i e'
        rw [if_pos e'] at h2; cases h2
        exact hfr j o l1 hj h1
      · rename_i e'
        rw [if_neg e'] at h2
        exact hH.sep j j' o o' l1 l2 hne hj hj' h1 h2
theorem HR.drop {H H' : Nat → Option AO} {i : Nat} (hH : HR m H w) (hg : ∀ j, H' j = if j = i then none else H j) : HR m H' w := by
  have key : ∀ {j o}, H' j = some o → H j = some o := by
    intro j o hj
    rw [hg] at hj
    split at hj
    · cases hj
    · exact hj
  exact ⟨fun j o hj => hH.at_ j o (key hj), fun j j' o o' l1 l2 hne hj hj' h1 h2 => hH.sep j j' o o' l1 l2 hne (key hj) (key hj') h1 h2, hH.bb⟩
theorem hApp_ok {c : Call} {k : AV → Tr AO → Nat → Option β} {r : β} (hH : HR m h.get w) (hd : Dom m n) (hρ : RK m ρ τ) (hr : hApp P h n ρ c k = some r) (ho : o.op = .call c) :
    ∃ a h' n', k a h' n' = some r ∧ HOk P m w τ o h'.get n' (some a) := by
  unfold hApp at hr
  split at hr
  · rename_i s x t tx hcal hargs htys
    obtain ⟨ce, as, ats⟩ := c
    simp only at hcal hargs htys
    subst hcal
    have e1 : as = #[s, x] := by apply Array.ext'; simpa using hargs
    have e2 : ats = #[t, tx] := by apply Array.ext'; simpa using htys
    subst e1 e2
    split at hr
    · rename_i e hu
      split at hr
      · rename_i inf hi
        split at hr
        · rename_i z hz
          split at hr
          · rename_i cnt nws hsrc
            obtain ⟨news, hn1, hn2⟩ := srcA_ok hH hρ hsrc
            have hop : ∀ {v w'}, (Builtin.append_ #[t, tx] o.type #[τ s, τ x]).run P w = .ok v w' → (execOp τ o).run P w = .ok (.value v) w' := by
              intro v w' hh
              unfold execOp; rw [ho]
              simp [resolve, invoke, builtin, hh]
            split at hr
            · rename_i hs
              have hv := hρ s _ hs
              simp only [VR] at hv
              cases hb : Nat.beq cnt 0 with
              | true =>
                rw [hb] at hr
                simp only [cond_true] at hr
                have := Nat.eq_of_beq_eq_true hb
                subst this
                refine ⟨_, h, n, hr, m, w, Upd.refl m w, hH, hd, _, VR.lit _, hop ?_⟩
                rw [hv]
                rcases hn2.kind with ⟨e', hk⟩ | hk <;> simp [Builtin.append_, run_underlying hu, run_underlying hk, sizeOf, typeInfo, hi, hn2.len, hn2.cells]
              | false =>
                rw [hb] at hr
                simp only [cond_false] at hr
                have hc0 := Nat.ne_of_beq_eq_false hb
                cases hb2 : Nat.ble (cnt * inf.bytes) 140737488355328 && Nat.ble cnt 1000000 && Nat.beq z.cells.size inf.size with
                | false => rw [hb2] at hr; simp only [cond_false] at hr; cases hr
                | true =>
                  rw [hb2] at hr
                  simp only [cond_true, fL_eq] at hr
                  obtain ⟨h', hk, hg⟩ := Tr.setK_some hr
                  simp only [Bool.and_eq_true, Nat.beq_eq, Nat.ble_eq] at hb2
                  obtain ⟨⟨hb3, hb4⟩, hb5⟩ := hb2
                  have hrun := run_append_grow_src (P := P) w t tx o.type e inf z hu hi hz none 0 0 [] (run_firstCells_none w.drew inf.size 0 0 0) (τ x) cnt news hn2 (by omega) (by omega) (growslice_fits (by omega) (by simpa using hb3))
                  have hge := grownCap_ge w (0 + cnt) 0 e
                  have hnl := hn2.newsLen
                  refine ⟨_, h', _, hk, put1 m n ⟨w.heap.size, 0, grownCap w (0 + cnt) 0 e⟩, w.drew.alloc (.cells (([] ++ news).toArray ++ Builtin.zeroCells z.cells (grownCap w (0 + cnt) 0 e - (0 + cnt))) e), ⟨put1_le hd, rfl, rfl, rfl, by simp, fun b hb' _ => Below.heap_alloc w.drew _ b (by simpa using hb'), fun i l hl => ?_⟩, HR.add hH hd ?_ (fun i o' l' h1 h2 => ?_) (fun b hb' _ => Below.heap_alloc w.drew _ b (by simpa using hb')) (by simp) hg, put1_dom hd, _, ?_, hop (by rw [hv]; exact hrun)⟩
                  · unfold put1 at hl
                    split at hl
                    · cases hl; exact .inr (.inr ⟨Nat.le_refl _, by simp⟩)
                    · exact .inl hl
                  · refine ⟨([] ++ news).toArray ++ Builtin.zeroCells z.cells (grownCap w (0 + cnt) 0 e - (0 + cnt)), news, (0, 0), heap_alloc_new w.drew _, .inl rfl, VRs.mono (put1_le hd) hn1, ?_, fun j v hj => ?_⟩
                    · simp only [Nat.zero_add, List.nil_append, Array.size_append, List.size_toArray, size_zeroCells, hb5, hnl, ← Nat.add_mul]
                      rw [Nat.zero_add] at hge
                      rw [Nat.add_sub_of_le hge]; exact Nat.le_refl _
                    · have hjl := (List.getElem?_eq_some_iff.1 hj).1
                      simp only [Nat.zero_add, List.nil_append]
                      rw [Array.getElem?_append_left (by simpa using hjl)]
                      simpa using hj
                  · obtain ⟨l2, h3, h4⟩ := hH.at_ i o' h1
                    rw [h2] at h3; cases h3
                    have := h4.lt
                    simp only; omega
                  · simp only [VR]
                    exact ⟨⟨w.heap.size, 0, grownCap w (0 + cnt) 0 e⟩, by simp [put1], by simpa using hge, by simp⟩
            · rename_i i a off len hs
              have hv := hρ s _ hs
              have hv0 := hv
              simp only [VR] at hv
              obtain ⟨l, hm, hcl, hv⟩ := hv
              cases hb : Nat.beq cnt 0 with
              | true =>
                rw [hb] at hr
                simp only [cond_true] at hr
                have := Nat.eq_of_beq_eq_true hb
                subst this
                have hnil : news = [] := List.eq_nil_of_length_eq_zero (by rw [hn2.newsLen]; simp)
                refine ⟨_, h, n, hr, m, w, Upd.refl m w, hH, hd, _, hv0, hop ?_⟩
                rw [hv]
                have hle : len ≤ l.c - a := by omega
                have hcells := hn2.cells
                rw [hnil] at hcells
                rcases hn2.kind with ⟨e', hk⟩ | hk <;> simp [Builtin.append_, run_underlying hu, run_underlying hk, sizeOf, typeInfo, hi, hn2.len, hle, hcells, storeCells]
              | false =>
                rw [hb] at hr
                simp only [cond_false] at hr
                have hc0 := Nat.ne_of_beq_eq_false hb
                split at hr
                · rename_i e' sz cs hhi
                  cases hb2 : Nat.beq e' e && Nat.beq sz inf.size && Nat.beq off (a * sz) && Nat.beq ((cs.drop off).take (len * sz)).length (len * sz) && Nat.ble ((len + cnt) * inf.bytes) 140737488355328 && Nat.ble (len + cnt) 1000000 && Nat.beq z.cells.size inf.size && Nat.blt i n with
                  | false => rw [hb2] at hr; simp only [cond_false] at hr; cases hr
                  | true =>
                    rw [hb2] at hr
                    simp only [cond_true, fL_eq, fN_eq] at hr
                    obtain ⟨h1, hk1, hg1⟩ := Tr.setK_some hr
                    obtain ⟨h', hk, hg⟩ := Tr.setK_some hk1
                    simp only [Bool.and_eq_true, Nat.beq_eq, Nat.ble_eq, blt_iff, decide_eq_true_eq] at hb2
                    obtain ⟨⟨⟨⟨⟨⟨⟨rfl, rfl⟩, rfl⟩, hb3⟩, hb4⟩, hb5⟩, hb6⟩, hb7⟩ := hb2
                    obtain ⟨l', hm', hor⟩ := hH.at_ i _ hhi
                    rw [hm] at hm'; cases hm'
                    obtain ⟨olds, ho1, ho2⟩ := or_cells hor (a * inf.size) (len * inf.size)
                    have hol : olds.length = len * inf.size := by rw [ho1.len]; exact hb3
                    obtain ⟨arr, vs, fr, q1, q2, q3, q4, q5⟩ := hor
                    have hnl := hn2.newsLen
                    have hH1 : HR m h1.get w := hH.drop hg1
                    have hnoi : ∀ j o' l', h1.get j = some o' → m j = some l' → j ≠ i ∧ l'.b ≠ l.b := by
                      intro j o' l' hj hl'
                      rw [hg1] at hj
                      split at hj
                      · cases hj
                      · rename_i hne
                        exact ⟨hne, hH.sep j i o' _ l' l hne hj hhi hl' hm⟩
                    by_cases hroom : len + cnt ≤ l.c - a
                    · have hfit : l.o + a * inf.size + len * inf.size + news.length ≤ arr.size := by
                        have h2 : (a + (len + cnt)) * inf.size ≤ l.c * inf.size := Nat.mul_le_mul_right _ (by omega)
                        rw [Nat.add_mul, Nat.add_mul] at h2
                        rw [hnl]; omega
                      have hrun := run_append_room_src (P := P) w t tx o.type e' inf hu hi l.b (l.o + a * inf.size) len (l.c - a) (τ x) cnt news hn2 hroom
                        (fun j hj => by rw [cell_of_row w l.b _ arr _ fr q1]; simp; omega) (fun j hj => not_frozen q1 q2 (by omega))
                      obtain ⟨b1, b2, b3, b4, b5, b6⟩ := setCells_row news q1 (p := l.o + a * inf.size + len * inf.size) hfit
                      refine ⟨_, h', _, hk, put1 m n ⟨l.b, l.o + a * inf.size, l.c - a⟩, w.setCells l.b (l.o + a * inf.size + len * inf.size) news, ⟨put1_le hd, b3, b4, b5, by rw [b2]; exact Nat.le_refl _, fun b hb' hnb => b6 b fun e2 => hnb i l hm e2.symm, fun j lj hl => ?_⟩, HR.add hH1 hd ?_ (fun j o' lj h2 h3 => (hnoi j o' lj h2 h3).2) (fun b hb' hne => b6 b hne) (by rw [b2]; exact Nat.le_refl _) hg, put1_dom hd, _, ?_, hop (by rw [hv]; exact hrun)⟩
                      · unfold put1 at hl
                        split at hl
                        · cases hl; exact .inr (.inl ⟨i, l, hm, rfl⟩)
                        · exact .inl hl
                      · refine ⟨_, olds ++ news, fr, b1, by simpa [putV_len] using q2, VRs.append (VRs.mono (put1_le hd) ho1) (VRs.mono (put1_le hd) hn1), ?_, fun j v hj => ?_⟩
                        · simp only [List.size_toArray, putV_len, Array.length_toList]
                          have : a * inf.size + (l.c - a) * inf.size = l.c * inf.size := by rw [← Nat.add_mul]; congr 1; omega
                          omega
                        · dsimp only
                          rw [List.getElem?_toArray, putV_get (by simpa using hfit)]
                          rw [List.getElem?_append] at hj
                          split at hj
                          · rename_i hlt
                            rw [if_neg (by omega)]
                            have := ho2 j v hj
                            rw [cell_of_row w l.b _ arr _ fr q1] at this
                            simpa using this
                          · rename_i hlt
                            have hjl := (List.getElem?_eq_some_iff.1 hj).1
                            rw [if_pos (by omega)]
                            have : l.o + a * inf.size + j - (l.o + a * inf.size + len * inf.size) = j - olds.length := by omega
                            rw [this]; exact hj
                      · simp only [VR]
                        exact ⟨⟨l.b, l.o + a * inf.size, l.c - a⟩, by simp [put1], by simpa using hroom, by simp⟩
                    · have hlt : l.c - a < len + cnt := by omega
                      have hfc := run_firstCells_some (P := P) w.drew inf.size len ⟨l.b, l.o + a * inf.size, none⟩ len (l.c - a) olds hol (fun j u hj => by rw [add_addr]; simpa using ho2 j u hj)
                      have hrun := run_append_grow_src (P := P) w t tx o.type e' inf z hu hi hz (some ⟨l.b, l.o + a * inf.size, none⟩) len (l.c - a) olds hfc (τ x) cnt news hn2 hlt (by omega) (growslice_fits hlt (by simpa using hb4))
                      have hge := grownCap_ge w (len + cnt) (l.c - a) e'
                      refine ⟨_, h', _, hk, put1 m n ⟨w.heap.size, 0, grownCap w (len + cnt) (l.c - a) e'⟩, w.drew.alloc (.cells ((olds ++ news).toArray ++ Builtin.zeroCells z.cells (grownCap w (len + cnt) (l.c - a) e' - (len + cnt))) e'), ⟨put1_le hd, rfl, rfl, rfl, by simp, fun b hb' _ => Below.heap_alloc w.drew _ b (by simpa using hb'), fun j lj hl => ?_⟩, HR.add hH1 hd ?_ (fun j o' lj h2 h3 => ?_) (fun b hb' _ => Below.heap_alloc w.drew _ b (by simpa using hb')) (by simp) hg, put1_dom hd, _, ?_, hop (by rw [hv]; exact hrun)⟩
                      · unfold put1 at hl
                        split at hl
                        · cases hl; exact .inr (.inr ⟨Nat.le_refl _, by simp⟩)
                        · exact .inl hl
                      · refine ⟨(olds ++ news).toArray ++ Builtin.zeroCells z.cells (grownCap w (len + cnt) (l.c - a) e' - (len + cnt)), olds ++ news, (0, 0), heap_alloc_new w.drew _, .inl rfl, VRs.append (VRs.mono (put1_le hd) ho1) (VRs.mono (put1_le hd) hn1), ?_, fun j v hj => ?_⟩
                        · simp only [Nat.zero_add, Array.size_append, List.size_toArray, List.length_append, size_zeroCells, hb6, hnl, hol, ← Nat.add_mul]
                          rw [Nat.add_sub_of_le hge]; exact Nat.le_refl _
                        · have hjl := (List.getElem?_eq_some_iff.1 hj).1
                          rw [Nat.zero_add, Array.getElem?_append_left (by simpa using hjl)]
                          simpa using hj
                      · obtain ⟨l2, h4, h5⟩ := hH1.at_ j o' h2
                        rw [h3] at h4; cases h4
                        have := h5.lt
                        simp only; omega
                      · simp only [VR]
                        exact ⟨⟨w.heap.size, 0, grownCap w (len + cnt) (l.c - a) e'⟩, by simp [put1], by simpa using hge, by simp⟩
                · cases hr
            · cases hr
          · cases hr
        · cases hr
      · cases hr
    · cases hr
  · cases hr
end
end Go.Ev
