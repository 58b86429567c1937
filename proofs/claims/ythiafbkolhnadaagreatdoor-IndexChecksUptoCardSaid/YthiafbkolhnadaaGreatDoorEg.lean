/-
  Code and its steps.
-/
import Derived.Test.YthiafbkolhnadaaGreatDoorEf
import Derived.Scope
import Derived.Recover
set_option linter.unusedVariables false
set_option linter.unusedSimpArgs false
namespace Go.Ev
open Go Go.RowKit Go.Dk

/-- a deferred call -/
structure ADef where
  f : FuncId
  args : List AV
def DR (P : Program) (m : LM) (d : ADef) (D : Deferred) : Prop := ∃ fv cap vals, D.target = .fn fv cap ∧ VRs m d.args vals ∧ ∀ w, (invoke D.target D.args).run P w = (callFunc d.f vals.toArray).run P w
def DRs (P : Program) (m : LM) : List ADef → List Deferred → Prop
  | [], D => D = []
  | d :: l, D => ∃ D1 D2, D = D1 :: D2 ∧ DR P m d D1 ∧ DRs P m l D2
theorem DR.mono {P : Program} {m m' : LM} (h : Le m m') {d : ADef} {D : Deferred} (e : DR P m d D) : DR P m' d D := by
  obtain ⟨fv, cap, vals, h1, h2, h3⟩ := e
  exact ⟨fv, cap, vals, h1, VRs.mono h h2, h3⟩
theorem DRs.mono {P : Program} {m m' : LM} (h : Le m m') : ∀ {l : List ADef} {D : List Deferred}, DRs P m l D → DRs P m' l D
  | [], D, e => e
  | d :: l, D, e => by
    obtain ⟨D1, D2, h1, h2, h3⟩ := e
    exact ⟨D1, D2, h1, h2.mono h, DRs.mono h h3⟩
/-- where a body stands -/
structure Sg where
  env : Tr AV
  ds : List ADef
  h : Tr AO
  n : Nat
structure SR (P : Program) (m : LM) (s : Sg) (sz : Nat) (a : Act) (w : World) : Prop where
  hr : HR m s.h.get w
  dom : Dom m s.n
  sz : a.tmps.size = sz
  env : ∀ t x, s.env.get t = some x → ∃ v, a.tmps[t]? = some v ∧ VR m x v
  ds : DRs P m s.ds a.defers
/-- how code ends -/
inductive Out where
  | nrm
  | exit (id : Nat)
  | ret
  | pan (x : AV)
def OutR (m : LM) : Out → Exit → Prop
  | .nrm, e => e = .normal
  | .exit id, e => e = .exit id
  | .ret, e => e = .ret
  | .pan x, e => ∃ v, e = .panic [⟨v, false, false⟩] ∧ VR m x v

def oA (env : Tr AV) : Operand → Option AV
  | .tmp t => env.get t
  | .const v => some (.lit v)
  | .global g => some (.lit (.pointer (some ⟨g, 0, none⟩)))
  | .func f => some (.lit (.func (.func f) #[] #[]))
section
variable {P : Program} {E : Env0} {cf : CF} {m : LM} {w : World} {a : Act} {s : Sg} {sz : Nat} {β : Type} {ops : Array Oper} {o : Oper}
theorem SR.rk (h : SR P m s sz a w) : RK m (oA s.env) a.eval := by
  intro x y hx
  cases x with
  | tmp t =>
    obtain ⟨v, h1, h2⟩ := h.env t y hx
    have : a.eval (.tmp t) = v := by simp [Act.eval, Array.getD_eq_getD_getElem?, h1]
    rw [this]; exact h2
  | const v => simp only [oA, Option.some.injEq] at hx; subst hx; exact VR.lit v
  | global g => simp only [oA, Option.some.injEq] at hx; subst hx; exact VR.lit _
  | func f => simp only [oA, Option.some.injEq] at hx; subst hx; exact VR.lit _
def putE (d : Option Tmp) (sz : Nat) (x : AV) (env : Tr AV) (k : Tr AV → Option β) : Option β :=
  match d with
  | none => k env
  | some d => bif Nat.blt d sz then fA x fun x => Tr.setK (some x) 20 env d k else none
theorem SR.put {m' : LM} {w' : World} {h' : Tr AO} {n' : Nat} {x : AV} {v : Value} {d : Option Tmp} {k : Tr AV → Option β} {r : β} (hs : SR P m s sz a w) (hk : putE d sz x s.env k = some r) :
    ∃ env', k env' = some r ∧ ∀ {m' w' h' n' v}, Upd m w m' w' → HR m' (Tr.get h') w' → Dom m' n' → VR m' x v → SR P m' ⟨env', s.ds, h', n'⟩ sz (a.put d v) w' := by
  cases d with
  | none =>
    exact ⟨s.env, hk, fun hu hr hd hx => ⟨hr, hd, hs.sz, fun t y hy => by
      obtain ⟨v, h1, h2⟩ := hs.env t y hy
      exact ⟨v, h1, h2.mono hu.le⟩, hs.ds.mono hu.le⟩⟩
  | some d =>
    simp only [putE, fA_eq] at hk
    cases hb : Nat.blt d sz with
    | false => rw [hb] at hk; simp only [cond_false] at hk; cases hk
    | true =>
      rw [hb] at hk
      simp only [cond_true] at hk
      obtain ⟨env', h1, h2⟩ := Tr.setK_some hk
      rw [blt_iff] at hb
      have hlt : d < sz := by simpa using hb
      refine ⟨env', h1, fun hu hr hd hx => ⟨hr, hd, by simp [Act.put, hs.sz], fun t y hy => ?_, hs.ds.mono hu.le⟩⟩
      simp only at hy
      rw [h2] at hy
      simp only [Act.put, Array.getElem?_setIfInBounds]
      split at hy
      · rename_i e; subst e; cases hy
        rw [if_pos rfl, if_pos (by rw [hs.sz]; exact hlt)]
        exact ⟨_, rfl, hx⟩
      · rename_i e
        rw [if_neg (fun e' => e e'.symm)]
        obtain ⟨v, q1, q2⟩ := hs.env t y hy
        exact ⟨v, q1, q2.mono hu.le⟩
/-- does the guard let it run? -/
def wantE (env : Tr AV) (ops : Array Oper) (o : Oper) : Option Bool :=
  match o.guard with
  | none => some true
  | some (j, want) => match (ops[j]?).bind (·.dst) with
    | none => some false
    | some t => match env.get t with
      | some (.lit (.bool b)) => some (b == want)
      | some (.lit (.tuple _)) => some false
      | _ => none
theorem wantE_ok {b : Bool} (hs : SR P m s sz a w) (h : wantE s.env ops o = some b) : Region.wanted o (yielded ops a.tmps) = b := by
  unfold wantE at h
  unfold Region.wanted
  split at h
  · rename_i hg; simp only [Option.some.injEq] at h; simp [hg, h]
  · rename_i j want hg
    simp only [hg]
    split at h
    · rename_i ht
      simp only [Option.some.injEq] at h; subst h
      simp [yielded, ht]
    · rename_i t ht
      split at h
      · rename_i q hq
        obtain ⟨v, h1, h2⟩ := hs.env t _ hq
        simp only [VR] at h2
        subst h2
        simp only [Option.some.injEq] at h; subst h
        simp only [yielded, ht, Option.bind_some, h1]
        cases q <;> cases want <;> rfl
      · rename_i q hq
        obtain ⟨v, h1, h2⟩ := hs.env t _ hq
        simp only [VR] at h2
        subst h2
        simp only [Option.some.injEq] at h; subst h
        simp only [yielded, ht, Option.bind_some, h1]
        rfl
      · cases h

/-- a deferred call is put by -/
theorem target_res {c : Call} {f : FuncId} {as : List AV} {ty : TypeId} {τ : Operand → Value} {ρ : Operand → Option AV} (hρ : RK m ρ τ) (h : target P ρ c = some (f, as)) (hτ : ∀ k, τ (.func k) = .func (.func k) #[] #[]) :
    (∃ r name, c.callee = .invoke r name) ∨ ∃ D, (resolve τ c ty).run P w = .ok D w ∧ DR P m ⟨f, as⟩ D := by
  unfold target at h
  split at h
  · rename_i k hc
    refine .inr ?_
    split at h
    · rename_i as' has
      simp only [Option.some.injEq, Prod.mk.injEq] at h
      obtain ⟨rfl, rfl⟩ := h
      have e : c.args.map τ = (c.args.toList.map τ).toArray := by apply Array.ext'; simp
      exact ⟨⟨.fn (.func k) #[], c.args.map τ⟩, by simp [resolve, hc, hτ, Deferred.ofValue], _, _, _, rfl, opsL_rel hρ has, fun w' => by simp [invoke, e]⟩
    · cases h
  · rename_i x hx hc
    refine .inr ?_
    have e : c.args.map τ = (c.args.toList.map τ).toArray := by apply Array.ext'; simp
    split at h
    · rename_i as' k ca has hf
      simp only [Option.some.injEq, Prod.mk.injEq] at h
      obtain ⟨rfl, rfl⟩ := h
      have hv := hρ x _ hf
      simp only [VR] at hv
      obtain ⟨vs, hv, hvs⟩ := hv
      exact ⟨⟨.fn (.func k) vs.toArray, c.args.map τ⟩, by simp [resolve, hc, hv, Deferred.ofValue], _, _, _, rfl, VRs.append (opsL_rel hρ has) hvs, fun w' => by simp [invoke, e]⟩
    · rename_i as' k fi ca has hf
      split at h
      · rename_i hfi hca
        simp only [Option.some.injEq, Prod.mk.injEq] at h
        obtain ⟨rfl, rfl⟩ := h
        have hv := hρ x _ hf
        simp only [VR] at hv
        have e1 : fi = #[] := by apply Array.ext'; simpa using hfi
        have e2 : ca = #[] := by apply Array.ext'; simpa using hca
        subst e1 e2
        exact ⟨⟨.fn (.func k) #[], c.args.map τ⟩, by simp [resolve, hc, hv, Deferred.ofValue], _, _, _, rfl, opsL_rel hρ has, fun w' => by simp [invoke, e]⟩
      · cases h
    · cases h
  · rename_i r name hc
    exact .inl ⟨r, name, hc⟩
  · cases h

/-- one operation -/
def stepE (P : Program) (E : Env0) (cf : CF) (ops : Array Oper) (sz : Nat) (o : Oper) (s : Sg) (k : Sg → Option β) (kp : AV → Sg → Option β) : Option β :=
  match wantE s.env ops o with
  | some false => putE o.dst sz (.lit undef) s.env fun env => k ⟨env, s.ds, s.h, s.n⟩
  | some true => match light P s.h.get s.n (oA s.env) o with
    | some (.val x) => putE o.dst sz x s.env fun env => k ⟨env, s.ds, s.h, s.n⟩
    | some (.new x ob) => fO ob fun ob => Tr.setK (some ob) 40 s.h s.n fun h => putE o.dst sz x s.env fun env => fN (Nat.succ s.n) fun n => k ⟨env, s.ds, h, n⟩
    | none => match o.op with
      | .defer c => match c.callee with
        | .invoke _ _ => none
        | _ => match target P (oA s.env) c with
          | some (f, as) => putE o.dst sz (.lit undef) s.env fun env => k ⟨env, ⟨f, as⟩ :: s.ds, s.h, s.n⟩
          | none => none
      | _ => heavyE P E cf (oA s.env) o s.h s.n (fun av h n => putE o.dst sz (match av with | some x => x | none => .lit undef) s.env fun env => fN n fun n => k ⟨env, s.ds, h, n⟩) (fun x h n => fN n fun n => kp x ⟨s.env, s.ds, h, n⟩)
  | none => none
theorem step_ok {k : Sg → Option β} {kp : AV → Sg → Option β} {r : β} (hE : EnvOk P E) (hcf : CFOk P cf) (hs : SR P m s sz a w) (h : stepE P E cf ops sz o s k kp = some r) :
    (∃ s', k s' = some r ∧ ∀ (K : Act → World → Prop) (Q : Exit → Act → World → Prop), (∀ m' a' w', Upd m w m' w' → SR P m' s' sz a' w' → K a' w') → if Region.wanted o (yielded ops a.tmps) then o.wp P a w K Q else K (a.put o.dst undef) w) ∨
    (∃ x s', kp x s' = some r ∧ ∀ (K : Act → World → Prop) (Q : Exit → Act → World → Prop), (∀ m' w' v, Upd m w m' w' → SR P m' s' sz a w' → VR m' x v → Q (.panic [⟨v, false, false⟩]) a w') → if Region.wanted o (yielded ops a.tmps) then o.wp P a w K Q else K (a.put o.dst undef) w) := by
  unfold stepE at h
  split at h
  · rename_i hw
    have hw' := wantE_ok hs hw
    obtain ⟨env', h1, h2⟩ := SR.put (m' := m) (w' := w) (h' := s.h) (n' := s.n) (v := undef) hs h
    refine .inl ⟨_, h1, fun K Q hK => ?_⟩
    rw [hw']
    exact hK m _ w (Upd.refl m w) (h2 (Upd.refl m w) hs.hr hs.dom (VR.lit _))
  · rename_i hw
    have hw' := wantE_ok hs hw
    rw [hw']
    simp only [if_true]
    split at h
    · rename_i x hl
      have hop := light_opv hs.hr hs.dom hs.rk hl
      simp only at hop
      obtain ⟨env', h1, h2⟩ := SR.put (m' := m) (w' := w) (h' := s.h) (n' := s.n) (v := undef) hs h
      refine .inl ⟨_, h1, fun K Q hK => ?_⟩
      exact hop K Q fun m' w' v hu hr hd hx => hK m' _ w' hu (h2 hu hr hd hx)
    · rename_i x ob hl
      rw [fO_eq] at h
      obtain ⟨h', h3, h4⟩ := Tr.setK_some h
      have hop := light_opv hs.hr hs.dom hs.rk hl
      simp only at hop
      have hop := hop h' h4
      obtain ⟨env', h1, h2⟩ := SR.put (m' := m) (w' := w) (h' := s.h) (n' := s.n) (v := undef) hs h3
      rw [fN_eq] at h1
      refine .inl ⟨_, h1, fun K Q hK => ?_⟩
      exact hop K Q fun m' w' v hu hr hd hx => hK m' _ w' hu (h2 hu hr hd hx)
    · split at h
      · rename_i c ho
        split at h
        · cases h
        · rename_i hni
          split at h
          · rename_i f as ht
            obtain ⟨env', h1, h2⟩ := SR.put (m' := m) (w' := w) (h' := s.h) (n' := s.n) (v := undef) hs h
            refine .inl ⟨_, h1, fun K Q hK => ?_⟩
            rcases target_res (w := w) (ty := o.type) hs.rk ht (fun k => rfl) with ⟨r', name, hc⟩ | ⟨D, hD1, hD2⟩
            · exact absurd hc (hni r' name)
            · have hrun : (execOp a.eval o).run P w = .ok (.defer D) w := by
                unfold execOp; rw [ho]; simp [hD1]
              unfold Oper.wp
              rw [hrun]
              have h3 := h2 (Upd.refl m w) hs.hr hs.dom (VR.lit undef)
              have e : (({ a with defers := D :: a.defers } : Act).put o.dst undef) = { a.put o.dst undef with defers := D :: (a.put o.dst undef).defers } := by cases o.dst <;> rfl
              show K (({ a with defers := D :: a.defers } : Act).put o.dst undef) w
              refine hK m _ w (Upd.refl m w) ⟨h3.hr, h3.dom, ?_, ?_, ?_⟩
              · rw [e]; exact h3.sz
              · rw [e]; exact h3.env
              · rw [e]; exact ⟨D, _, rfl, hD2, by have := h3.ds; simpa using this⟩
          · cases h
      · rcases heavy_ok hE hcf hs.hr hs.dom hs.rk h with ⟨av, h', n', h3, h4⟩ | ⟨x, h', n', h3, h4⟩
        · obtain ⟨env', h1, h2⟩ := SR.put (m' := m) (w' := w) (h' := s.h) (n' := s.n) (v := undef) hs h3
          rw [fN_eq] at h1
          refine .inl ⟨_, h1, fun K Q hK => ?_⟩
          refine h4 K Q fun m' w' v hu hr hd hx => hK m' _ w' hu (h2 hu hr hd ?_)
          cases av with
          | some x => exact hx
          | none => rw [hx]; exact VR.lit _
        · rw [fN_eq] at h3
          refine .inr ⟨x, _, h3, fun K Q hQ => ?_⟩
          refine h4 K Q fun m' w' v hu hr hd hx => hQ m' w' v hu ⟨hr, hd, hs.sz, fun t y hy => ?_, hs.ds.mono hu.le⟩ hx
          obtain ⟨v, q1, q2⟩ := hs.env t y hy
          exact ⟨v, q1, q2.mono hu.le⟩
  · cases h

/-- operations in turn -/
def opsE (P : Program) (E : Env0) (cf : CF) (ops : Array Oper) (sz : Nat) : List Oper → Sg → Option (Out × Sg)
  | [], s => some (.nrm, s)
  | o :: l, s => stepE P E cf ops sz o s (fun s => opsE P E cf ops sz l s) (fun x s => some (.pan x, s))
/-- what reckoned code says of the code -/
def Good (P : Program) (m : LM) (w : World) (sz : Nat) (out : Out) (s' : Sg) (Q : Exit → Act → World → Prop) : Prop :=
  ∀ m' a' w' e, Upd m w m' w' → SR P m' s' sz a' w' → OutR m' out e → Q e a' w'
theorem Good.from {m m1 : LM} {w w1 : World} {out : Out} {s' : Sg} {Q : Exit → Act → World → Prop} (h : Good P m w sz out s' Q) (hu : Upd m w m1 w1) : Good P m1 w1 sz out s' Q :=
  fun m' a' w' e hu' hs ho => h m' a' w' e (hu.trans hu') hs ho
theorem ops_ok (hE : EnvOk P E) (hcf : CFOk P cf) : ∀ {l : List Oper} {s : Sg} {m : LM} {w : World} {a : Act} {out : Out} {s' : Sg} {Q : Exit → Act → World → Prop}, SR P m s sz a w → opsE P E cf ops sz l s = some (out, s') → Good P m w sz out s' Q → wpList P ops Q l a w
  | [], s, m, w, a, out, s', Q, hs, h, hg => by
    simp only [opsE, Option.some.injEq, Prod.mk.injEq] at h
    obtain ⟨rfl, rfl⟩ := h
    exact hg m a w .normal (Upd.refl m w) hs rfl
  | o :: l, s, m, w, a, out, s', Q, hs, h, hg => by
    simp only [opsE] at h
    refine wpList_step fun K hK => ?_
    rcases step_ok hE hcf hs h with ⟨s1, h1, h2⟩ | ⟨x, s1, h1, h2⟩
    · exact h2 K Q fun m' a' w' hu hs' => hK a' w' (ops_ok hE hcf hs' h1 (hg.from hu))
    · simp only [Option.some.injEq, Prod.mk.injEq] at h1
      obtain ⟨rfl, rfl⟩ := h1
      exact h2 K Q fun m' w' v hu hs' hx => hg m' a w' _ hu hs' ⟨v, rfl, hx⟩

/-! ### loops -/
def Rd (P : Program) (c : Code) (Q : Exit → Act → World → Prop) (a : Act) (w : World) : Prop :=
  ∀ (b : Frame) (k : List Item) (cs : List Frame), ∃ e a' w', Q e a' w' ∧ Arrives P (lone (b.at a (.code c :: .inLoop c :: k)) cs w) b k cs e a' w'
theorem rd_step {c : Code} {Q : Exit → Act → World → Prop} (h : c.wp P (Exit.then (Rd P c Q) Q) a w) : Rd P c Q a w := by
  intro b k cs
  obtain ⟨e, a₁, w₁, hq, harr⟩ := h b (.inLoop c :: k) cs
  cases e with
  | normal =>
    obtain ⟨e₂, a₂, w₂, hq₂, harr₂⟩ := hq b k cs
    exact ⟨e₂, a₂, w₂, hq₂, .of_steps (Steps.trans harr (.one step_inLoop)) harr₂⟩
  | exit id => exact ⟨_, a₁, w₁, hq, .pass (x := .inLoop c) rfl (fun _ _ => .inl (by simp)) harr⟩
  | goto l => exact ⟨_, a₁, w₁, hq, .pass (x := .inLoop c) rfl (fun _ _ => .inl (by simp)) harr⟩
  | ret => exact ⟨_, a₁, w₁, hq, .pass (x := .inLoop c) rfl (fun _ _ => .inl (by simp)) harr⟩
  | panic ch => exact ⟨_, a₁, w₁, hq, .pass (x := .inLoop c) rfl (fun _ _ => .inl (by simp)) harr⟩
  | outgrown => exact ⟨_, a₁, w₁, hq, .pass (x := .inLoop c) rfl (fun _ _ => .inl (by simp)) harr⟩
theorem wp_rd {c : Code} {Q : Exit → Act → World → Prop} (h : Rd P c Q a w) : (Code.loop c).wp P Q a w := by
  intro b k cs
  obtain ⟨e, a', w', hq, harr⟩ := h b k cs
  exact ⟨e, a', w', hq, .of_steps (.one step_loop) harr⟩
def iterE (f : Sg → Option (Out × Sg)) : Nat → Sg → Option (Out × Sg)
  | 0, _ => none
  | n + 1, s => match f s with
    | some (.nrm, s') => iterE f n s'
    | some (.exit i, s') => some (.exit i, s')
    | some (.ret, s') => some (.ret, s')
    | some (.pan x, s') => some (.pan x, s')
    | none => none
def CodeOk (P : Program) (sz : Nat) (c : Code) (f : Sg → Option (Out × Sg)) : Prop :=
  ∀ (s : Sg) (m : LM) (w : World) (a : Act) (out : Out) (s' : Sg) (Q : Exit → Act → World → Prop), SR P m s sz a w → f s = some (out, s') → Good P m w sz out s' Q → c.wp P Q a w
theorem iter_ok {c : Code} {f : Sg → Option (Out × Sg)} (hf : CodeOk P sz c f) : ∀ {n : Nat} {s : Sg} {m : LM} {w : World} {a : Act} {out : Out} {s' : Sg} {Q : Exit → Act → World → Prop}, SR P m s sz a w → iterE f n s = some (out, s') → Good P m w sz out s' Q → Rd P c Q a w
  | 0, s, m, w, a, out, s', Q, hs, h, hg => by simp [iterE] at h
  | n + 1, s, m, w, a, out, s', Q, hs, h, hg => by
    simp only [iterE] at h
    refine rd_step ?_
    split at h
    · rename_i s1 h1
      refine hf s m w a .nrm s1 _ hs h1 ?_
      intro m' a' w' e hu hs' ho
      simp only [OutR] at ho
      subst ho
      exact iter_ok hf hs' h (hg.from hu)
    · rename_i i s1 h1
      simp only [Option.some.injEq, Prod.mk.injEq] at h
      obtain ⟨rfl, rfl⟩ := h
      refine hf s m w a _ _ _ hs h1 ?_
      intro m' a' w' e hu hs' ho
      have := hg m' a' w' e hu hs' ho
      simp only [OutR] at ho
      subst ho
      exact this
    · rename_i s1 h1
      simp only [Option.some.injEq, Prod.mk.injEq] at h
      obtain ⟨rfl, rfl⟩ := h
      refine hf s m w a _ _ _ hs h1 ?_
      intro m' a' w' e hu hs' ho
      have := hg m' a' w' e hu hs' ho
      simp only [OutR] at ho
      subst ho
      exact this
    · rename_i x s1 h1
      simp only [Option.some.injEq, Prod.mk.injEq] at h
      obtain ⟨rfl, rfl⟩ := h
      refine hf s m w a _ _ _ hs h1 ?_
      intro m' a' w' e hu hs' ho
      have := hg m' a' w' e hu hs' ho
      obtain ⟨v, rfl, _⟩ := ho
      exact this
    · cases h

/-! ### code -/
/-- how regions that draw their order are reckoned -/
abbrev DF := Array Oper → Sg → Option (Out × Sg)
def DFOk (P : Program) (sz : Nat) (df : DF) : Prop := ∀ id ops, CodeOk P sz (.region id ops true) (df ops)
def codeE (P : Program) (E : Env0) (cf : CF) (sz : Nat) (df : DF) : Code → Sg → Option (Out × Sg)
  | .skip, s => some (.nrm, s)
  | .region _ ops true, s => df ops s
  | .region _ ops false, s => opsE P E cf ops sz ops.toList s
  | .seq x y, s => match codeE P E cf sz df x s with
    | some (.nrm, s') => codeE P E cf sz df y s'
    | some (.exit i, s') => some (.exit i, s')
    | some (.ret, s') => some (.ret, s')
    | some (.pan v, s') => some (.pan v, s')
    | none => none
  | .cond c x y, s => match oA s.env c with
    | some (.lit (.bool true)) => codeE P E cf sz df x s
    | some (.lit (.bool false)) => codeE P E cf sz df y s
    | _ => none
  | .block id x, s => match codeE P E cf sz df x s with
    | some (.exit i, s') => bif Nat.beq i id then some (.nrm, s') else some (.exit i, s')
    | r => r
  | .loop x, s => iterE (codeE P E cf sz df x) 10000 s
  | .exit id, s => some (.exit id, s)
  | .scope x, s => codeE P E cf sz df x s
  | .label _, s => some (.nrm, s)
  | .ret, s => some (.ret, s)
  | _, _ => none
theorem code_ok {df : DF} (hE : EnvOk P E) (hcf : CFOk P cf) (hdf : DFOk P sz df) : ∀ c : Code, CodeOk P sz c (codeE P E cf sz df c)
  | .skip => by
    intro s m w a out s' Q hs h hg
    simp only [codeE, Option.some.injEq, Prod.mk.injEq] at h
    obtain ⟨rfl, rfl⟩ := h
    exact wp_skip (hg m a w .normal (Upd.refl m w) hs rfl)
  | .region id ops true => hdf id ops
  | .region id ops false => by
    intro s m w a out s' Q hs h hg
    exact wp_region_list (ops_ok hE hcf hs h hg)
  | .seq x y => by
    intro s m w a out s' Q hs h hg
    have ihx := code_ok hE hcf hdf x
    have ihy := code_ok hE hcf hdf y
    simp only [codeE] at h
    refine wp_seq ?_
    split at h
    · rename_i s1 h1
      refine ihx s m w a .nrm s1 _ hs h1 ?_
      intro m' a' w' e hu hs' ho
      simp only [OutR] at ho
      subst ho
      exact ihy s1 m' w' a' out s' Q hs' h (hg.from hu)
    · rename_i i s1 h1
      simp only [Option.some.injEq, Prod.mk.injEq] at h
      obtain ⟨rfl, rfl⟩ := h
      refine ihx s m w a _ _ _ hs h1 ?_
      intro m' a' w' e hu hs' ho
      have := hg m' a' w' e hu hs' ho
      simp only [OutR] at ho
      subst ho
      exact this
    · rename_i s1 h1
      simp only [Option.some.injEq, Prod.mk.injEq] at h
      obtain ⟨rfl, rfl⟩ := h
      refine ihx s m w a _ _ _ hs h1 ?_
      intro m' a' w' e hu hs' ho
      have := hg m' a' w' e hu hs' ho
      simp only [OutR] at ho
      subst ho
      exact this
    · rename_i v s1 h1
      simp only [Option.some.injEq, Prod.mk.injEq] at h
      obtain ⟨rfl, rfl⟩ := h
      refine ihx s m w a _ _ _ hs h1 ?_
      intro m' a' w' e hu hs' ho
      have := hg m' a' w' e hu hs' ho
      obtain ⟨v, rfl, _⟩ := ho
      exact this
    · cases h
  | .cond c x y => by
    intro s m w a out s' Q hs h hg
    have ihx := code_ok hE hcf hdf x
    have ihy := code_ok hE hcf hdf y
    simp only [codeE] at h
    split at h
    · rename_i hc
      have hv := hs.rk c _ hc
      simp only [VR] at hv
      exact wp_cond_true hv (ihx s m w a out s' Q hs h hg)
    · rename_i hc
      have hv := hs.rk c _ hc
      simp only [VR] at hv
      exact wp_cond_false hv (ihy s m w a out s' Q hs h hg)
    · cases h
  | .block id x => by
    intro s m w a out s' Q hs h hg
    have ihx := code_ok hE hcf hdf x
    simp only [codeE] at h
    refine wp_block ?_
    cases hx : codeE P E cf sz df x s with
    | none => simp [hx] at h
    | some r =>
      obtain ⟨o1, s1⟩ := r
      refine ihx s m w a o1 s1 _ hs hx ?_
      intro m' a' w' e hu hs' ho
      cases o1 with
      | exit i =>
        simp only [hx] at h
        simp only [OutR] at ho
        subst ho
        simp only [Exit.inBlock]
        cases hb : Nat.beq i id with
        | true =>
          rw [hb] at h
          simp only [cond_true, Option.some.injEq, Prod.mk.injEq] at h
          obtain ⟨rfl, rfl⟩ := h
          rw [if_pos (Nat.eq_of_beq_eq_true hb)]
          exact hg m' a' w' .normal hu hs' rfl
        | false =>
          rw [hb] at h
          simp only [cond_false, Option.some.injEq, Prod.mk.injEq] at h
          obtain ⟨rfl, rfl⟩ := h
          rw [if_neg (Nat.ne_of_beq_eq_false hb)]
          exact hg m' a' w' _ hu hs' rfl
      | nrm =>
        simp only [hx, Option.some.injEq, Prod.mk.injEq] at h
        obtain ⟨rfl, rfl⟩ := h
        have := hg m' a' w' e hu hs' ho
        simp only [OutR] at ho
        subst ho
        exact this
      | ret =>
        simp only [hx, Option.some.injEq, Prod.mk.injEq] at h
        obtain ⟨rfl, rfl⟩ := h
        have := hg m' a' w' e hu hs' ho
        simp only [OutR] at ho
        subst ho
        exact this
      | pan v =>
        simp only [hx, Option.some.injEq, Prod.mk.injEq] at h
        obtain ⟨rfl, rfl⟩ := h
        have := hg m' a' w' e hu hs' ho
        obtain ⟨v, rfl, _⟩ := ho
        exact this
  | .loop x => by
    intro s m w a out s' Q hs h hg
    exact wp_rd (iter_ok (code_ok hE hcf hdf x) hs h hg)
  | .rangeFunc .. => by intro s m w a out s' Q hs h hg; simp [codeE] at h
  | .exit id => by
    intro s m w a out s' Q hs h hg
    simp only [codeE, Option.some.injEq, Prod.mk.injEq] at h
    obtain ⟨rfl, rfl⟩ := h
    exact wp_exit (hg m a w _ (Upd.refl m w) hs rfl)
  | .scope x => by
    intro s m w a out s' Q hs h hg
    simp only [codeE] at h
    refine wp_scope_straight (code_ok hE hcf hdf x s m w a out s' _ hs h ?_)
    intro m' a' w' e hu hs' ho
    have := hg m' a' w' e hu hs' ho
    cases out with
    | pan v => obtain ⟨v, rfl, _⟩ := ho; exact this
    | _ => simp only [OutR] at ho; subst ho; exact this
  | .label l => by
    intro s m w a out s' Q hs h hg
    simp only [codeE, Option.some.injEq, Prod.mk.injEq] at h
    obtain ⟨rfl, rfl⟩ := h
    exact wp_label (hg m a w .normal (Upd.refl m w) hs rfl)
  | .goto l => by intro s m w a out s' Q hs h hg; simp [codeE] at h
  | .ret => by
    intro s m w a out s' Q hs h hg
    simp only [codeE, Option.some.injEq, Prod.mk.injEq] at h
    obtain ⟨rfl, rfl⟩ := h
    exact wp_ret (hg m a w .ret (Upd.refl m w) hs rfl)
  | .refuse why => by intro s m w a out s' Q hs h hg; simp [codeE] at h
end
end Go.Ev
