/-
  Calls, and one operation of any kind.
-/
import Derived.Test.YthiafbkolhnadaaGreatDoorEe
set_option linter.unusedVariables false
set_option linter.unusedSimpArgs false
namespace Go.Ev
open Go Go.RowKit Go.Dk

/-- how a call ends -/
inductive CR where
  | ret (a : AV)
  | pan (a : AV)
abbrev CF := FuncId → List AV → Tr AO → Nat → Option (CR × Tr AO × Nat)
/-- what is given of a program: which functions may be entered, and what some without a body yield -/
structure Env0 where
  good : FuncId → Bool
  ext : FuncId → List Value → Option Value
  sp : FuncId → Option (List Value → Option Value)
structure EnvOk (P : Program) (E : Env0) : Prop where
  good : ∀ f, E.good f = true → ∃ fn, P.funcs[f]? = some fn ∧ fn.body.isNone = false ∧ (fn.name == "runtime.NumGoroutine") = false
  ext : ∀ f args v, E.ext f args = some v → ∀ w, (callFunc f args.toArray).run P w = .ok (.value v) w
  sp : ∀ f g args v, E.sp f = some g → g args = some v → ∀ w, Calls P f args.toArray w fun e w' => e = .returned v ∧ Below w.heap.size w w'
def CRR (m : LM) (e : Ending) : CR → Prop
  | .ret x => ∃ v, e = .returned v ∧ VR m x v
  | .pan x => ∃ v, e = .panicked [⟨v, false, false⟩] ∧ VR m x v
/-- what a reckoned call says of the call -/
def CFOk (P : Program) (cf : CF) : Prop := ∀ f args h n r h' n', cf f args h n = some (r, h', n') → ∀ m w vals, HR m h.get w → Dom m n → VRs m args vals →
  Calls P f vals.toArray w fun e w' => ∃ m', Upd m w m' w' ∧ HR m' h'.get w' ∧ Dom m' n' ∧ CRR m' e r

section
variable {P : Program} {m : LM} {w : World} {τ : Operand → Value} {ρ : Operand → Option AV} {o : Oper} {n : Nat} {β : Type} {h : Tr AO} {E : Env0} {cf : CF}

/-- a method of a value's own type -/
def meth (P : Program) (t : TypeId) (name : String) : Option FuncId :=
  match P.info? t with
  | some inf => match inf.methods.toList.find? (·.name == name) with
    | some mt => match mt.path.toList, mt.func, P.underlying t with
      | [], some (f, true), some (.pointer _) => some f
      | [], some (f, false), some (.struct _) => some f
      | [], some (f, false), some (.int _) => some f
      | [], some (f, false), some (.slice _) => some f
      | _, _, _ => none
    | none => none
  | none => none
theorem meth_ok {t : TypeId} {name : String} {f : FuncId} (h : meth P t name = some f) (k : Nat) (v : Value) : (method (k + 1) t v name).run P w = .ok (f, v) w := by
  unfold meth at h
  split at h
  · rename_i inf hi
    split at h
    · rename_i mt hm
      have hm' : inf.methods.find? (fun x => x.name == name) = some mt := by rw [← Array.find?_toList]; exact hm
      have hp : ∀ {l : List FieldStep}, mt.path.toList = l → mt.path.toList = l := fun h => h
      split at h <;> first
        | (cases h; done)
        | (rename_i hpath hfn hu
           simp only [Option.some.injEq] at h
           subst h
           rw [method]
           simp [typeInfo, hi, hm', hpath, follow, hfn, receiverAt, run_underlying hu, Place.get])
    · cases h
  · cases h

/-- who is called, with what -/
def target (P : Program) (ρ : Operand → Option AV) (c : Call) : Option (FuncId × List AV) :=
  match c.callee with
  | .value (.func k) => match opsL ρ c.args.toList with | some as => some (k, as) | none => none
  | .value f => match opsL ρ c.args.toList, ρ f with
    | some as, some (.clo k ca) => some (k, as ++ ca)
    | some as, some (.lit (.func (.func k) fi ca)) => match fi.toList, ca.toList with
      | [], [] => some (k, as)
      | _, _ => none
    | _, _ => none
  | .invoke r name => match opsL ρ c.args.toList, ρ r with
    | some as, some (.ifc t v) => match meth P t name with | some f => some (f, v :: as) | none => none
    | some as, some (.lit (.iface t v)) => match meth P t name with | some f => some (f, .lit v :: as) | none => none
    | _, _ => none
  | _ => none
theorem depth_pos : ∃ k, Made.depth = k + 1 := ⟨Made.depth - 1, by unfold Made.depth; rfl⟩
theorem target_ok {c : Call} {f : FuncId} {as : List AV} (hρ : RK m ρ τ) (h : target P ρ c = some (f, as)) (hτ : ∀ k, τ (.func k) = .func (.func k) #[] #[]) (ho : o.op = .call c) :
    ∃ vals, VRs m as vals ∧ (execOp τ o).run P w = (callFunc f vals.toArray).run P w := by
  unfold target at h
  split at h
  · rename_i k hc
    split at h
    · rename_i as' has
      simp only [Option.some.injEq, Prod.mk.injEq] at h
      obtain ⟨rfl, rfl⟩ := h
      refine ⟨_, opsL_rel hρ has, ?_⟩
      unfold execOp; rw [ho]
      have e : c.args.map τ = (c.args.toList.map τ).toArray := by apply Array.ext'; simp
      simp [resolve, hc, hτ, Deferred.ofValue, invoke, e]
    · cases h
  · rename_i x hx hc
    split at h
    · rename_i as' k ca has hf
      simp only [Option.some.injEq, Prod.mk.injEq] at h
      obtain ⟨rfl, rfl⟩ := h
      have hv := hρ x _ hf
      simp only [VR] at hv
      obtain ⟨vs, hv, hvs⟩ := hv
      refine ⟨_, VRs.append (opsL_rel hρ has) hvs, ?_⟩
      unfold execOp; rw [ho]
      have e : c.args.map τ = (c.args.toList.map τ).toArray := by apply Array.ext'; simp
      simp [resolve, hc, hv, Deferred.ofValue, invoke, e]
    · rename_i as' k fi ca has hf
      split at h
      · rename_i hfi hca
        simp only [Option.some.injEq, Prod.mk.injEq] at h
        obtain ⟨rfl, rfl⟩ := h
        have hv := hρ x _ hf
        simp only [VR] at hv
        have e1 : fi = #[] := by apply Array.ext'; simpa using hfi
        have e2 : ca = #[] := by apply Array.ext'; simpa using hca
        subst e1 e2
        refine ⟨_, opsL_rel hρ has, ?_⟩
        unfold execOp; rw [ho]
        have e : c.args.map τ = (c.args.toList.map τ).toArray := by apply Array.ext'; simp
        simp [resolve, hc, hv, Deferred.ofValue, invoke, e]
      · cases h
    · cases h
  · rename_i r name hc
    obtain ⟨kd, hkd⟩ := depth_pos
    split at h
    · rename_i as' t v has hr
      split at h
      · rename_i f' hm
        simp only [Option.some.injEq, Prod.mk.injEq] at h
        obtain ⟨rfl, rfl⟩ := h
        have hv := hρ r _ hr
        simp only [VR] at hv
        obtain ⟨y, hv, hy⟩ := hv
        refine ⟨y :: c.args.toList.map τ, by simp only [VRs]; exact ⟨_, _, rfl, hy, opsL_rel hρ has⟩, ?_⟩
        unfold execOp; rw [ho]
        have hmr := meth_ok (w := w) hm (P.types.size + kd) y
        rw [Nat.add_assoc, ← hkd] at hmr
        have e : c.args.map τ = (c.args.toList.map τ).toArray := by apply Array.ext'; simp
        simp [resolve, hc, hv, invoke, callMethod, hmr, e]
        rw [List.take_of_length_le (by simp)]
      · cases h
    · rename_i as' t v has hr
      split at h
      · rename_i f' hm
        simp only [Option.some.injEq, Prod.mk.injEq] at h
        obtain ⟨rfl, rfl⟩ := h
        have hv := hρ r _ hr
        simp only [VR] at hv
        refine ⟨v :: c.args.toList.map τ, by simp only [VRs]; exact ⟨_, _, rfl, VR.lit v, opsL_rel hρ has⟩, ?_⟩
        unfold execOp; rw [ho]
        have hmr := meth_ok (w := w) hm (P.types.size + kd) v
        rw [Nat.add_assoc, ← hkd] at hmr
        have e : c.args.map τ = (c.args.toList.map τ).toArray := by apply Array.ext'; simp
        simp [resolve, hc, hv, invoke, callMethod, hmr, e]
        rw [List.take_of_length_le (by simp)]
      · cases h
    · cases h
  · cases h

/-! ### a new key of a map -/
def hPut (P : Program) (h : Tr AO) (t : TypeId) (x y z : Option AV) (k : Tr AO → Option β) : Option β :=
  match x, y, z with
  | some (.ref i), some (.lit kv), some a => match P.underlying t with
    | some (.map kt et) => match P.underlying kt with
      | some kd => match plainK kd, h.get i with
        | true, some (.map es) => match findA kd kv es 0 with
          | some none => fM (es ++ [(.lit kv, a)]) fun es => Tr.setK (some (.map es)) 40 h i k
          | _ => none
        | _, _ => none
      | none => none
    | _ => none
  | _, _, _ => none
theorem ME.snoc {m : LM} {kv v : Value} {a : AV} (ha : VR m a v) : ∀ {es : List (AV × AV)} {es' : List MapEntry} {n : Nat}, ME m es es' n → ME m (es ++ [(.lit kv, a)]) (es' ++ [⟨kv, v, n + es.length⟩]) n
  | [], es', n, h => by simp only [ME] at h; subst h; exact ⟨v, [], kv, by simp, rfl, ha, rfl⟩
  | (kk, x) :: es, es', n, h => by
    obtain ⟨u, t, kv', rfl, rfl, hx, ht⟩ := h
    have := ME.snoc (kv := kv) ha ht
    have e : n + ((AV.lit kv', x) :: es).length = n + 1 + es.length := by simp; omega
    rw [e]
    exact ⟨u, _, kv', rfl, rfl, hx, this⟩
theorem hPut_ok {t : TypeId} {X Y Z : Operand} {k : Tr AO → Option β} {r : β} (hH : HR m h.get w) (hd : Dom m n) (hρ : RK m ρ τ) (hr : hPut P h t (ρ X) (ρ Y) (ρ Z) k = some r) (ho : o.op = .mapUpdate t X Y Z ∨ o.op = .insert t X Y Z) :
    ∃ h', k h' = some r ∧ HOk P m w τ o h'.get n none := by
  unfold hPut at hr
  split at hr
  · rename_i i kv a hx hy hz
    have hv := hρ X _ hx
    have hk := hρ Y _ hy
    have hu := hρ Z _ hz
    simp only [VR] at hv hk
    obtain ⟨l, hm, hv⟩ := hv
    split at hr
    · rename_i kt et hut
      split at hr
      · rename_i kd hkd
        split at hr
        · rename_i es hpl hi
          obtain ⟨l', hl, hor⟩ := hH.at_ i _ hi
          rw [hm] at hl; cases hl
          obtain ⟨es', hb, hme⟩ := hor
          split at hr
          · rename_i hf
            have h2 := findA_rel hme hf
            simp only at h2
            rw [fM_eq] at hr
            obtain ⟨h', hk', hg⟩ := Tr.setK_some hr
            have hget : (getObj l.b).run P w = .ok (.map es'.toArray es.length) w := by simp [getObj, Sem.run, hb]
            have hset : ∀ ob, (setObj l.b ob).run P w = .ok () { w with heap := w.heap.setIfInBounds l.b ob } := by intro ob; simp [setObj, Sem.run, hb]
            have hblt : l.b < w.heap.size := (Array.getElem?_eq_some_iff.1 hb).1
            refine ⟨h', hk', m, { w with heap := w.heap.setIfInBounds l.b (.map (es'.toArray.push ⟨kv, τ Z, es.length⟩) (es.length + 1)) }, ⟨Le.refl m, rfl, rfl, rfl, by simp, fun b hb' hn => ?_, fun _ _ hh => .inl hh⟩, hH.upd (ob' := .map (es ++ [(.lit kv, a)])) hi hm ?_ (fun k hk => ?_) (by simp) hg, hd, ?_⟩
            · have := hn i l hm
              simp [Array.getElem?_setIfInBounds_ne this]
            · refine ⟨es' ++ [⟨kv, τ Z, es.length⟩], ?_, by have := ME.snoc (kv := kv) hu hme; simpa using this⟩
              simp [hblt]
            · simp [Array.getElem?_setIfInBounds_ne (Ne.symm hk)]
            · have hrun : (Instr.mapUpdate t (τ X) (τ Y) (τ Z)).run P w = .ok () { w with heap := w.heap.setIfInBounds l.b (.map (es'.toArray.push ⟨kv, τ Z, es.length⟩) (es.length + 1)) } := by
                simp [hv, hk, Instr.mapUpdate, run_underlying hut, hget, run_checkPlain hkd hpl, run_findKey_of hkd h2, hset]
              rcases ho with ho | ho <;> (unfold execOp; rw [ho]; simp [hrun])
          · cases hr
        · cases hr
      · cases hr
    · cases hr
  · cases hr

/-! ### an operation that changes what is there, or calls -/
def heavyE (P : Program) (E : Env0) (cf : CF) (ρ : Operand → Option AV) (o : Oper) (h : Tr AO) (n : Nat) (k : Option AV → Tr AO → Nat → Option β) (kp : AV → Tr AO → Nat → Option β) : Option β :=
  match o.op with
  | .store t a v => hStore P h t (ρ a) (ρ v) fun h => k none h n
  | .next x true => hNext h (ρ x) fun a h => k (some a) h n
  | .mapUpdate t x y z => hPut P h t (ρ x) (ρ y) (ρ z) fun h => k none h n
  | .insert t x y z => hPut P h t (ρ x) (ρ y) (ρ z) fun h => k none h n
  | .panic x => match ρ x with
    | some (.ifc t a) => kp (.ifc t a) h n
    | some (.lit (.iface t a)) => kp (.lit (.iface t a)) h n
    | _ => none
  | .call c => match target P ρ c with
    | some (f, as) => match E.good f with
      | true => match cf f as h n with
        | some (.ret v, h, n) => k (some v) h n
        | some (.pan v, h, n) => kp v h n
        | none => none
      | false => match AV.closL as with
        | some vs => match E.ext f vs with
          | some v => k (some (.lit v)) h n
          | none => none
        | none => none
    | none => hApp P h n ρ c fun a h n => k (some a) h n
  | _ => none
def OpV (P : Program) (m : LM) (w : World) (a : Act) (o : Oper) (h' : Tr AO) (n' : Nat) (av : Option AV) : Prop :=
  ∀ (next : Act → World → Prop) (Q : Exit → Act → World → Prop), (∀ m' w' v, Upd m w m' w' → HR m' h'.get w' → Dom m' n' → (match av with | some x => VR m' x v | none => v = undef) → next (a.put o.dst v) w') → o.wp P a w next Q
def OpP (P : Program) (m : LM) (w : World) (a : Act) (o : Oper) (h' : Tr AO) (n' : Nat) (x : AV) : Prop :=
  ∀ (next : Act → World → Prop) (Q : Exit → Act → World → Prop), (∀ m' w' v, Upd m w m' w' → HR m' h'.get w' → Dom m' n' → VR m' x v → Q (.panic [⟨v, false, false⟩]) a w') → o.wp P a w next Q
theorem opv_of_hok {a : Act} {h' : Tr AO} {n' : Nat} {av : Option AV} (h : HOk P m w a.eval o h'.get n' av) : OpV P m w a o h' n' av := by
  intro next Q hn
  obtain ⟨m', w', h1, h2, h3, h4⟩ := h
  cases av with
  | none =>
    simp only at h4
    unfold Oper.wp
    rw [h4]
    exact hn m' w' undef h1 h2 h3 rfl
  | some x =>
    obtain ⟨v, h5, h6⟩ := h4
    unfold Oper.wp
    rw [h6]
    exact hn m' w' v h1 h2 h3 h5
theorem heavy_ok {a : Act} {k : Option AV → Tr AO → Nat → Option β} {kp : AV → Tr AO → Nat → Option β} {r : β} (hE : EnvOk P E) (hcf : CFOk P cf) (hH : HR m h.get w) (hd : Dom m n) (hρ : RK m ρ a.eval) (hr : heavyE P E cf ρ o h n k kp = some r) :
    (∃ av h' n', k av h' n' = some r ∧ OpV P m w a o h' n' av) ∨ (∃ x h' n', kp x h' n' = some r ∧ OpP P m w a o h' n' x) := by
  unfold heavyE at hr
  split at hr
  · rename_i ho
    obtain ⟨h', h1, h2⟩ := hStore_ok hH hd hρ hr ho
    exact .inl ⟨none, h', n, h1, opv_of_hok h2⟩
  · rename_i ho
    obtain ⟨x, h', h1, h2⟩ := hNext_ok hH hd hρ hr ho
    exact .inl ⟨some x, h', n, h1, opv_of_hok h2⟩
  · rename_i ho
    obtain ⟨h', h1, h2⟩ := hPut_ok hH hd hρ hr (.inl ho)
    exact .inl ⟨none, h', n, h1, opv_of_hok h2⟩
  · rename_i ho
    obtain ⟨h', h1, h2⟩ := hPut_ok hH hd hρ hr (.inr ho)
    exact .inl ⟨none, h', n, h1, opv_of_hok h2⟩
  · rename_i x ho
    have key : ∀ {t v}, a.eval x = .iface t v → (execOp a.eval o).run P w = .halt (.panic (.iface t v)) w := by
      intro t v hv
      unfold execOp; rw [ho]
      simp [hv, Instr.panic, goPanic, Sem.run_bind, Sem.run, Result.andThen]
    split at hr
    · rename_i t y hx
      have hv := hρ x _ hx
      have hv0 := hv
      simp only [VR] at hv
      obtain ⟨u, hv, hu⟩ := hv
      refine .inr ⟨_, h, n, hr, fun next Q hq => ?_⟩
      unfold Oper.wp
      rw [key hv]
      exact hq m w _ (Upd.refl m w) hH hd (by rw [← hv]; exact hv0)
    · rename_i t y hx
      have hv := hρ x _ hx
      simp only [VR] at hv
      refine .inr ⟨_, h, n, hr, fun next Q hq => ?_⟩
      unfold Oper.wp
      rw [key hv]
      exact hq m w _ (Upd.refl m w) hH hd (VR.lit _)
    · cases hr
  · rename_i c ho
    split at hr
    · rename_i f as ht
      obtain ⟨vals, hv, hrun⟩ := target_ok (o := o) (w := w) hρ ht (fun k => rfl) ho
      split at hr
      · rename_i hg
        obtain ⟨fn, hf, hb, hn⟩ := hE.good f hg
        have h1 : fn.name ≠ "runtime.NumGoroutine" := by simpa using hn
        have h2 : ¬ fn.body = none := by intro e; simp [e] at hb
        have hent : (execOp a.eval o).run P w = .ok (.enter f vals.toArray) w := by
          rw [hrun]; simp [callFunc, hf, h1, h2]
        split at hr
        · rename_i v h' n' hc
          refine .inl ⟨some v, h', n', hr, fun next Q hq => ?_⟩
          unfold Oper.wp
          rw [hent]
          refine Calls.mono (hcf f as h n _ h' n' hc m w vals hH hd hv) ?_
          rintro e w' ⟨m', u1, u2, u3, v', rfl, u4⟩
          exact hq m' w' v' u1 u2 u3 u4
        · rename_i v h' n' hc
          refine .inr ⟨v, h', n', hr, fun next Q hq => ?_⟩
          unfold Oper.wp
          rw [hent]
          refine Calls.mono (hcf f as h n _ h' n' hc m w vals hH hd hv) ?_
          rintro e w' ⟨m', u1, u2, u3, v', rfl, u4⟩
          exact hq m' w' v' u1 u2 u3 u4
        · cases hr
      · split at hr
        · rename_i vs hvs
          have := closL_eq hv hvs
          subst this
          split at hr
          · rename_i v hx
            refine .inl ⟨some (.lit v), h, n, hr, fun next Q hq => ?_⟩
            unfold Oper.wp
            rw [hrun, hE.ext f vals v hx w]
            exact hq m w v (Upd.refl m w) hH hd (VR.lit v)
          · cases hr
        · cases hr
    · obtain ⟨x, h', n', h1, h2⟩ := hApp_ok hH hd hρ hr ho
      exact .inl ⟨some x, h', n', h1, opv_of_hok h2⟩
  · cases hr
/-- a light operation, as one of any kind -/
theorem light_opv {a : Act} {r : LR} (hH : HR m h.get w) (hd : Dom m n) (hρ : RK m ρ a.eval) (hl : light P h.get n ρ o = some r) :
    match r with
    | .val x => OpV P m w a o h n (some x)
    | .new x ob => ∀ h' : Tr AO, (∀ j, h'.get j = if j = n then some ob else h.get j) → OpV P m w a o h' (n + 1) (some x) := by
  have := light_ok hH.at_ hρ hl
  cases r with
  | val x =>
    obtain ⟨v, h1, h2⟩ := this
    exact opv_of_hok ⟨m, w, Upd.refl m w, hH, hd, v, h1, h2⟩
  | new x ob =>
    obtain ⟨v, w', c, h1, h2, h3⟩ := this
    intro h' hg
    obtain ⟨h4, h5⟩ := h3 (put1 m n ⟨w.heap.size, 0, c⟩) (put1_le hd) (by simp [put1])
    refine opv_of_hok ⟨put1 m n ⟨w.heap.size, 0, c⟩, w', ⟨put1_le hd, h2.os, h2.tape, h2.output, by rw [h2.size]; omega, fun b hb _ => h2.keep b hb, fun i l hl => ?_⟩, HR.add hH hd h5 (fun i o' l' e1 e2 => ?_) (fun b hb _ => h2.keep b hb) (by rw [h2.size]; omega) hg, put1_dom hd, v, h4, h1⟩
    · unfold put1 at hl
      split at hl
      · cases hl; exact .inr (.inr ⟨Nat.le_refl _, by rw [h2.size]; exact Nat.lt_succ_self _⟩)
      · exact .inl hl
    · obtain ⟨l2, q1, q2⟩ := hH.at_ i o' e1
      rw [e2] at q1; cases q1
      have := q2.lt
      simp only; omega
end
end Go.Ev
