/-
  Whole functions, with what they defer.
-/
import Derived.Test.YthiafbkolhnadaaGreatDoorEg
set_option linter.unusedVariables false
set_option linter.unusedSimpArgs false
namespace Go.Ev
open Go Go.RowKit Go.Dk

section
variable {P : Program} {E : Env0} {cf : CF} {m : LM} {w : World} {a : Act} {s : Sg} {sz : Nat} {β : Type} {df : DF}

/-! ### results -/
def resE (P : Program) (env : Tr AV) (h : Tr AO) : List ResultVar → Option (List AV)
  | [] => some []
  | .tmp t :: r => match env.get t with
    | some x => match resE P env h r with | some l => some (x :: l) | none => none
    | none => none
  | .cell t ty :: r => match eLoad P h.get ty (env.get t) with
    | some (.val x) => match resE P env h r with | some l => some (x :: l) | none => none
    | _ => none
def resV (tmps : Array Value) : ResultVar → Sem Value
  | .tmp t => pure (tmps.getD t undef)
  | .cell a t => do loadVar t (← asAddr (tmps.getD a undef))
theorem load_run {ty : TypeId} {x : Operand} {τ : Operand → Value} {ad : Addr} {v : Value} (hx : τ x = .pointer (some ad)) (h : (execOp τ { dst := none, op := .load ty x, type := 0, pos := "", after := #[], guard := none }).run P w = .ok (.value v) w) : (loadVar ty ad).run P w = .ok v w := by
  simp only [execOp, hx, Instr.loadAt, Instr.sureAddr] at h
  simp at h
  cases hr : (loadVar ty ad).run P w with
  | ok u w' => rw [hr] at h; simp [Result.andThen] at h; obtain ⟨rfl, rfl⟩ := h; rfl
  | halt x w' => rw [hr] at h; simp [Result.andThen] at h
theorem res_ok (hs : SR P m s sz a w) : ∀ {l : List ResultVar} {r : List AV} (acc : Array Value), resE P s.env s.h l = some r →
    ∃ vs, VRs m r vs ∧ (l.foldlM (fun (bs : Array Value) (x : ResultVar) => do let b ← resV a.tmps x; pure (bs.push b)) acc).run P w = .ok (acc ++ vs.toArray) w
  | [], r, acc, h => by
    simp only [resE, Option.some.injEq] at h; subst h
    exact ⟨[], by simp [VRs], by simp⟩
  | .tmp t :: l, r, acc, h => by
    simp only [resE] at h
    split at h
    · rename_i x hx
      split at h
      · rename_i l' hl
        simp only [Option.some.injEq] at h; subst h
        obtain ⟨v, h1, h2⟩ := hs.env t x hx
        obtain ⟨vs, h3, h4⟩ := res_ok hs (acc.push v) hl
        refine ⟨v :: vs, by simp only [VRs]; exact ⟨_, _, rfl, h2, h3⟩, ?_⟩
        have e : (resV a.tmps (.tmp t)).run P w = .ok v w := by simp [resV, Array.getD_eq_getD_getElem?, h1]
        rw [List.foldlM_cons, Sem.run_bind, Sem.run_bind, e, Result.andThen_ok, Sem.run_pure, Result.andThen_ok, h4]
        simp
      · cases h
    · cases h
  | .cell t ty :: l, r, acc, h => by
    simp only [resE] at h
    split at h
    · rename_i x hx
      split at h
      · rename_i l' hl
        simp only [Option.some.injEq] at h; subst h
        have hx' : eLoad P s.h.get ty (oA s.env (.tmp t)) = some (.val x) := hx
        have hlo := eLoad_ok (n := 0) (o := { dst := none, op := .load ty (.tmp t), type := 0, pos := "", after := #[], guard := none }) hs.hr.at_ hs.rk hx' rfl
        obtain ⟨v, h2, h1⟩ := hlo
        obtain ⟨vs, h3, h4⟩ := res_ok hs (acc.push v) hl
        refine ⟨v :: vs, by simp only [VRs]; exact ⟨_, _, rfl, h2, h3⟩, ?_⟩
        have hp : ∃ ad, a.eval (.tmp t) = .pointer (some ad) := by
          unfold eLoad at hx
          split at hx
          · rename_i i k hi
            have := hs.rk (.tmp t) _ hi
            simp only [VR] at this
            obtain ⟨lc, _, h5⟩ := this
            exact ⟨_, h5⟩
          · cases hx
        obtain ⟨ad, hp⟩ := hp
        have e : (resV a.tmps (.cell t ty)).run P w = .ok v w := by
          have e1 : a.tmps.getD t undef = .pointer (some ad) := hp
          simp only [resV, e1, asAddr]
          simpa using load_run hp h1
        rw [List.foldlM_cons, Sem.run_bind, Sem.run_bind, e, Result.andThen_ok, Sem.run_pure, Result.andThen_ok, h4]
        simp
      · cases h
    · cases h
def oneE (l : List AV) : AV := match l with
  | [x] => x
  | l => .tup l
theorem results_ok {fn : Func} {r : List AV} (hs : SR P m s sz a w) (h : resE P s.env s.h fn.results.toList = some r) : ∃ v, VR m (oneE r) v ∧ (results fn a.tmps).run P w = .ok v w := by
  obtain ⟨vs, h1, h2⟩ := res_ok hs #[] h
  have hm : (fn.results.mapM (m := Sem) (resV a.tmps)).run P w = .ok vs.toArray w := by
    rw [Array.mapM_eq_foldlM, ← Array.foldlM_toList]
    simpa using h2
  have e : results fn a.tmps = (do let vs ← fn.results.mapM (resV a.tmps); pure (if h : vs.size = 1 then vs[0] else .tuple vs)) := by
    unfold results resV
    rfl
  rw [e, Sem.run_bind, hm, Result.andThen_ok, Sem.run_pure]
  refine ⟨_, ?_, rfl⟩
  cases r with
  | nil =>
    simp only [VRs] at h1; subst h1
    simp only [oneE, VR]
    exact ⟨[], rfl, by simp [VRs]⟩
  | cons x l =>
    simp only [VRs] at h1
    obtain ⟨v, t, rfl, h3, h4⟩ := h1
    cases l with
    | nil =>
      simp only [VRs] at h4; subst h4
      simpa [oneE] using h3
    | cons y l =>
      have h40 := h4
      simp only [VRs] at h4
      obtain ⟨u, t', rfl, h5, h6⟩ := h4
      simp only [oneE, VR]
      refine ⟨v :: u :: t', by simp, ?_⟩
      simp only [VRs]
      exact ⟨_, _, rfl, h3, _, _, rfl, h5, h6⟩

/-! ### the frame that a function begins with -/
def argsE : List AV → Nat → Tr AV → (Tr AV → Option β) → Option β
  | [], _, env, k => k env
  | x :: l, i, env, k => fA x fun x => Tr.setK (some x) 20 env i fun env => argsE l (Nat.succ i) env k
theorem args_ok : ∀ {l : List AV} {i : Nat} {env : Tr AV} {k : Tr AV → Option β} {r : β}, argsE l i env k = some r →
    ∃ env', k env' = some r ∧ ∀ t x, env'.get t = some x → (env.get t = some x ∧ (t < i ∨ i + l.length ≤ t)) ∨ (i ≤ t ∧ l[t - i]? = some x)
  | [], i, env, k, r, h => ⟨env, h, fun t x hx => .inl ⟨hx, by simp; omega⟩⟩
  | y :: l, i, env, k, r, h => by
    simp only [argsE, fA_eq] at h
    obtain ⟨e1, h1, h2⟩ := Tr.setK_some h
    obtain ⟨env', h3, h4⟩ := args_ok h1
    refine ⟨env', h3, fun t x hx => ?_⟩
    rcases h4 t x hx with ⟨h5, h6⟩ | ⟨h5, h6⟩
    · rw [h2] at h5
      split at h5
      · rename_i e; subst e; cases h5
        exact .inr ⟨Nat.le_refl _, by simp⟩
      · exact .inl ⟨h5, by simp only [List.length_cons]; omega⟩
    · have h5' : i + 1 ≤ t := h5
      refine .inr ⟨by omega, ?_⟩
      have : t - i = (t - Nat.succ i) + 1 := by omega
      rw [this]; simpa using h6
theorem sr_start {fn : Func} {args : List AV} {vals : List Value} {env : Tr AV} {h : Tr AO} {n : Nat} (hH : HR m h.get w) (hd : Dom m n) (hv : VRs m args vals) (hl : args.length ≤ fn.ntmps)
    (he : ∀ t x, env.get t = some x → ((Tr.lf : Tr AV).get t = some x ∧ (t < 0 ∨ 0 + args.length ≤ t)) ∨ (0 ≤ t ∧ args[t - 0]? = some x)) :
    SR P m ⟨env, [], h, n⟩ fn.ntmps { tmps := vals.toArray ++ Array.replicate (fn.ntmps - vals.toArray.size) undef, defers := [] } w := by
  have hlen := hv.len
  refine ⟨hH, hd, by simp; omega, fun t x hx => ?_, rfl⟩
  rcases he t x hx with ⟨h1, _⟩ | ⟨_, h1⟩
  · simp [Tr.get] at h1
  · simp only [Nat.sub_zero] at h1
    obtain ⟨v, h2, h3⟩ := hv.get h1
    refine ⟨v, ?_, h3⟩
    have hlt := (List.getElem?_eq_some_iff.1 h2).1
    rw [Array.getElem?_append_left (by simpa using hlt)]
    simpa using h2

/-! ### deferred calls -/
inductive Md where
  | ret
  | pan (x : AV)
def MdR (m : LM) : Md → FrameMode → Prop
  | .ret, u => u = .returning
  | .pan x, u => ∃ v, u = .panicking [⟨v, false, false⟩] ∧ VR m x v
abbrev DC := ADef → Md → Tr AO → Nat → Option (Md × Tr AO × Nat)
def DCOk (P : Program) (dc : DC) : Prop := ∀ d md h n md' h' n', dc d md h n = some (md', h', n') → ∀ m w D u, HR m h.get w → Dom m n → DR P m d D → MdR m md u →
  u ≠ .run ∧ ∃ fv cap f args, D.target = .fn fv cap ∧ (invoke D.target D.args).run P w = .ok (.enter f args) w ∧
    CallsD P f args u w fun e u' w' => ∃ m' v, e = .returned v ∧ Upd m w m' w' ∧ HR m' h'.get w' ∧ Dom m' n' ∧ MdR m' md' (settle u')
def leaveE (dc : DC) : List ADef → Md → Tr AO → Nat → Option (Md × Tr AO × Nat)
  | [], md, h, n => some (md, h, n)
  | d :: l, md, h, n => match dc d md h n with
    | some (md, h, n) => leaveE dc l md h n
    | none => none
theorem leave_ok {dc : DC} {fn : Func} {tmps : Array Value} {R : Ending → World → Prop} (hdc : DCOk P dc) : ∀ {ds : List ADef} {md md' : Md} {h h' : Tr AO} {n n' : Nat} {m : LM} {w : World} {D : List Deferred} {u : FrameMode},
    leaveE dc ds md h n = some (md', h', n') → HR m h.get w → Dom m n → DRs P m ds D → MdR m md u →
    (∀ m' w' u', Upd m w m' w' → HR m' h'.get w' → Dom m' n' → MdR m' md' u' → Leaves P fn tmps R [] u' w') → Leaves P fn tmps R D u w
  | [], md, md', h, h', n, n', m, w, D, u, hl, hH, hd, hD, hm, hk => by
    simp only [leaveE, Option.some.injEq, Prod.mk.injEq] at hl
    obtain ⟨rfl, rfl, rfl⟩ := hl
    simp only [DRs] at hD
    subst hD
    exact hk m w u (Upd.refl m w) hH hd hm
  | d :: ds, md, md', h, h', n, n', m, w, D, u, hl, hH, hd, hD, hm, hk => by
    simp only [leaveE] at hl
    split at hl
    · rename_i md1 h1 n1 hc
      obtain ⟨D1, D2, rfl, hD1, hD2⟩ := hD
      obtain ⟨hu, fv, cap, f, args, q1, q2, q3⟩ := hdc d md h n md1 h1 n1 hc m w D1 u hH hd hD1 hm
      refine ⟨hu, fv, cap, f, args, q1, q2, CallsD.mono q3 ?_⟩
      rintro e u' w' ⟨m1, v, rfl, u1, u2, u3, u4⟩
      exact leave_ok hdc hl u2 u3 (hD2.mono u1.le) u4 fun m' w'' u'' v1 v2 v3 v4 => hk m' w'' u'' (u1.trans v1) v2 v3 v4
    · cases hl

/-- a deferred function that begins with recover -/
def defE (P : Program) (E : Env0) (cf : CF) (df : Nat → DF) : DC := fun d md h n =>
  match E.good d.f with
  | false => none
  | true => match P.funcs[d.f]? with
    | none => none
    | some fn => match fn.body, fn.results.toList with
      | some (.seq (.region id ops false) rest), [] => match ops.toList with
        | [o] => match o.guard, o.dst, o.op with
          | none, some t, .call c => match c.callee with
            | .builtin .recover => bif Nat.ble d.args.length fn.ntmps then
                argsE d.args 0 Tr.lf fun env => putE (some t) fn.ntmps (match md with | .ret => .lit .nilIface | .pan x => x) env fun env =>
                  match codeE P E cf fn.ntmps (df fn.ntmps) rest ⟨env, [], h, n⟩ with
                  | some (.nrm, s) => (match s.ds with | [] => some (.ret, s.h, s.n) | _ => none)
                  | some (.ret, s) => (match s.ds with | [] => some (.ret, s.h, s.n) | _ => none)
                  | _ => none
              else none
            | _ => none
          | _, _, _ => none
        | _ => none
      | _, _ => none
theorem def_ok {df : Nat → DF} (hE : EnvOk P E) (hcf : CFOk P cf) (hdf : ∀ sz, DFOk P sz (df sz)) : DCOk P (defE P E cf df) := by
  intro d md h n md' h' n' hr m w D u hH hd hD hm
  unfold defE at hr
  split at hr
  · cases hr
  · rename_i hg
    split at hr
    · cases hr
    · rename_i fn hfn
      split at hr
      · rename_i id ops rest hbody hres
        split at hr
        · rename_i o hops
          split at hr
          · rename_i t c hgd hdst hop
            split at hr
            · rename_i hcal
              cases hb : Nat.ble d.args.length fn.ntmps with
              | false => rw [hb] at hr; simp only [cond_false] at hr; cases hr
              | true =>
                rw [hb] at hr
                simp only [cond_true] at hr
                have hlen : d.args.length ≤ fn.ntmps := Nat.le_of_ble_eq_true hb
                obtain ⟨fv, cap, vals, q1, q2, q3⟩ := hD
                obtain ⟨fn', hf', hb', hn'⟩ := hE.good d.f hg
                rw [hfn] at hf'; cases hf'
                have h1 : fn.name ≠ "runtime.NumGoroutine" := by simpa using hn'
                have h2 : ¬ fn.body = none := by intro e; simp [e] at hb'
                have hu : u ≠ .run := by
                  cases md with
                  | ret => simp only [MdR] at hm; subst hm; simp
                  | pan x => obtain ⟨v, rfl, _⟩ := hm; simp
                refine ⟨hu, fv, cap, d.f, vals.toArray, q1, by rw [q3]; simp [callFunc, hfn, h1, h2], ?_⟩
                obtain ⟨env1, hr1, he1⟩ := args_ok hr
                have hs0 := sr_start (P := P) (fn := fn) hH hd q2 hlen he1
                -- what recover yields
                have key : ∃ y u', VR m (match md with | .ret => AV.lit .nilIface | .pan x => x) y ∧ settle u' = .returning ∧
                    ∀ (c₀ : Frame) (cs : List Frame), c₀.mode = u → (match recoverD (c₀ :: cs) with | some (v, cs') => v = y ∧ cs' = { c₀ with mode := u' } :: cs | none => y = .nilIface ∧ (c₀ :: cs) = { c₀ with mode := u' } :: cs) := by
                  cases md with
                  | ret =>
                    simp only [MdR] at hm; subst hm
                    refine ⟨.nilIface, .returning, VR.lit _, rfl, fun c₀ cs hc => ?_⟩
                    simp only [recoverD, hc]
                    exact ⟨by first | rfl | trivial, by rw [← hc]⟩
                  | pan x =>
                    obtain ⟨v, rfl, hv⟩ := hm
                    refine ⟨v, .panicking [⟨v, true, false⟩], hv, rfl, fun c₀ cs hc => ?_⟩
                    simp only [recoverD, hc]
                    exact ⟨by first | rfl | trivial, by first | rfl | trivial⟩
                obtain ⟨y, u', hy, hset, hrec⟩ := key
                obtain ⟨env2, hr2, he2⟩ := SR.put (m' := m) (w' := w) (h' := h) (n' := n) (v := y) hs0 hr1
                have hs1 := he2 (Upd.refl m w) hH hd hy
                have hfin : ∃ out s', codeE P E cf fn.ntmps (df fn.ntmps) rest ⟨env2, [], h, n⟩ = some (out, s') ∧ (out = .nrm ∨ out = .ret) ∧ s'.ds = [] ∧ md' = .ret ∧ h' = s'.h ∧ n' = s'.n := by
                  split at hr2
                  · rename_i s' hc
                    split at hr2
                    · rename_i hds
                      simp only [Option.some.injEq, Prod.mk.injEq] at hr2
                      exact ⟨_, s', hc, .inl rfl, hds, hr2.1.symm, hr2.2.1.symm, hr2.2.2.symm⟩
                    · cases hr2
                  · rename_i s' hc
                    split at hr2
                    · rename_i hds
                      simp only [Option.some.injEq, Prod.mk.injEq] at hr2
                      exact ⟨_, s', hc, .inr rfl, hds, hr2.1.symm, hr2.2.1.symm, hr2.2.2.symm⟩
                    · cases hr2
                  · cases hr2
                obtain ⟨out, s', hc, hout, hds, rfl, rfl, rfl⟩ := hfin
                refine callsD_of_wpS hfn hbody fun c₀ cs hc₀ => ?_
                have hrec := hrec c₀ cs hc₀
                have hops' : ops = #[o] := by apply Array.ext'; simpa using hops
                subst hops'
                refine wpS_seq (wpS_region ?_)
                have hrun : ∀ ρ, (execOp ρ o).run P w = .ok .recover w := by
                  intro ρ
                  unfold execOp; rw [hop]
                  simp [resolve, hcal, invoke, builtin]
                have hwant : ∀ y, Region.wanted o y = true := by intro y; simp [Region.wanted, hgd]
                show wpOpsS P #[o] _ [0] _ _ _
                have hgo : ∀ (K : Act → List Frame → World → Prop) (B : Exit → Act → List Frame → World → Prop) (A : Act), K (A.put (some t) y) ({ c₀ with mode := u' } :: cs) w → wpOpsS P #[o] (Exit.thenS K B) [0] A (c₀ :: cs) w := by
                  intro K B A hK
                  simp only [wpOpsS, List.getElem?_toArray, List.getElem?_cons_zero, hwant, if_true, hrun, hdst]
                  split
                  · rename_i v cs' hh
                    rw [hh] at hrec
                    obtain ⟨rfl, rfl⟩ := hrec
                    exact hK
                  · rename_i hh
                    rw [hh] at hrec
                    obtain ⟨rfl, e⟩ := hrec
                    rw [e]
                    exact hK
                refine hgo _ _ _ (wpS_of_wp ?_)
                refine code_ok hE hcf (hdf fn.ntmps) rest _ m w _ out s' _ hs1 hc ?_
                intro m' a' w' e hu' hs' ho
                have hdef : a'.defers = [] := by have := hs'.ds; rw [hds] at this; exact this
                have hresr : (results fn a'.tmps).run P w' = .ok (.tuple #[]) w' := by
                  have : fn.results = #[] := by apply Array.ext'; simpa using hres
                  simp [results, this]
                have hpost : ∃ m'_1 v, (Ending.returned (.tuple #[])) = .returned v ∧ Upd m w m'_1 w' ∧ HR m'_1 s'.h.get w' ∧ Dom m'_1 s'.n ∧ MdR m'_1 .ret (settle u') := ⟨m', _, rfl, hu', hs'.hr, hs'.dom, hset⟩
                rcases hout with rfl | rfl
                · simp only [OutR] at ho; subst ho
                  exact ⟨hdef, u', rfl, _, hresr, hpost⟩
                · simp only [OutR] at ho; subst ho
                  exact ⟨hdef, u', rfl, _, hresr, hpost⟩
            · cases hr
          · cases hr
        · cases hr
      · cases hr

/-! ### functions -/
/-- a function whose contract is given -/
def spE (E : Env0) (f : FuncId) (args : List AV) : Option Value :=
  match E.sp f with
  | none => none
  | some g => match AV.closL args with
    | some vs => g vs
    | none => none
/-- by the depth of calls -/
def callE (P : Program) (E : Env0) (df : CF → Nat → DF) : Nat → CF
  | 0 => fun _ _ _ _ => none
  | d + 1 => fun f args h n => match spE E f args with
    | some v => some (.ret (.lit v), h, n)
    | none => match E.good f with
    | false => none
    | true => match P.funcs[f]? with
      | none => none
      | some fn => match fn.body with
        | none => none
        | some c => bif Nat.ble args.length fn.ntmps then
            argsE args 0 Tr.lf fun env =>
              match codeE P E (callE P E df d) fn.ntmps (df (callE P E df d) fn.ntmps) c ⟨env, [], h, n⟩ with
              | some (out, s) => match (match out with | .nrm => some Md.ret | .ret => some Md.ret | .pan x => some (Md.pan x) | _ => none) with
                | some md => match leaveE (defE P E (callE P E df d) (df (callE P E df d))) s.ds md s.h s.n with
                  | some (.ret, h, n) => match resE P s.env h fn.results.toList with
                    | some l => some (.ret (oneE l), h, n)
                    | none => none
                  | some (.pan x, h, n) => some (.pan x, h, n)
                  | none => none
                | none => none
              | none => none
          else none
theorem call_ok {df : CF → Nat → DF} (hE : EnvOk P E) (hdf : ∀ cf, CFOk P cf → ∀ sz, DFOk P sz (df cf sz)) : ∀ d, CFOk P (callE P E df d)
  | 0 => by intro f args h n r h' n' hc; simp [callE] at hc
  | d + 1 => by
    have ih := call_ok hE hdf d
    intro f args h n r h' n' hc m w vals hH hd hv
    simp only [callE] at hc
    split at hc
    · rename_i v hsp
      simp only [Option.some.injEq, Prod.mk.injEq] at hc
      obtain ⟨rfl, rfl, rfl⟩ := hc
      unfold spE at hsp
      split at hsp
      · cases hsp
      · rename_i g hg
        split at hsp
        · rename_i vs hvs
          have := closL_eq hv hvs
          subst this
          refine Calls.mono (hE.sp f g vals v hg hsp w) ?_
          rintro e w' ⟨rfl, hb⟩
          exact ⟨m, ⟨Le.refl m, hb.os, hb.tape, hb.output, hb.size, fun b hb' _ => hb.block b hb', fun i l h => .inl h⟩, ⟨fun i o hi => by
            obtain ⟨l, h1, h2⟩ := hH.at_ i o hi
            exact ⟨l, h1, h2.keep (hb.block _ h2.lt)⟩, hH.sep, fun i l hi => Nat.lt_of_lt_of_le (hH.bb i l hi) hb.size⟩, hd, v, rfl, VR.lit v⟩
        · cases hsp
    split at hc
    · cases hc
    · rename_i hg
      split at hc
      · cases hc
      · rename_i fn hfn
        split at hc
        · cases hc
        · rename_i c hbody
          cases hb : Nat.ble args.length fn.ntmps with
          | false => rw [hb] at hc; simp only [cond_false] at hc; cases hc
          | true =>
            rw [hb] at hc
            simp only [cond_true] at hc
            have hlen : args.length ≤ fn.ntmps := Nat.le_of_ble_eq_true hb
            obtain ⟨env1, hc1, he1⟩ := args_ok hc
            have hs0 := sr_start (P := P) (fn := fn) hH hd hv hlen he1
            split at hc1
            · rename_i out s hcode
              split at hc1
              · rename_i md hmd
                refine calls_of_wp_defers hfn hbody ?_
                refine code_ok hE ih (hdf _ ih fn.ntmps) c _ m w _ out s _ hs0 hcode ?_
                intro m1 a1 w1 e hu1 hs1 ho
                -- leave
                have hleave : ∀ u, MdR m1 md u → Leaves P fn a1.tmps (fun e w' => ∃ m', Upd m w m' w' ∧ HR m' h'.get w' ∧ Dom m' n' ∧ CRR m' e r) a1.defers u w1 := by
                  intro u hmu
                  generalize hlv : leaveE (defE P E (callE P E df d) (df (callE P E df d))) s.ds md s.h s.n = lv at hc1
                  have hl := hlv
                  split at hc1
                  · rename_i h2 n2
                    split at hc1
                    · rename_i l hres
                      simp only [Option.some.injEq, Prod.mk.injEq] at hc1
                      obtain ⟨rfl, rfl, rfl⟩ := hc1
                      refine leave_ok (def_ok hE ih (hdf _ ih)) hl hs1.hr hs1.dom hs1.ds hmu ?_
                      intro m2 w2 u2 v1 v2 v3 v4
                      simp only [MdR] at v4
                      subst v4
                      have hs2 : SR P m2 ⟨s.env, s.ds, h2, n2⟩ fn.ntmps a1 w2 := ⟨v2, v3, hs1.sz, fun t x hx => by
                        obtain ⟨v, p1, p2⟩ := hs1.env t x hx
                        exact ⟨v, p1, p2.mono v1.le⟩, hs1.ds.mono v1.le⟩
                      obtain ⟨v, p1, p2⟩ := results_ok (fn := fn) hs2 hres
                      exact ⟨v, p2, m2, hu1.trans v1, v2, v3, v, rfl, p1⟩
                    · cases hc1
                  · rename_i x h2 n2
                    simp only [Option.some.injEq, Prod.mk.injEq] at hc1
                    obtain ⟨rfl, rfl, rfl⟩ := hc1
                    refine leave_ok (def_ok hE ih (hdf _ ih)) hl hs1.hr hs1.dom hs1.ds hmu ?_
                    intro m2 w2 u2 v1 v2 v3 v4
                    obtain ⟨v, rfl, hv'⟩ := v4
                    exact ⟨m2, hu1.trans v1, v2, v3, v, rfl, hv'⟩
                  · cases hc1
                cases out with
                | nrm =>
                  simp only [Option.some.injEq] at hmd; subst hmd
                  simp only [OutR] at ho; subst ho
                  exact hleave _ rfl
                | ret =>
                  simp only [Option.some.injEq] at hmd; subst hmd
                  simp only [OutR] at ho; subst ho
                  exact hleave _ rfl
                | pan x =>
                  simp only [Option.some.injEq] at hmd; subst hmd
                  obtain ⟨v, rfl, hx⟩ := ho
                  exact hleave _ ⟨v, rfl, hx⟩
                | exit i => simp at hmd
              · cases hc1
            · cases hc1
end
end Go.Ev
