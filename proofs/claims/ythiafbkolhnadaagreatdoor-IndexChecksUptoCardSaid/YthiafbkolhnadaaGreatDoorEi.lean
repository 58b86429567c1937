/-
  Regions that draw their order: reckoned once, in an order in which each operation stands as late as it is wanted.
-/
import Derived.Test.YthiafbkolhnadaaGreatDoorEh
set_option linter.unusedVariables false
set_option linter.unusedSimpArgs false
namespace Go.Ev
open Go Go.RowKit Go.Dk

/-! ### what waits for what -/
def depsL (o : Oper) : List Nat := (o.after.toList.filter (Region.binds .any)).map (·.on)
def maskE (acc : List Nat) : List Nat → Nat → Nat
  | [], s => s
  | e :: l, s => maskE acc l (Nat.lor s (Nat.lor (Nat.pow 2 e) (acc.getD e 0)))
def ancE : List Oper → List Nat → List Nat
  | [], acc => acc
  | o :: l, acc => fN (maskE acc (depsL o) 0) fun x => ancE l (acc ++ [x])
theorem mask_bit {acc : List Nat} {i : Nat} : ∀ {l : List Nat} {s : Nat}, (maskE acc l s).testBit i = true → s.testBit i = true ∨ ∃ e ∈ l, e = i ∨ (acc.getD e 0).testBit i = true
  | [], s, h => .inl h
  | e :: l, s, h => by
    simp only [maskE] at h
    rcases mask_bit h with h1 | ⟨e', h1, h2⟩
    · have h1' : (s ||| (2 ^ e ||| acc.getD e 0)).testBit i = true := h1
      rw [Nat.testBit_or, Nat.testBit_or, Bool.or_eq_true, Bool.or_eq_true] at h1'
      rcases h1' with h2 | h2 | h2
      · exact .inl h2
      · rw [Nat.testBit_two_pow] at h2
        exact .inr ⟨e, List.mem_cons_self .., .inl (by simpa using h2)⟩
      · exact .inr ⟨e, List.mem_cons_self .., .inr h2⟩
    · exact .inr ⟨e', List.mem_cons_of_mem _ h1, h2⟩
/-- what is listed with all that it waits for -/
theorem anc_ok {ops : List Oper} {L : Nat → Prop} (hcl : ∀ j o, L j → ops[j]? = some o → ∀ e ∈ depsL o, L e) :
    ∀ {l : List Oper} {acc : List Nat}, (∀ j, l[j]? = ops[acc.length + j]?) → acc.length + l.length = ops.length → (∀ j i, j < acc.length → L j → (acc.getD j 0).testBit i = true → L i) → (∀ j o, acc.length ≤ j → ops[j]? = some o → ∀ e ∈ depsL o, e < j) →
    ∀ j i, L j → ((ancE l acc).getD j 0).testBit i = true → L i
  | [], acc, h1, h2, h3, h4, j, i, hj, hb => by
    simp only [ancE] at hb
    rcases Nat.lt_or_ge j acc.length with h | h
    · exact h3 j i h hj hb
    · rw [List.getD, List.getElem?_eq_none h] at hb
      simp at hb
  | o :: l, acc, h1, h2, h3, h4, j, i, hj, hb => by
    simp only [ancE, fN_eq] at hb
    refine anc_ok hcl (l := l) (acc := acc ++ [maskE acc (depsL o) 0]) ?_ (by simp at h2 ⊢; omega) ?_ (fun j o h => h4 j o (by simp at h; omega)) j i hj hb
    · intro j'
      have := h1 (j' + 1)
      simp only [List.getElem?_cons_succ] at this
      rw [this]
      simp only [List.length_append, List.length_cons, List.length_nil]
      congr 1; omega
    · intro j' i' hlt hL hb'
      rcases Nat.lt_or_ge j' acc.length with h | h
      · refine h3 j' i' h hL ?_
        rw [List.getD, List.getElem?_append_left h] at hb'
        exact hb'
      · have he : j' = acc.length := by simp at hlt; omega
        subst he
        rw [List.getD, List.getElem?_append_right (Nat.le_refl _)] at hb'
        simp only [Nat.sub_self, List.getElem?_cons_zero, Option.getD_some] at hb'
        have ho : ops[acc.length]? = some o := by have := h1 0; simpa using this.symm
        rcases mask_bit hb' with h5 | ⟨e, h5, h6⟩
        · simp at h5
        · have hLe := hcl acc.length o hL ho e h5
          rcases h6 with rfl | h6
          · exact hLe
          · exact h3 e i' (h4 acc.length o (Nat.le_refl _) ho e h5) hLe h6

/-! ### one operation -/
def looksL (ops : Array Oper) (o : Oper) : List Nat := o.looksAt ops
def memN (n : Nat) : List Nat → Bool
  | [] => false
  | x :: l => Nat.beq x n || memN n l
theorem memN_iff {n : Nat} : ∀ {l : List Nat}, memN n l = true ↔ n ∈ l
  | [] => by simp [memN]
  | x :: l => by simp only [memN, Bool.or_eq_true, Nat.beq_eq, List.mem_cons, memN_iff (l := l)]; exact ⟨fun h => h.imp (fun e => e.symm) id, fun h => h.imp (fun e => e.symm) id⟩
def resO (sl : List Nat) (env : Tr AV) : Operand → Option AV
  | .tmp t => bif memN t sl then env.get t else none
  | .const v => some (.lit v)
  | .global g => some (.lit (.pointer (some ⟨g, 0, none⟩)))
  | .func f => some (.lit (.func (.func f) #[] #[]))
/-- the one object that a light operation reads -/
def rdE (ρ : Operand → Option AV) (o : Oper) : Option Nat :=
  match o.op with
  | .load _ x => match ρ x with | some (.ptr i _) => some i | _ => none
  | .convert _ _ x => match ρ x with | some (.slc i _ _ _) => some i | _ => none
  | .lookup _ x _ _ => match ρ x with | some (.ref i) => some i | _ => none
  | _ => none
def resH (r : Option Nat) (h : Tr AO) : Nat → Option AO :=
  match r with
  | none => fun _ => none
  | some i => fun j => bif Nat.beq j i then h.get j else none
theorem resH_some {r : Option Nat} {h : Tr AO} {j : Nat} {ob : AO} (e : resH r h j = some ob) : r = some j ∧ h.get j = some ob := by
  cases r with
  | none => simp [resH] at e
  | some i =>
    simp only [resH] at e
    cases hb : Nat.beq j i with
    | false => rw [hb] at e; simp only [cond_false] at e; cases e
    | true =>
      rw [hb] at e
      simp only [cond_true] at e
      have := Nat.eq_of_beq_eq_true hb
      subst this
      exact ⟨rfl, e⟩
/-- may it change what is there? -/
def isHv : Op → Bool
  | .store .. | .next .. | .mapUpdate .. | .insert .. | .panic _ | .defer _ | .go _ | .send .. | .recv .. | .select .. | .entryStore .. | .mapEntry .. | .ready _ | .waits _ => true
  | .call c => match c.callee with
    | .builtin .len | .builtin .cap | .builtin .min | .builtin .max => false
    | _ => true
  | _ => false
structure Rec where
  i : Nat
  o : Oper
  pre : Sg
  post : Sg
  val : AV
  ob : Option AO
  hv : Bool
section
variable {P : Program} {E : Env0} {cf : CF} {ops : Array Oper} {sz : Nat}

/-- the slots that an operation looks at hold what they should -/
def LkOk (m : LM) (ops : Array Oper) (o : Oper) (env : Tr AV) (a : Act) : Prop := ∀ t x, t ∈ looksL ops o → env.get t = some x → ∃ v, a.tmps[t]? = some v ∧ VR m x v
theorem LkOk.rk {m : LM} {o : Oper} {env : Tr AV} {a : Act} (h : LkOk m ops o env a) : RK m (resO (looksL ops o) env) a.eval := by
  intro x y hx
  cases x with
  | tmp t =>
    simp only [resO] at hx
    cases hb : memN t (looksL ops o) with
    | false => rw [hb] at hx; simp only [cond_false] at hx; cases hx
    | true =>
      rw [hb] at hx
      simp only [cond_true] at hx
      obtain ⟨v, h1, h2⟩ := h t y (memN_iff.1 hb) hx
      have : a.eval (.tmp t) = v := by simp [Act.eval, Array.getD_eq_getD_getElem?, h1]
      rw [this]; exact h2
  | const v => simp only [resO, Option.some.injEq] at hx; subst hx; exact VR.lit v
  | global g => simp only [resO, Option.some.injEq] at hx; subst hx; exact VR.lit _
  | func f => simp only [resO, Option.some.injEq] at hx; subst hx; exact VR.lit _
theorem LkOk.want {m : LM} {o : Oper} {env : Tr AV} {a : Act} {b : Bool} (hs : LkOk m ops o env a) (h : wantE env ops o = some b) : Region.wanted o (yielded ops a.tmps) = b := by
  unfold wantE at h
  unfold Region.wanted
  split at h
  · rename_i hg; simp only [Option.some.injEq] at h; simp [hg, h]
  · rename_i j want hg
    simp only [hg]
    split at h
    · rename_i ht
      simp only [Option.some.injEq] at h; subst h
      simp [yielded, ht]
    · rename_i t ht
      have hmem : t ∈ looksL ops o := by simp [looksL, Oper.looksAt, hg, ht]
      split at h
      · rename_i q hq
        obtain ⟨v, h1, h2⟩ := hs t _ hmem hq
        simp only [VR] at h2
        subst h2
        simp only [Option.some.injEq] at h; subst h
        simp only [yielded, ht, Option.bind_some, h1]
        cases q <;> cases want <;> rfl
      · rename_i q hq
        obtain ⟨v, h1, h2⟩ := hs t _ hmem hq
        simp only [VR] at h2
        subst h2
        simp only [Option.some.injEq] at h; subst h
        simp only [yielded, ht, Option.bind_some, h1]
        rfl
      · cases h
theorem rdE_some {m : LM} {ρ : Operand → Option AV} {τ : Operand → Value} {o : Oper} {i : Nat} (hρ : RK m ρ τ) (h : rdE ρ o = some i) : ∃ l, m i = some l := by
  unfold rdE at h
  split at h
  · split at h
    · rename_i j k hx
      cases h
      have := hρ _ _ hx
      simp only [VR] at this
      exact ⟨this.choose, this.choose_spec.1⟩
    · cases h
  · split at h
    · rename_i j k q l hx
      cases h
      have := hρ _ _ hx
      simp only [VR] at this
      exact ⟨this.choose, this.choose_spec.1⟩
    · cases h
  · split at h
    · rename_i j hx
      cases h
      have := hρ _ _ hx
      simp only [VR] at this
      exact ⟨this.choose, this.choose_spec.1⟩
    · cases h
  · cases h

/-- what a record says of its operation, in whatever order it runs -/
structure RecOk (P : Program) (ops : Array Oper) (sz : Nat) (r : Rec) : Prop where
  op : ops[r.i]? = some r.o
  ds : r.post.ds = r.pre.ds
  le : r.pre.n ≤ r.post.n
  env : ∀ t, r.post.env.get t = if r.o.dst = some t then some r.val else r.pre.env.get t
  dlt : ∀ t, r.o.dst = some t → t < sz
  hob : r.hv = true → r.ob = none
  lh : r.hv = false → ∀ j, r.post.h.get j = match r.ob with | some ob => if j = r.pre.n then some ob else r.pre.h.get j | none => r.pre.h.get j
  ln : r.hv = false → r.post.n = match r.ob with | some _ => r.pre.n + 1 | none => r.pre.n
  light : r.hv = false → ∀ (Q : Exit → Act → World → Prop) (m : LM) (w : World) (a : Act) (K : Act → World → Prop), LkOk m ops r.o r.pre.env a →
      (∀ i o, rdE (resO (looksL ops r.o) r.pre.env) r.o = some i → r.pre.h.get i = some o → ∃ l, m i = some l ∧ OR m l w o) →
      (r.ob = none → ∀ v, VR m r.val v → K (a.put r.o.dst v) w) →
      (∀ ob, r.ob = some ob → ∀ v w' c, Grow w w' → (∀ m', Le m m' → m' r.pre.n = some ⟨w.heap.size, 0, c⟩ → VR m' r.val v ∧ OR m' ⟨w.heap.size, 0, c⟩ w' ob) → K (a.put r.o.dst v) w') →
      (if Region.wanted r.o (yielded ops a.tmps) then r.o.wp P a w K Q else K (a.put r.o.dst undef) w)
  heavy : r.hv = true → ∀ (Q : Exit → Act → World → Prop) (m : LM) (w : World) (a : Act) (K : Act → World → Prop), HR m r.pre.h.get w → Dom m r.pre.n → LkOk m ops r.o r.pre.env a →
      (∀ m' w' v, Upd m w m' w' → HR m' r.post.h.get w' → Dom m' r.post.n → VR m' r.val v → K (a.put r.o.dst v) w') →
      (if Region.wanted r.o (yielded ops a.tmps) then r.o.wp P a w K Q else K (a.put r.o.dst undef) w)
/-- an operation that panics -/
structure PanOk (P : Program) (ops : Array Oper) (i : Nat) (o : Oper) (s : Sg) (x : AV) (h' : Tr AO) (n' : Nat) : Prop where
  op : ops[i]? = some o
  pan : ∀ (Q : Exit → Act → World → Prop) (m : LM) (w : World) (a : Act) (K : Act → World → Prop), HR m s.h.get w → Dom m s.n → LkOk m ops o s.env a →
      (∀ m' w' v, Upd m w m' w' → HR m' h'.get w' → Dom m' n' → VR m' x v → Q (.panic [⟨v, false, false⟩]) a w') →
      (if Region.wanted o (yielded ops a.tmps) then o.wp P a w K Q else K (a.put o.dst undef) w)

def recE (P : Program) (E : Env0) (cf : CF) (ops : Array Oper) (sz : Nat) (i : Nat) (o : Oper) (s : Sg) : Option (Rec ⊕ (AV × Tr AO × Nat)) :=
  match wantE s.env ops o with
  | none => none
  | some false => putE o.dst sz (.lit undef) s.env fun env => some (.inl ⟨i, o, s, ⟨env, s.ds, s.h, s.n⟩, .lit undef, none, false⟩)
  | some true => match isHv o.op with
    | false => match light P (resH (rdE (resO (looksL ops o) s.env) o) s.h) s.n (resO (looksL ops o) s.env) o with
      | some (.val x) => fA x fun x => putE o.dst sz x s.env fun env => some (.inl ⟨i, o, s, ⟨env, s.ds, s.h, s.n⟩, x, none, false⟩)
      | some (.new x ob) => fA x fun x => fO ob fun ob => Tr.setK (some ob) 40 s.h s.n fun h => putE o.dst sz x s.env fun env => fN (Nat.succ s.n) fun n => some (.inl ⟨i, o, s, ⟨env, s.ds, h, n⟩, x, some ob, false⟩)
      | none => none
    | true => heavyE P E cf (resO (looksL ops o) s.env) o s.h s.n (fun av h n => bif Nat.ble s.n n then fA (match av with | some x => x | none => .lit undef) fun x => putE o.dst sz x s.env fun env => fN n fun n => some (.inl ⟨i, o, s, ⟨env, s.ds, h, n⟩, x, none, true⟩) else none) (fun x h n => fN n fun n => some (.inr (x, h, n)))
theorem putE_some {β : Type} {d : Option Tmp} {x : AV} {env : Tr AV} {k : Tr AV → Option β} {r : β} (h : putE d sz x env k = some r) : ∃ env', k env' = some r ∧ (∀ t, env'.get t = if d = some t then some x else env.get t) ∧ ∀ t, d = some t → t < sz := by
  cases d with
  | none => exact ⟨env, h, fun t => by simp, fun t e => by cases e⟩
  | some d =>
    simp only [putE, fA_eq] at h
    cases hb : Nat.blt d sz with
    | false => rw [hb] at h; simp only [cond_false] at h; cases h
    | true =>
      rw [hb] at h
      simp only [cond_true] at h
      obtain ⟨env', h1, h2⟩ := Tr.setK_some h
      rw [blt_iff] at hb
      refine ⟨env', h1, fun t => ?_, fun t e => by cases e; simpa using hb⟩
      rw [h2]
      by_cases e : t = d
      · subst e; simp
      · have : ¬ (some d = some t) := by simpa using fun e' => e e'.symm
        rw [if_neg e, if_neg this]
theorem bif_some {β : Type} {b : Bool} {x y : Option β} {r : β} (e : (bif b then x else y) = some r) : (b = true ∧ x = some r) ∨ (b = false ∧ y = some r) := by
  cases b with
  | true => exact .inl ⟨rfl, e⟩
  | false => exact .inr ⟨rfl, e⟩
theorem hPut_k {β : Type} {h : Tr AO} {t : TypeId} {x y z : Option AV} {n : Nat} {k : Option AV → Tr AO → Nat → Option β} {kp : AV → Tr AO → Nat → Option β} {r : β} (hr : hPut P h t x y z (fun h => k none h n) = some r) :
    (∃ av h' n', k av h' n' = some r) ∨ (∃ x h' n', kp x h' n' = some r) := by
  unfold hPut at hr
  split at hr
  · split at hr
    · split at hr
      · split at hr
        · split at hr
          · rw [fM_eq] at hr
            obtain ⟨h', hk, _⟩ := Tr.setK_some hr
            exact .inl ⟨_, _, _, hk⟩
          · cases hr
        · cases hr
      · cases hr
    · cases hr
  · cases hr
theorem hApp_k {β : Type} {h : Tr AO} {n : Nat} {ρ : Operand → Option AV} {c : Call} {k : Option AV → Tr AO → Nat → Option β} {kp : AV → Tr AO → Nat → Option β} {r : β} (hr : hApp P h n ρ c (fun a h n => k (some a) h n) = some r) :
    (∃ av h' n', k av h' n' = some r) ∨ (∃ x h' n', kp x h' n' = some r) := by
  have bk : ∀ {b : Bool} {x y : Option β}, (bif b then x else y) = some r → (b = true ∧ x = some r) ∨ (b = false ∧ y = some r) := by
    intro b x y e
    cases b with
    | true => exact .inl ⟨rfl, e⟩
    | false => exact .inr ⟨rfl, e⟩
  unfold hApp at hr
  split at hr
  · split at hr
    · split at hr
      · split at hr
        · split at hr
          · split at hr
            · rcases bk hr with ⟨_, hr⟩ | ⟨_, hr⟩
              · exact .inl ⟨_, _, _, hr⟩
              · rcases bk hr with ⟨_, hr⟩ | ⟨_, hr⟩
                · rw [fL_eq] at hr
                  obtain ⟨h', hk, _⟩ := Tr.setK_some hr
                  exact .inl ⟨_, _, _, hk⟩
                · cases hr
            · rcases bk hr with ⟨_, hr⟩ | ⟨_, hr⟩
              · exact .inl ⟨_, _, _, hr⟩
              · split at hr
                · rcases bk hr with ⟨_, hr⟩ | ⟨_, hr⟩
                  · rw [fL_eq] at hr
                    obtain ⟨h1, hk1, _⟩ := Tr.setK_some hr
                    obtain ⟨h', hk, _⟩ := Tr.setK_some hk1
                    rw [fN_eq] at hk
                    exact .inl ⟨_, _, _, hk⟩
                  · cases hr
                · cases hr
            · cases hr
          · cases hr
        · cases hr
      · cases hr
    · cases hr
  · cases hr
theorem heavy_k {β : Type} {ρ : Operand → Option AV} {o : Oper} {h : Tr AO} {n : Nat} {k : Option AV → Tr AO → Nat → Option β} {kp : AV → Tr AO → Nat → Option β} {r : β} (hr : heavyE P E cf ρ o h n k kp = some r) :
    (∃ av h' n', k av h' n' = some r) ∨ (∃ x h' n', kp x h' n' = some r) := by
  unfold heavyE at hr
  split at hr
  · unfold hStore at hr
    split at hr
    · split at hr
      · rcases bif_some hr with ⟨_, hr⟩ | ⟨_, hr⟩
        · rw [fL_eq] at hr
          obtain ⟨h', hk, _⟩ := Tr.setK_some hr
          exact .inl ⟨_, _, _, hk⟩
        · cases hr
      · cases hr
    · cases hr
  · unfold hNext at hr
    split at hr
    · split at hr
      · rename_i s pos _
        cases hlt : Nat.blt pos s.size with
        | true =>
          rw [hlt] at hr
          simp only [cond_true, fN_eq] at hr
          obtain ⟨h', hk, _⟩ := Tr.setK_some hr
          exact .inl ⟨_, _, _, hk⟩
        | false =>
          rw [hlt] at hr
          simp only [cond_false] at hr
          exact .inl ⟨_, _, _, hr⟩
      · cases hr
    · cases hr
  · exact hPut_k hr
  · exact hPut_k hr
  · split at hr
    · exact .inr ⟨_, _, _, hr⟩
    · exact .inr ⟨_, _, _, hr⟩
    · cases hr
  · split at hr
    · split at hr
      · split at hr
        · exact .inl ⟨_, _, _, hr⟩
        · exact .inr ⟨_, _, _, hr⟩
        · cases hr
      · split at hr
        · split at hr
          · exact .inl ⟨_, _, _, hr⟩
          · cases hr
        · cases hr
    · exact hApp_k hr
  · cases hr
theorem rec_ok {i : Nat} {o : Oper} {s : Sg} {r : Rec ⊕ (AV × Tr AO × Nat)} (hE : EnvOk P E) (hcf : CFOk P cf) (hop : ops[i]? = some o) (h : recE P E cf ops sz i o s = some r) :
    match r with
    | .inl q => q.i = i ∧ q.o = o ∧ q.pre = s ∧ RecOk P ops sz q
    | .inr (x, h', n') => PanOk P ops i o s x h' n' := by
  unfold recE at h
  split at h
  · cases h
  · rename_i hw
    obtain ⟨env', h1, h2, h3⟩ := putE_some h
    simp only [Option.some.injEq] at h1
    subst h1
    refine ⟨rfl, rfl, rfl, hop, rfl, Nat.le_refl _, h2, h3, fun e => (by cases e), fun _ j => rfl, fun _ => rfl, fun _ Q m w a K hl hr hk _ => ?_, fun e => (by cases e)⟩
    rw [hl.want hw]
    exact hk rfl undef (VR.lit _)
  · rename_i hw
    split at h
    · rename_i hh
      split at h
      · rename_i x hl
        rw [fA_eq] at h
        obtain ⟨env', h1, h2, h3⟩ := putE_some h
        simp only [Option.some.injEq] at h1
        subst h1
        refine ⟨rfl, rfl, rfl, hop, rfl, Nat.le_refl _, h2, h3, fun e => (by cases e), fun _ j => rfl, fun _ => rfl, fun _ Q m w a K hlk hr hk _ => ?_, fun e => (by cases e)⟩
        rw [hlk.want hw]
        simp only [if_true]
        have hok := light_ok (P := P) (m := m) (w := w) (n := s.n) (o := o) (H := resH (rdE (resO (looksL ops o) s.env) o) s.h) (fun j ob hj => hr j ob (resH_some hj).1 (resH_some hj).2) hlk.rk hl
        obtain ⟨v, q1, q2⟩ := hok
        unfold Oper.wp
        rw [q2]
        exact hk rfl v q1
      · rename_i x ob hl
        rw [fA_eq, fO_eq] at h
        obtain ⟨h', h1, h2⟩ := Tr.setK_some h
        obtain ⟨env', h3, h4, h5⟩ := putE_some h1
        rw [fN_eq] at h3
        simp only [Option.some.injEq] at h3
        subst h3
        refine ⟨rfl, rfl, rfl, hop, rfl, Nat.le_succ _, h4, h5, fun e => (by cases e), fun _ j => h2 j, fun _ => rfl, fun _ Q m w a K hlk hr _ hk => ?_, fun e => (by cases e)⟩
        rw [hlk.want hw]
        simp only [if_true]
        have hok := light_ok (P := P) (m := m) (w := w) (n := s.n) (o := o) (H := resH (rdE (resO (looksL ops o) s.env) o) s.h) (fun j ob hj => hr j ob (resH_some hj).1 (resH_some hj).2) hlk.rk hl
        obtain ⟨v, w', c, q1, q2, q3⟩ := hok
        unfold Oper.wp
        rw [q1]
        exact hk ob rfl v w' c q2 q3
      · cases h
    · -- heavy
      have hgo : ∀ (m : LM) (w : World) (a : Act), HR m s.h.get w → Dom m s.n → LkOk m ops o s.env a → _ :=
        fun m w a h1 h2 h3 => heavy_ok (a := a) hE hcf h1 h2 h3.rk h
      have kcase : ∀ {av : Option AV} {h' : Tr AO} {n' : Nat}, (bif Nat.ble s.n n' then fA (match av with | some x => x | none => .lit undef) fun x => putE o.dst sz x s.env fun env => fN n' fun n => some (Sum.inl (⟨i, o, s, ⟨env, s.ds, h', n⟩, x, none, true⟩ : Rec)) else none) = some r →
          ∃ env', r = .inl ⟨i, o, s, ⟨env', s.ds, h', n'⟩, (match av with | some x => x | none => .lit undef), none, true⟩ ∧ s.n ≤ n' ∧ (∀ t, env'.get t = if o.dst = some t then some (match av with | some x => x | none => .lit undef) else s.env.get t) ∧ ∀ t, o.dst = some t → t < sz := by
        intro av h' n' e
        cases hb : Nat.ble s.n n' with
        | false => rw [hb] at e; simp only [cond_false] at e; cases e
        | true =>
          rw [hb] at e
          simp only [cond_true] at e
          rw [fA_eq] at e
          obtain ⟨env', h1, h2, h3⟩ := putE_some e
          rw [fN_eq] at h1
          simp only [Option.some.injEq] at h1
          exact ⟨env', h1.symm, Nat.le_of_ble_eq_true hb, h2, h3⟩
      have pcase : ∀ {x : AV} {h' : Tr AO} {n' : Nat}, (fN n' fun n => some (Sum.inr (x, h', n))) = some r → r = .inr (x, h', n') := by
        intro x h' n' e
        rw [fN_eq] at e
        simp only [Option.some.injEq] at e
        exact e.symm
      cases r with
      | inl q =>
        rcases heavy_k h with ⟨av, h', n', hk⟩ | ⟨x, h', n', hk⟩
        · obtain ⟨env', he, hle, henv, hdl⟩ := kcase hk
          simp only [Sum.inl.injEq] at he
          subst he
          refine ⟨rfl, rfl, rfl, hop, rfl, hle, henv, hdl, fun _ => rfl, fun e => (by cases e), fun e => (by cases e), fun e => (by cases e), fun _ Q m w a K hH hd hl hK => ?_⟩
          rw [hl.want hw]
          simp only [if_true]
          rcases hgo m w a hH hd hl with ⟨av2, h2, n2, hk2, hop2⟩ | ⟨x, h2, n2, hk2, _⟩
          · obtain ⟨env2, he2, _⟩ := kcase hk2
            simp only [Sum.inl.injEq, Rec.mk.injEq, Sg.mk.injEq, true_and, and_true] at he2
            obtain ⟨⟨_, rfl, rfl⟩, hval⟩ := he2
            refine hop2 K Q fun m' w' v u1 u2 u3 u4 => hK m' w' v u1 u2 u3 ?_
            simp only [hval]
            cases av2 with
            | some x => exact u4
            | none => rw [u4]; exact VR.lit _
          · have := pcase hk2; cases this
        · have := pcase hk; cases this
      | inr p =>
        obtain ⟨x, h', n'⟩ := p
        refine ⟨hop, fun Q m w a K hH hd hl hQ => ?_⟩
        rw [hl.want hw]
        simp only [if_true]
        rcases hgo m w a hH hd hl with ⟨av2, h2, n2, hk2, hop2⟩ | ⟨x2, h2, n2, hk2, hop2⟩
        · obtain ⟨env2, he2, _⟩ := kcase hk2; cases he2
        · have := pcase hk2
          simp only [Sum.inr.injEq, Prod.mk.injEq] at this
          obtain ⟨rfl, rfl, rfl⟩ := this
          exact hop2 K Q hQ
end
end Go.Ev
