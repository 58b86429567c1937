/-
  Several texts in one: Lv
-/
import Derived.Test.YthlkmblljanfmaaGreatDoorWD
import Derived.Test.YthlkmblljanfmaaGreatDoorWA
section
set_option linter.unusedVariables false
set_option maxRecDepth 100000
namespace Go.Proofs.YthlkmblljanfmaaGreatDoor
open Go Go.Ev Go.RowKit Go.Dk
theorem env0_ok : Ev.EnvOk Tryz.prog env0 := by
  refine ⟨fun f hf => ?_, fun f args v h w => ?_, fun f g args v h => by (cases h), fun f h x w => ?_⟩
  · have h1 : Nat.blt f 554 = true ∧ Ev.memN f bad = false := by simpa [env0] using hf
    have h2 : f < 554 := by have := h1.1; rw [Dk.blt_iff] at this; simpa using this
    have h3 := List.all_eq_true.1 good_all f (by simpa using h2)
    rw [h1.2, Bool.false_or] at h3
    unfold goodF at h3
    split at h3
    · rename_i fn hfn
      simp only [Bool.and_eq_true, Bool.not_eq_true'] at h3
      exact ⟨fn, hfn, h3.1, h3.2⟩
    · cases h3
  · have h1 : (bif Nat.beq f 249 then ixRow args else none) = some v := h
    cases hb : Nat.beq f 249 with
    | false => rw [hb] at h1; cases h1
    | true =>
      rw [hb] at h1
      have := Nat.eq_of_beq_eq_true hb
      subst this
      exact run249 args v h1 w
  · have := Nat.eq_of_beq_eq_true (show Nat.beq f 201 = true from h)
    subst this
    exact run201 x w
theorem mixedL : Tryz.prog.follows .mixedOrders = true := by kernel_rfl
theorem call_of {d : Nat} {f : FuncId} {args : List Value} {v : Value} (h : Ev.evalE Tryz.prog env0 d f args = some v) (w : World) : Fc Tryz.prog f args w fun u _ => u = v :=
  Calls.mono (Ev.eval_ok mixedL env0_ok h w) fun e w' ⟨he, hb⟩ => ⟨_, he, hb, rfl⟩
def src : ByteArray := ⟨#[123, 97, 58, 32, 110, 117, 108, 108, 44, 32, 98, 58, 32, 34, 120, 34, 125, 32, 47, 47, 32, 99]⟩
def toks : List (Nat × Value) := [(0, .tuple #[.agg #[.int .i64 (.ofNat 4), .string ⟨#[123]⟩, .int .i64 (.ofNat 0)], .int .i64 (.ofNat 0)]), (1, .tuple #[.agg #[.int .i64 (.ofNat 6), .string ⟨#[97]⟩, .int .i64 (.ofNat 1)], .int .i64 (.ofNat 0)]), (2, .tuple #[.agg #[.int .i64 (.ofNat 4), .string ⟨#[58]⟩, .int .i64 (.ofNat 2)], .int .i64 (.ofNat 0)]), (3, .tuple #[.agg #[.int .i64 (.ofNat 1), .string ⟨#[32]⟩, .int .i64 (.ofNat 3)], .int .i64 (.ofNat 0)]), (4, .tuple #[.agg #[.int .i64 (.ofNat 6), .string ⟨#[110, 117, 108, 108]⟩, .int .i64 (.ofNat 4)], .int .i64 (.ofNat 0)]), (8, .tuple #[.agg #[.int .i64 (.ofNat 4), .string ⟨#[44]⟩, .int .i64 (.ofNat 8)], .int .i64 (.ofNat 0)]), (9, .tuple #[.agg #[.int .i64 (.ofNat 1), .string ⟨#[32]⟩, .int .i64 (.ofNat 9)], .int .i64 (.ofNat 0)]), (10, .tuple #[.agg #[.int .i64 (.ofNat 6), .string ⟨#[98]⟩, .int .i64 (.ofNat 10)], .int .i64 (.ofNat 0)]), (11, .tuple #[.agg #[.int .i64 (.ofNat 4), .string ⟨#[58]⟩, .int .i64 (.ofNat 11)], .int .i64 (.ofNat 0)]), (12, .tuple #[.agg #[.int .i64 (.ofNat 1), .string ⟨#[32]⟩, .int .i64 (.ofNat 12)], .int .i64 (.ofNat 0)]), (13, .tuple #[.agg #[.int .i64 (.ofNat 5), .string ⟨#[34, 120, 34]⟩, .int .i64 (.ofNat 13)], .int .i64 (.ofNat 0)]), (16, .tuple #[.agg #[.int .i64 (.ofNat 4), .string ⟨#[125]⟩, .int .i64 (.ofNat 16)], .int .i64 (.ofNat 0)]), (17, .tuple #[.agg #[.int .i64 (.ofNat 1), .string ⟨#[32]⟩, .int .i64 (.ofNat 17)], .int .i64 (.ofNat 0)]), (18, .tuple #[.agg #[.int .i64 (.ofNat 3), .string ⟨#[47, 47, 32, 99]⟩, .int .i64 (.ofNat 18)], .int .i64 (.ofNat 0)]), (22, .tuple #[.agg #[.int .i64 (.ofNat 0), .string ⟨#[]⟩, .int .i64 (.ofNat 0)], .int .i64 (.ofNat 7)])]
def look : List (Nat × Value) → Nat → Option Value
  | [], _ => none
  | (j, v) :: l, k => bif Nat.beq k j then some v else look l k
theorem look_mem {v : Value} {k : Nat} : ∀ {l : List (Nat × Value)}, look l k = some v → (k, v) ∈ l
  | [], h => by cases h
  | (j, u) :: l, h => by
    unfold look at h
    cases hb : Nat.beq k j with
    | true =>
      rw [hb] at h
      simp only [cond_true, Option.some.injEq] at h
      rw [Nat.eq_of_beq_eq_true hb, h]
      exact List.mem_cons_self ..
    | false =>
      rw [hb] at h
      exact List.mem_cons_of_mem _ (look_mem h)
def natV : Value → Option Nat
  | .int .i64 (.ofNat k) => some k
  | _ => none
theorem natV_eq {v : Value} {k : Nat} (h : natV v = some k) : v = .int .i64 (.ofNat k) := by
  unfold natV at h
  split at h
  · cases h; rfl
  · cases h
theorem tk0 : evalE Tryz.prog env0 12 328 [.string src, .int .i64 (.ofNat 0)] = some (.tuple #[.agg #[.int .i64 (.ofNat 4), .string ⟨#[123]⟩, .int .i64 (.ofNat 0)], .int .i64 (.ofNat 0)]) := by kernel_rfl
theorem tk1 : evalE Tryz.prog env0 12 328 [.string src, .int .i64 (.ofNat 1)] = some (.tuple #[.agg #[.int .i64 (.ofNat 6), .string ⟨#[97]⟩, .int .i64 (.ofNat 1)], .int .i64 (.ofNat 0)]) := by kernel_rfl
theorem tk2 : evalE Tryz.prog env0 12 328 [.string src, .int .i64 (.ofNat 2)] = some (.tuple #[.agg #[.int .i64 (.ofNat 4), .string ⟨#[58]⟩, .int .i64 (.ofNat 2)], .int .i64 (.ofNat 0)]) := by kernel_rfl
theorem tk3 : evalE Tryz.prog env0 12 328 [.string src, .int .i64 (.ofNat 3)] = some (.tuple #[.agg #[.int .i64 (.ofNat 1), .string ⟨#[32]⟩, .int .i64 (.ofNat 3)], .int .i64 (.ofNat 0)]) := by kernel_rfl
theorem tk4 : evalE Tryz.prog env0 12 328 [.string src, .int .i64 (.ofNat 4)] = some (.tuple #[.agg #[.int .i64 (.ofNat 6), .string ⟨#[110, 117, 108, 108]⟩, .int .i64 (.ofNat 4)], .int .i64 (.ofNat 0)]) := by kernel_rfl
theorem tk8 : evalE Tryz.prog env0 12 328 [.string src, .int .i64 (.ofNat 8)] = some (.tuple #[.agg #[.int .i64 (.ofNat 4), .string ⟨#[44]⟩, .int .i64 (.ofNat 8)], .int .i64 (.ofNat 0)]) := by kernel_rfl
theorem tk9 : evalE Tryz.prog env0 12 328 [.string src, .int .i64 (.ofNat 9)] = some (.tuple #[.agg #[.int .i64 (.ofNat 1), .string ⟨#[32]⟩, .int .i64 (.ofNat 9)], .int .i64 (.ofNat 0)]) := by kernel_rfl
theorem tk10 : evalE Tryz.prog env0 12 328 [.string src, .int .i64 (.ofNat 10)] = some (.tuple #[.agg #[.int .i64 (.ofNat 6), .string ⟨#[98]⟩, .int .i64 (.ofNat 10)], .int .i64 (.ofNat 0)]) := by kernel_rfl
theorem tk11 : evalE Tryz.prog env0 12 328 [.string src, .int .i64 (.ofNat 11)] = some (.tuple #[.agg #[.int .i64 (.ofNat 4), .string ⟨#[58]⟩, .int .i64 (.ofNat 11)], .int .i64 (.ofNat 0)]) := by kernel_rfl
theorem tk12 : evalE Tryz.prog env0 12 328 [.string src, .int .i64 (.ofNat 12)] = some (.tuple #[.agg #[.int .i64 (.ofNat 1), .string ⟨#[32]⟩, .int .i64 (.ofNat 12)], .int .i64 (.ofNat 0)]) := by kernel_rfl
theorem tk13 : evalE Tryz.prog env0 12 328 [.string src, .int .i64 (.ofNat 13)] = some (.tuple #[.agg #[.int .i64 (.ofNat 5), .string ⟨#[34, 120, 34]⟩, .int .i64 (.ofNat 13)], .int .i64 (.ofNat 0)]) := by kernel_rfl
theorem tk16 : evalE Tryz.prog env0 12 328 [.string src, .int .i64 (.ofNat 16)] = some (.tuple #[.agg #[.int .i64 (.ofNat 4), .string ⟨#[125]⟩, .int .i64 (.ofNat 16)], .int .i64 (.ofNat 0)]) := by kernel_rfl
theorem tk17 : evalE Tryz.prog env0 12 328 [.string src, .int .i64 (.ofNat 17)] = some (.tuple #[.agg #[.int .i64 (.ofNat 1), .string ⟨#[32]⟩, .int .i64 (.ofNat 17)], .int .i64 (.ofNat 0)]) := by kernel_rfl
theorem tk18 : evalE Tryz.prog env0 12 328 [.string src, .int .i64 (.ofNat 18)] = some (.tuple #[.agg #[.int .i64 (.ofNat 3), .string ⟨#[47, 47, 32, 99]⟩, .int .i64 (.ofNat 18)], .int .i64 (.ofNat 0)]) := by kernel_rfl
theorem tk22 : evalE Tryz.prog env0 12 328 [.string src, .int .i64 (.ofNat 22)] = some (.tuple #[.agg #[.int .i64 (.ofNat 0), .string ⟨#[]⟩, .int .i64 (.ofNat 0)], .int .i64 (.ofNat 7)]) := by kernel_rfl
theorem toks_k : ∀ p ∈ toks, evalE Tryz.prog env0 12 328 [.string src, .int .i64 (.ofNat p.1)] = some p.2 := (List.forall_mem_cons.2 ⟨tk0, (List.forall_mem_cons.2 ⟨tk1, (List.forall_mem_cons.2 ⟨tk2, (List.forall_mem_cons.2 ⟨tk3, (List.forall_mem_cons.2 ⟨tk4, (List.forall_mem_cons.2 ⟨tk8, (List.forall_mem_cons.2 ⟨tk9, (List.forall_mem_cons.2 ⟨tk10, (List.forall_mem_cons.2 ⟨tk11, (List.forall_mem_cons.2 ⟨tk12, (List.forall_mem_cons.2 ⟨tk13, (List.forall_mem_cons.2 ⟨tk16, (List.forall_mem_cons.2 ⟨tk17, (List.forall_mem_cons.2 ⟨tk18, (List.forall_mem_cons.2 ⟨tk22, (fun _ h => absurd h List.not_mem_nil)⟩)⟩)⟩)⟩)⟩)⟩)⟩)⟩)⟩)⟩)⟩)⟩)⟩)⟩)⟩)
def nxtE : List Value → Option Value
  | [a, b] => bif eqV a (.string src) then (match natV b with | some k => look toks k | none => none) else none
  | _ => none
noncomputable def env1 : Env0 := { env0 with sp := fun f => bif Nat.beq f 328 then some nxtE else none }
theorem env1_ok : EnvOk Tryz.prog env1 := by
  refine ⟨env0_ok.good, env0_ok.ext, fun f g args v hs h w => ?_, env0_ok.idf⟩
  have h1 : (bif Nat.beq f 328 then some nxtE else none) = some g := hs
  cases hb : Nat.beq f 328 with
  | false => rw [hb] at h1; cases h1
  | true =>
    rw [hb] at h1
    cases h1
    have := Nat.eq_of_beq_eq_true hb
    subst this
    unfold nxtE at h
    split at h
    · rename_i a b
      cases hc : eqV a (.string src) with
      | false => rw [hc] at h; cases h
      | true =>
        rw [hc] at h
        simp only [cond_true] at h
        split at h
        · rename_i k hk
          rw [eqV_eq hc, natV_eq hk]
          exact Ev.eval_ok mixedL env0_ok (toks_k _ (look_mem h)) w
        · cases h
    · cases h
theorem lives_k : evalE Tryz.prog env1 60 4 [] = some (.bool true) := by kernel_rfl
theorem c4 (w : World) : Fc Tryz.prog 4 [] w (IsB fun b => b = true) :=
  Calls.mono (Ev.eval_ok mixedL env1_ok lives_k w) fun e w' ⟨he, hb⟩ => ⟨_, he, hb, true, rfl, rfl⟩
end Go.Proofs.YthlkmblljanfmaaGreatDoor
end
