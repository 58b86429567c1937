/-
  Delta, as a plain function.
-/
import Derived.Test.YtmkihcdcgkdilaaSm
set_option linter.unusedVariables false
set_option linter.unusedSimpArgs false
namespace Go.Dk
open Go Go.RowKit
/-- the fields that are gone, as nulls -/
def dlG (af bf : Fs) : Fs := (af.filter fun kv => !(hasF kv.1 bf).isSome).map fun kv => (kv.1, nulV)
def dlStep (E : V → V → Bool) (dl : V → V → Option V) (af : Fs) (o : Option Fs) (kv : ByteArray × V) : Option Fs :=
  match o with
  | none => none
  | some l => if (hasF kv.1 af).any (fun old => E old kv.2) then some l else
    match dl ((hasF kv.1 af).getD nulV) kv.2 with
    | none => none
    | some x => if kv.2.sc.kind = 0 then none else some (l ++ [(kv.1, x)])
def dl (E : V → V → Bool) : Nat → V → V → Option V
  | 0, _, _ => none
  | d + 1, a, b => if b.sc.kind = 7 then (b.fields.foldl (dlStep E (dl E d) a.fields) (some (dlG a.fields b.fields))).map mapV else some b
theorem dl_map {E : V → V → Bool} {d : Nat} {a b : V} (h : b.sc.kind = 7) : dl E (d + 1) a b = (b.fields.foldl (dlStep E (dl E d) a.fields) (some (dlG a.fields b.fields))).map mapV := by
  simp only [dl]; rw [if_pos h]
theorem dl_else {E : V → V → Bool} {d : Nat} {a b : V} (h : b.sc.kind ≠ 7) : dl E (d + 1) a b = some b := by
  simp only [dl]; rw [if_neg h]
theorem dlStep_none (E : V → V → Bool) (f : V → V → Option V) (af : Fs) : ∀ l : Fs, l.foldl (dlStep E f af) none = none
  | [] => rfl
  | kv :: l => by
    rw [List.foldl_cons]
    exact dlStep_none E f af l
/-- a step that fails, fails for good -/
theorem dl_fail {E : V → V → Bool} {f : V → V → Option V} {af bf : Fs} {i : Nat} (o : Option Fs) (hi : i < bf.length) (h : dlStep E f af ((bf.take i).foldl (dlStep E f af) o) bf[i] = none) : bf.foldl (dlStep E f af) o = none := by
  have e : bf = bf.take i ++ bf[i] :: bf.drop (i + 1) := by rw [← List.drop_eq_getElem_cons hi, List.take_append_drop]
  conv => lhs; rw [e]
  rw [List.foldl_append, List.foldl_cons, h]
  exact dlStep_none E f af _
theorem take_foldO {α β : Type} {g : β → α → β} {o : β} {l : List α} {i : Nat} (hi : i < l.length) : (l.take (i + 1)).foldl g o = g ((l.take i).foldl g o) l[i] := by
  rw [List.take_succ_eq_append_getElem hi, List.foldl_append]; rfl
theorem dlG_length (af bf : Fs) : (dlG af bf).length ≤ af.length := by
  unfold dlG; rw [List.length_map]; exact List.length_filter_le _ _
theorem dlG_take {af bf : Fs} {i : Nat} (hi : i < af.length) : dlG (af.take (i + 1)) bf = if (hasF af[i].1 bf).isSome then dlG (af.take i) bf else dlG (af.take i) bf ++ [(af[i].1, nulV)] := by
  rw [List.take_succ_eq_append_getElem hi]
  unfold dlG
  rw [List.filter_append, List.map_append]
  cases h : (hasF af[i].1 bf).isSome <;> simp [List.filter, h]
theorem dlStep_length {E : V → V → Bool} {f : V → V → Option V} {af : Fs} : ∀ (l : Fs) (o : Fs) (r : Fs), l.foldl (dlStep E f af) (some o) = some r → r.length ≤ o.length + l.length
  | [], o, r, h => by simp at h; subst h; simp
  | kv :: l, o, r, h => by
    rw [List.foldl_cons] at h
    cases h1 : dlStep E f af (some o) kv with
    | none => rw [h1, dlStep_none] at h; cases h
    | some o' =>
      rw [h1] at h
      have h2 := dlStep_length l o' r h
      have h3 : o'.length ≤ o.length + 1 := by
        unfold dlStep at h1
        simp only at h1
        split at h1
        · cases h1; omega
        · split at h1
          · cases h1
          · split at h1
            · cases h1
            · cases h1; simp
      simp only [List.length_cons]; omega
theorem okd_mono : ∀ (d k : Nat) (v : V), okd d v → d ≤ k → okd k v
  | 0, _, _, h, _ => h.elim
  | _ + 1, 0, _, _, h => by omega
  | d + 1, k + 1, v, h, hk => ⟨h.1, h.2.1, fun x hx => okd_mono d k x (h.2.2.1 x hx) (by omega), fun x hx => okd_mono d k x.2 (h.2.2.2 x hx) (by omega)⟩
theorem okd_nul : okd 1 nulV := (gd_nul 0 0).ok
theorem fine_nul : Fine nulV := (gd_nul 0 0).fine
theorem fine_map0 : Fine (mapV []) := by
  intro d
  cases d with
  | zero => trivial
  | succ d => exact ⟨by simp [mapV, V.sc, zk], by simp [mapV, V.sc, zk], by simp [mapV, V.bytes], by simp [mapV, V.list], by simp [mapV, V.fields], fun x hx => by simp [mapV, V.list] at hx, fun x hx => by simp [mapV, V.fields] at hx⟩
theorem deep_map0 (k : Nat) : deep (k + 1) (mapV []) := ⟨fun x hx => by simp [mapV, V.list] at hx, fun x hx => by simp [mapV, V.fields] at hx⟩
end Go.Dk
