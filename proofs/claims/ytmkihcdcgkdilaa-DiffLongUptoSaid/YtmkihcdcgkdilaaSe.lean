/-
  Fields, sorted by their keys; values in the form in which equal ones are the same.
-/
import Derived.Test.YtmkihcdcgkdilaaSd
set_option linter.unusedVariables false
set_option linter.unusedSimpArgs false
namespace Go.Dk
open Go Go.RowKit
abbrev Fs := List (ByteArray × V)
def kc (a b : ByteArray) : Int := cmpL a.data.toList b.data.toList
theorem ba_list {a b : ByteArray} (h : a.data.toList = b.data.toList) : a = b := by
  cases a; cases b; simp only [ByteArray.mk.injEq]; simp only at h; exact Array.toList_inj.1 h
theorem kc_zero {a b : ByteArray} (h : kc a b = 0) : a = b := ba_list (cmpL_zero _ _ h)
theorem kc_refl (a : ByteArray) : kc a a = 0 := cmpL_refl _
def kLt (x y : ByteArray × V) : Prop := kc x.1 y.1 < 0
theorem kLt.trans {x y z : ByteArray × V} (h : kLt x y) (h' : kLt y z) : kLt x z := cmpL_trans _ _ _ h h'
def insF (kv : ByteArray × V) : Fs → Fs
  | [] => [kv]
  | x :: r => if kc x.1 kv.1 ≤ 0 then x :: insF kv r else kv :: x :: r
def sortF (l : Fs) : Fs := l.foldl (fun o kv => insF kv o) []
theorem insF_perm (kv : ByteArray × V) : ∀ l : Fs, (insF kv l).Perm (kv :: l)
  | [] => List.Perm.refl _
  | x :: r => by
    unfold insF
    split
    · exact ((insF_perm kv r).cons x).trans (List.Perm.swap ..)
    · exact List.Perm.refl _
theorem fold_perm : ∀ (l o : Fs), (l.foldl (fun o kv => insF kv o) o).Perm (o ++ l)
  | [], o => by simp
  | kv :: l, o => by
    simp only [List.foldl_cons]
    refine (fold_perm l _).trans ?_
    refine ((insF_perm kv o).append_right l).trans ?_
    simpa using (List.perm_middle (a := kv) (l₁ := o) (l₂ := l)).symm
theorem sortF_perm (l : Fs) : (sortF l).Perm l := by have := fold_perm l []; rwa [List.nil_append] at this
theorem sortF_length (l : Fs) : (sortF l).length = l.length := (sortF_perm l).length_eq
theorem sortF_mem {l : Fs} {x : ByteArray × V} : x ∈ sortF l ↔ x ∈ l := (sortF_perm l).mem_iff
theorem insF_sorted {kv : ByteArray × V} : ∀ {l : Fs}, l.Pairwise kLt → (∀ x ∈ l, x.1 ≠ kv.1) → (insF kv l).Pairwise kLt
  | [], _, _ => List.pairwise_singleton _ _
  | x :: r, h, hn => by
    have hx := List.pairwise_cons.1 h
    have hne := hn x (by simp)
    unfold insF
    split
    · rename_i hle
      refine List.pairwise_cons.2 ⟨fun y hy => ?_, insF_sorted hx.2 fun y hy => hn y (List.mem_cons_of_mem _ hy)⟩
      rcases List.mem_cons.1 ((insF_perm kv r).mem_iff.1 hy) with rfl | hy
      · unfold kLt
        have : kc x.1 y.1 ≠ 0 := fun e => hne (kc_zero e)
        omega
      · exact hx.1 y hy
    · rename_i hle
      have hlt : kLt kv x := by
        unfold kLt kc at *
        rw [cmpL_swap]; omega
      refine List.pairwise_cons.2 ⟨fun y hy => ?_, h⟩
      rcases List.mem_cons.1 hy with rfl | hy
      · exact hlt
      · exact hlt.trans (hx.1 y hy)
theorem keys_ne {l : Fs} (h : (keysOf l).Nodup) : l.Pairwise fun x y => x.1 ≠ y.1 := by
  unfold keysOf at h
  exact List.pairwise_map.1 h
theorem fold_sorted : ∀ (l o : Fs), o.Pairwise kLt → (o ++ l).Pairwise (fun x y => x.1 ≠ y.1) → (l.foldl (fun o kv => insF kv o) o).Pairwise kLt
  | [], o, h, _ => h
  | kv :: l, o, h, hn => by
    simp only [List.foldl_cons]
    refine fold_sorted l _ (insF_sorted h fun x hx => (List.pairwise_append.1 hn).2.2 x hx kv (by simp)) ?_
    refine (List.Perm.pairwise_iff (fun h => Ne.symm h) ?_).1 hn
    refine List.Perm.trans ?_ ((insF_perm kv o).append_right l).symm
    simp
theorem sortF_sorted {l : Fs} (h : (keysOf l).Nodup) : (sortF l).Pairwise kLt := fold_sorted l [] List.Pairwise.nil (by simpa using keys_ne h)
/-- the sorted form is the only one -/
theorem sortF_eq {l l' : Fs} (h : (keysOf l).Nodup) (hp : l'.Perm l) (hs : l'.Pairwise kLt) : l' = sortF l := by
  refine List.Perm.eq_of_pairwise (le := kLt) (fun a b _ _ h1 h2 => ?_) hs (sortF_sorted h) (hp.trans (sortF_perm l).symm)
  exfalso
  unfold kLt kc at h1 h2
  rw [cmpL_swap] at h2
  omega
/-- sorting looks at the keys alone -/
theorem insF_map (g : V → V) (kv : ByteArray × V) : ∀ l : Fs, insF (kv.1, g kv.2) (l.map fun x => (x.1, g x.2)) = (insF kv l).map fun x => (x.1, g x.2)
  | [] => rfl
  | x :: r => by
    simp only [List.map_cons, insF]
    split
    · simp [insF_map g kv r]
    · simp
theorem sortF_map (g : V → V) (l : Fs) : sortF (l.map fun x => (x.1, g x.2)) = (sortF l).map fun x => (x.1, g x.2) := by
  unfold sortF
  have : ∀ (l o : Fs), (l.map fun x => (x.1, g x.2)).foldl (fun o kv => insF kv o) (o.map fun x => (x.1, g x.2)) = (l.foldl (fun o kv => insF kv o) o).map fun x => (x.1, g x.2) := by
    intro l
    induction l with
    | nil => intro o; rfl
    | cons kv l ih =>
      intro o
      simp only [List.map_cons, List.foldl_cons]
      rw [← ih, ← insF_map]
  exact this l []

/-! ### rows of fields -/
theorem RowsF.rw {A : Nat → Prop} {w : World} : ∀ (fs : Fs) (rs : Els), RowsF A w fs rs → ∀ r ∈ rs, Rw r
  | [], [], _, r, h => by cases h
  | _ :: fs, _ :: rs, ⟨⟨l, e, hv⟩, hr⟩, r, h => by
    rcases List.mem_cons.1 h with rfl | h
    · exact ⟨_, l, e, hv.len, hv.one⟩
    · exact RowsF.rw fs rs hr r h
  | [], _ :: _, h, _, _ => h.elim
  | _ :: _, [], h, _, _ => h.elim
theorem RowsF.keys {A : Nat → Prop} {w : World} : ∀ (fs : Fs) (rs : Els), RowsF A w fs rs → rs.map rk = fs.map fun kv => kv.1.data.toList
  | [], [], _ => rfl
  | _ :: fs, _ :: rs, ⟨⟨l, e, hv⟩, hr⟩ => by
    subst e
    simp [rk, RowsF.keys fs rs hr]
  | [], _ :: _, h => h.elim
  | _ :: _, [], h => h.elim
theorem RowsF.df {A : Nat → Prop} {w : World} {fs : Fs} {rs : Els} (h : RowsF A w fs rs) (hn : (keysOf fs).Nodup) : Df rs := by
  have h1 : (rs.map rk).Pairwise (· ≠ ·) := by
    rw [RowsF.keys fs rs h, List.pairwise_map]
    exact (keys_ne hn).imp fun hne e => hne (ba_list e)
  exact List.pairwise_map.1 h1
theorem RowsF.sorted {A : Nat → Prop} {w : World} {fs : Fs} {rs : Els} (h : RowsF A w fs rs) (hs : rs.Pairwise Lt) : fs.Pairwise kLt := by
  have h1 : (rs.map rk).Pairwise (fun a b => cmpL a b < 0) := List.pairwise_map.2 hs
  rw [RowsF.keys fs rs h, List.pairwise_map] at h1
  exact h1
theorem RowsF.permute {A : Nat → Prop} {w : World} {rs rs' : Els} (hp : rs.Perm rs') : ∀ fs : Fs, RowsF A w fs rs → ∃ fs' : Fs, fs'.Perm fs ∧ RowsF A w fs' rs' := by
  induction hp with
  | nil => intro fs h; exact ⟨fs, List.Perm.refl _, h⟩
  | cons x _ ih =>
    intro fs h
    cases fs with
    | nil => exact h.elim
    | cons kv fs =>
      obtain ⟨fs', h1, h2⟩ := ih fs h.2
      exact ⟨kv :: fs', h1.cons kv, h.1, h2⟩
  | swap x y l =>
    intro fs h
    match fs, h with
    | a :: b :: fs, h => exact ⟨b :: a :: fs, List.Perm.swap .., h.2.1, h.1, h.2.2⟩
    | [_], h => exact h.2.elim
  | trans _ _ ih1 ih2 =>
    intro fs h
    obtain ⟨f1, h1, h2⟩ := ih1 fs h
    obtain ⟨f2, h3, h4⟩ := ih2 f1 h2
    exact ⟨f2, h3.trans h1, h4⟩
theorem RowsF.sort {A : Nat → Prop} {w : World} {fs : Fs} {rs Z : Els} (h : RowsF A w fs rs) (hn : (keysOf fs).Nodup) (hp : Z.Perm rs) (hs : Z.Pairwise Lt) : RowsF A w (sortF fs) Z := by
  obtain ⟨f1, h1, h2⟩ := RowsF.permute hp.symm fs h
  rw [← sortF_eq hn h1 (h2.sorted hs)]
  exact h2

/-! ### the form in which equal values are the same -/
mutual
def canon : V → V
  | .mk s b l f => .mk s b (canonL l) (sortF (canonF f))
def canonL : List V → List V
  | [] => []
  | v :: l => canon v :: canonL l
def canonF : List (ByteArray × V) → List (ByteArray × V)
  | [] => []
  | kv :: l => canonP kv :: canonF l
def canonP : ByteArray × V → ByteArray × V
  | (k, v) => (k, canon v)
end
theorem canonL_map : ∀ l : List V, canonL l = l.map canon
  | [] => rfl
  | v :: l => by simp [canonL, canonL_map l]
theorem canonF_map : ∀ l : Fs, canonF l = l.map fun kv => (kv.1, canon kv.2)
  | [] => rfl
  | (k, v) :: l => by simp [canonF, canonP, canonF_map l]
theorem canon_eq (v : V) : canon v = .mk v.sc v.bytes (v.list.map canon) ((sortF v.fields).map fun kv => (kv.1, canon kv.2)) := by
  cases v with
  | mk s b l f =>
    simp only [canon, V.sc, V.bytes, V.list, V.fields]
    rw [canonL_map, canonF_map, sortF_map]
/-- when two are the same in that form -/
theorem canon_iff (v u : V) : canon v = canon u ↔ v.sc = u.sc ∧ v.bytes = u.bytes ∧ (v.list.map canon = u.list.map canon) ∧ ((sortF v.fields).map fun kv => (kv.1, canon kv.2)) = (sortF u.fields).map fun kv => (kv.1, canon kv.2) := by
  rw [canon_eq v, canon_eq u, V.mk.injEq]
end Go.Dk
