/-
  Good values; an overlay of good values is good.
-/
import Derived.Test.YtmkihcdcgkdilaaVg
set_option linter.unusedVariables false
set_option linter.unusedSimpArgs false
namespace Go.Dk
open Go Go.RowKit

/-- no map in it has more than m fields, down to a depth -/
def nw (m : Nat) : Nat → V → Prop
  | 0, _ => True
  | d + 1, v => v.fields.length ≤ m ∧ ∀ kv ∈ v.fields, nw m d kv.2
def Nw (m : Nat) (v : V) : Prop := ∀ d, nw m d v
theorem nw_mono {m m' : Nat} (h : m ≤ m') : ∀ d v, nw m d v → nw m' d v
  | 0, _, _ => trivial
  | d + 1, v, hv => ⟨Nat.le_trans hv.1 h, fun kv hk => nw_mono h d kv.2 (hv.2 kv hk)⟩
structure Gd (e m : Nat) (v : V) : Prop where
  ok : okd e v
  fine : Fine v
  nw : Nw m v
theorem Gd.mono {e m m' : Nat} {v : V} (h : Gd e m v) (hm : m ≤ m') : Gd e m' v := ⟨h.ok, h.fine, fun d => nw_mono hm d v (h.nw d)⟩
/-- a good field -/
def GdF (e m : Nat) (kv : ByteArray × V) : Prop := kv.1.size ≤ 1048576 ∧ Gd e m kv.2
theorem Gd.field {e m : Nat} {v : V} (h : Gd (e + 1) m v) {kv : ByteArray × V} (hk : kv ∈ v.fields) : GdF e m kv :=
  ⟨(h.fine.field hk).1, h.ok.2.2.2 kv hk, (h.fine.field hk).2, fun d => (h.nw (d + 1)).2 kv hk⟩
theorem own7 {v : V} (h : Own1 v) (h7 : v.sc.kind = 7) : v = mapV v.fields := by
  obtain ⟨s, b, l, f⟩ := v
  simp only [Own1, V.sc, V.bytes, V.list, V.fields] at h h7 ⊢
  have e1 := h.b (by omega)
  obtain ⟨e2, e3, e4⟩ := h.num (by omega)
  obtain ⟨e5, e6, e7, e8⟩ := h.time (by omega)
  have e9 := h.text (by omega)
  have eb : b = [] := List.eq_nil_of_length_eq_zero (h.bytes (by omega))
  have el : l = [] := List.eq_nil_of_length_eq_zero (h.list (by omega))
  subst eb el
  obtain ⟨_, _, _, _, _, _, _, _, _, _⟩ := s
  simp only at h7 e1 e2 e3 e4 e5 e6 e7 e8 e9
  subst h7 e1 e2 e3 e4 e5 e6 e7 e8 e9
  rfl
theorem own_mapV (l : List (ByteArray × V)) : Own1 (mapV l) := by
  refine ⟨by show (0 : Int) ≤ 7; decide, by show (7 : Int) ≤ 7; decide, ?_, ?_, ?_, ?_, ?_, ?_, ?_⟩ <;> simp [mapV, zk, V.sc, V.bytes, V.list, V.fields] <;> rfl
theorem okd_mapV {e : Nat} {l : List (ByteArray × V)} (hn : (keysOf l).Nodup) (h : ∀ kv ∈ l, okd e kv.2) : okd (e + 1) (mapV l) :=
  ⟨own_mapV l, hn, fun x hx => by simp [mapV, V.list] at hx, h⟩
theorem gd_mapV {e m : Nat} {l : List (ByteArray × V)} (hn : (keysOf l).Nodup) (h : ∀ kv ∈ l, GdF e m kv) (hl : l.length ≤ m) (hm : m ≤ 1048576) : Gd (e + 1) m (mapV l) := by
  refine ⟨okd_mapV hn fun kv hk => (h kv hk).2.ok, fun d => ?_, fun d => ?_⟩
  · cases d with
    | zero => trivial
    | succ d =>
      refine ⟨by simp [mapV, V.sc, zk], by simp [mapV, V.sc, zk], by simp [mapV, V.bytes], by simp [mapV, V.list], by simp only [mapV, V.fields]; omega, fun x hx => by simp [mapV, V.list] at hx, fun kv hk => ⟨(h kv hk).1, (h kv hk).2.fine d⟩⟩
  · cases d with
    | zero => trivial
    | succ d => exact ⟨hl, fun kv hk => (h kv hk).2.nw d⟩
theorem gd_nul (e m : Nat) : Gd (e + 1) m nulV := by
  refine ⟨⟨?_, by simp [nulV, V.fields, keysOf], fun x hx => by simp [nulV, V.list] at hx, fun x hx => by simp [nulV, V.fields] at hx⟩, fun d => ?_, fun d => ?_⟩
  · refine ⟨by decide, by decide, ?_, ?_, ?_, ?_, ?_, ?_, ?_⟩ <;> simp [nulV, zk, V.sc, V.bytes, V.list, V.fields] <;> rfl
  · cases d with
    | zero => trivial
    | succ d => exact ⟨by simp [nulV, V.sc, zk], by simp [nulV, V.sc, zk], by simp [nulV, V.bytes], by simp [nulV, V.list], by simp [nulV, V.fields], fun x hx => by simp [nulV, V.list] at hx, fun x hx => by simp [nulV, V.fields] at hx⟩
  · cases d with
    | zero => trivial
    | succ d => exact ⟨by simp [nulV, V.fields], fun x hx => by simp [nulV, V.fields] at hx⟩

theorem hasF_mem {k : ByteArray} {l : List (ByteArray × V)} {x : V} (h : hasF k l = some x) : (k, x) ∈ l := by
  unfold hasF at h
  cases hf : l.find? fun kv => decide (kv.1 = k) with
  | none => rw [hf] at h; cases h
  | some kv =>
    rw [hf] at h
    simp only [Option.map_some, Option.some.injEq] at h
    have h1 := List.mem_of_find?_eq_some hf
    have h2 := List.find?_some hf
    simp at h2
    obtain ⟨a, b⟩ := kv
    simp only at h h2
    subst h h2
    exact h1
theorem hasF_isSome {k : ByteArray} {l : List (ByteArray × V)} : (hasF k l).isSome = true ↔ k ∈ keysOf l := by
  unfold hasF keysOf
  rw [Option.isSome_map, List.find?_isSome]
  simp only [decide_eq_true_eq, List.mem_map]
theorem keys_setF {k : ByteArray} {x : V} {l : List (ByteArray × V)} : keysOf (setF k x l) = keysOf l := by
  unfold keysOf setF
  rw [List.map_map]
  apply List.map_congr_left
  intro kv _
  simp only [Function.comp]
  split <;> rfl
theorem mem_setF {k : ByteArray} {x : V} {l : List (ByteArray × V)} {kv : ByteArray × V} (h : kv ∈ setF k x l) : kv ∈ l ∨ kv = (k, x) := by
  obtain ⟨a, ha, rfl⟩ := List.mem_map.1 h
  split
  · rename_i he; right; rw [he]
  · left; exact ha
theorem mem_putF {k : ByteArray} {x : V} {l : List (ByteArray × V)} {kv : ByteArray × V} (h : kv ∈ putF k x l) : kv ∈ l ∨ kv = (k, x) := by
  unfold putF at h
  split at h
  · exact mem_setF h
  · rcases List.mem_append.1 h with h | h
    · exact .inl h
    · right; simpa using h
theorem len_putF (k : ByteArray) (x : V) (l : List (ByteArray × V)) : (putF k x l).length ≤ l.length + 1 := by
  unfold putF setF
  split <;> simp
theorem nodup_putF {k : ByteArray} {x : V} {l : List (ByteArray × V)} (h : (keysOf l).Nodup) : (keysOf (putF k x l)).Nodup := by
  unfold putF
  split
  · rw [keys_setF]; exact h
  · rename_i hn
    have hk : k ∉ keysOf l := fun hk => hn (hasF_isSome.2 hk)
    unfold keysOf at *
    rw [List.map_append, List.map_cons, List.map_nil]
    exact List.nodup_append.2 ⟨h, by simp, fun a ha b hb => by simp at hb; subst hb; intro e; subst e; exact hk ha⟩
theorem nodup_dropF {k : ByteArray} {l : List (ByteArray × V)} (h : (keysOf l).Nodup) : (keysOf (dropF k l)).Nodup := by
  unfold keysOf dropF at *
  exact (List.filter_sublist.map _).nodup h
theorem hasF_drop {k j : ByteArray} {l : List (ByteArray × V)} (h : k ≠ j) : hasF k (dropF j l) = hasF k l := by
  induction l with
  | nil => rfl
  | cons kv l ih =>
    unfold hasF dropF at *
    by_cases h1 : kv.1 = j
    · have h2 : kv.1 ≠ k := fun e => h (e.symm.trans h1)
      simp only [List.filter_cons, h1, decide_true, Bool.not_true, List.find?_cons]
      have : decide (j = k) = false := by simp; exact fun e => h e.symm
      simp only [this]
      simpa using ih
    · by_cases h2 : kv.1 = k
      · simp [List.filter_cons, h1, List.find?_cons, h2, h]
      · simpa [List.filter_cons, h1, List.find?_cons, h2] using ih
theorem hasF_put {k j : ByteArray} {x : V} {l : List (ByteArray × V)} (h : k ≠ j) : hasF k (putF j x l) = hasF k l := by
  unfold putF
  split
  · rename_i hs
    clear hs
    induction l with
    | nil => rfl
    | cons kv l ih =>
      unfold hasF setF at *
      by_cases h1 : kv.1 = j
      · have h2 : j ≠ k := fun e => h e.symm
        simpa [List.find?_cons, h1, h2] using ih
      · by_cases h2 : kv.1 = k
        · rw [List.map_cons, if_neg h1, List.find?_cons_of_pos (by simp [h2]), List.find?_cons_of_pos (by simp [h2])]
        · simpa [List.find?_cons, h1, h2] using ih
  · unfold hasF
    rw [List.find?_append]
    have : decide (j = k) = false := by simp; exact fun e => h e.symm
    simp [List.find?_cons, this]
theorem hasF_step {d : Nat} {k : ByteArray} {l : List (ByteArray × V)} {kv : ByteArray × V} (h : k ≠ kv.1) : hasF k (stepF d l kv) = hasF k l := by
  unfold stepF
  split
  · exact hasF_drop h
  · exact hasF_put h

/-- what holds of the fields of an overlay on its way: those of the first i fields are laid -/
structure Lay (e mb mo : Nat) (l0 fs : List (ByteArray × V)) (i : Nat) (l : List (ByteArray × V)) : Prop where
  len : l.length ≤ l0.length + i
  good : ∀ kv ∈ l, GdF e (mb + mo) kv
  nd : (keysOf l).Nodup
  rest : ∀ j, i ≤ j → ∀ kv, fs[j]? = some kv → hasF kv.1 l = hasF kv.1 l0

theorem Lay.start {e mb mo : Nat} {l0 fs : List (ByteArray × V)} (h : ∀ kv ∈ l0, GdF e mb kv) (hn : (keysOf l0).Nodup) : Lay e mb mo l0 fs 0 l0 :=
  ⟨by omega, fun kv hk => ⟨(h kv hk).1, (h kv hk).2.mono (by omega)⟩, hn, fun _ _ _ _ => rfl⟩
/-- what the next field is laid on -/
theorem Lay.base {e mb mo i : Nat} {l0 fs l : List (ByteArray × V)} (h : Lay (e + 1) mb mo l0 fs i l) (h0 : ∀ kv ∈ l0, GdF (e + 1) mb kv) {kv : ByteArray × V} (hi : fs[i]? = some kv) : Gd (e + 1) mb ((hasF kv.1 l).getD nulV) := by
  rw [h.rest i (Nat.le_refl _) kv hi]
  cases hh : hasF kv.1 l0 with
  | none => exact gd_nul e mb
  | some u => exact (h0 _ (hasF_mem hh)).2
theorem Lay.next {e mb mo i d : Nat} {l0 fs l : List (ByteArray × V)} (h : Lay e mb mo l0 fs i l) {kv : ByteArray × V} (hi : fs[i]? = some kv) (hk : kv.1.size ≤ 1048576) (hn : (keysOf fs).Nodup) (hg : Gd e (mb + mo) (ovl d ((hasF kv.1 l).getD nulV) kv.2)) : Lay e mb mo l0 fs (i + 1) (stepF d l kv) := by
  have hne : ∀ j, i + 1 ≤ j → ∀ kv', fs[j]? = some kv' → kv'.1 ≠ kv.1 := by
    intro j hj kv' hj' e
    have h1 : (keysOf fs)[i]? = some kv.1 := by unfold keysOf; rw [List.getElem?_map, hi]; rfl
    have h2 : (keysOf fs)[j]? = some kv.1 := by unfold keysOf; rw [List.getElem?_map, hj', ← e]; rfl
    have := (List.getElem?_inj (List.getElem?_eq_some_iff.1 h1).1 hn).1 (h1.trans h2.symm)
    omega
  refine ⟨?_, ?_, ?_, fun j hj kv' hj' => by rw [hasF_step (hne j hj kv' hj'), h.rest j (by omega) kv' hj']⟩
  · have := h.len
    unfold stepF
    split
    · have := List.length_filter_le (fun kv' => !decide (kv'.1 = kv.1)) l
      unfold dropF; omega
    · have := len_putF kv.1 (ovl d ((hasF kv.1 l).getD nulV) kv.2) l
      omega
  · intro x hx
    unfold stepF at hx
    split at hx
    · exact h.good x (List.mem_filter.1 hx).1
    · rcases mem_putF hx with hx | rfl
      · exact h.good x hx
      · exact ⟨hk, hg⟩
  · unfold stepF
    split
    · exact nodup_dropF h.nd
    · exact nodup_putF h.nd
theorem take_fold {d i : Nat} {l0 fs : List (ByteArray × V)} (hi : i < fs.length) : (fs.take (i + 1)).foldl (stepF d) l0 = stepF d ((fs.take i).foldl (stepF d) l0) fs[i] := by
  rw [List.take_succ_eq_append_getElem hi, List.foldl_append]; rfl
theorem gd_ovl : ∀ (d e mb mo : Nat) (b v : V), Gd e mb b → Gd e mo v → e ≤ d → mb + mo ≤ 1048576 → Gd e (mb + mo) (ovl d b v) ∧ ∀ i, i ≤ v.fields.length → ∀ d', d = d' + 1 → v.sc.kind = 7 → ∃ e', e = e' + 1 ∧ Lay e' mb mo (if b.sc.kind = 7 then b.fields else []) v.fields i ((v.fields.take i).foldl (stepF d') (if b.sc.kind = 7 then b.fields else [])) := by
  intro d
  induction d with
  | zero => intro e mb mo b v hb hv he; obtain rfl : e = 0 := by omega
            exact hb.ok.elim
  | succ d ih =>
    intro e mb mo b v hb hv he hm
    cases e with
    | zero => exact hb.ok.elim
    | succ e =>
    have h0 : ∀ kv ∈ (if b.sc.kind = 7 then b.fields else []), GdF e mb kv := by
      intro kv hk
      split at hk
      · exact hb.field hk
      · cases hk
    have hn0 : (keysOf (if b.sc.kind = 7 then b.fields else [])).Nodup := by
      split
      · exact hb.ok.2.1
      · exact List.nodup_nil
    have key : ∀ i, i ≤ v.fields.length → Lay e mb mo (if b.sc.kind = 7 then b.fields else []) v.fields i ((v.fields.take i).foldl (stepF d) (if b.sc.kind = 7 then b.fields else [])) := by
      intro i
      induction i with
      | zero => intro _; exact Lay.start h0 hn0
      | succ i ihi =>
        intro hi
        have hL := ihi (by omega)
        have hg := hv.field (List.getElem_mem (show i < v.fields.length by omega))
        rw [take_fold (by omega)]
        refine hL.next (List.getElem?_eq_getElem (by omega)) hg.1 hv.ok.2.1 ?_
        cases e with
        | zero => exact hg.2.ok.elim
        | succ e => exact (ih (e + 1) mb mo _ _ (hL.base h0 (List.getElem?_eq_getElem (by omega))) hg.2 (by omega) hm).1
    refine ⟨?_, fun i hi d' hd h7 => ?_⟩
    · by_cases h7 : v.sc.kind = 7
      · rw [ovl_map h7]
        have hL := key _ (Nat.le_refl _)
        rw [List.take_of_length_le (Nat.le_refl _)] at hL
        refine gd_mapV hL.nd hL.good ?_ (by omega)
        have h1 := hL.len
        have h2 := (hv.nw 1).1
        have h3 : (if b.sc.kind = 7 then b.fields else []).length ≤ mb := by
          split
          · exact (hb.nw 1).1
          · simp
        omega
      · rw [ovl_else h7]
        exact hv.mono (by omega)
    · obtain rfl : d = d' := by omega
      exact ⟨e, rfl, key i hi⟩
end Go.Dk
