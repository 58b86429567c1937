/-
  Plain facts on values: bounded, shallow, counted, in order; no program in sight.
-/
import Derived.Test.YtmkihcdcgkdilaaVa
set_option linter.unusedVariables false
namespace Go.Dk

/-- every text, list and map in it has at most N letters or elements, down to a depth -/
def szd (N : Nat) : Nat → V → Prop
  | 0, _ => True
  | d + 1, v => v.sc.text.size ≤ N ∧ v.sc.dig.size ≤ N ∧ v.bytes.length ≤ N ∧ v.list.length ≤ N ∧ v.fields.length ≤ N ∧ (∀ x ∈ v.list, szd N d x) ∧ (∀ kv ∈ v.fields, kv.1.size ≤ N ∧ szd N d kv.2)
/-- .. at every depth, with N = 2^20 -/
def Fine (v : V) : Prop := ∀ d, szd 1048576 d v
theorem Fine.self {v : V} (h : Fine v) : v.sc.text.size ≤ 1048576 ∧ v.sc.dig.size ≤ 1048576 ∧ v.bytes.length ≤ 1048576 ∧ v.list.length ≤ 1048576 ∧ v.fields.length ≤ 1048576 := by
  have := h 1
  exact ⟨this.1, this.2.1, this.2.2.1, this.2.2.2.1, this.2.2.2.2.1⟩
theorem Fine.elem {v x : V} (h : Fine v) (hx : x ∈ v.list) : Fine x := fun d => (h (d + 1)).2.2.2.2.2.1 x hx
theorem Fine.field {v : V} {kv : ByteArray × V} (h : Fine v) (hx : kv ∈ v.fields) : kv.1.size ≤ 1048576 ∧ Fine kv.2 := ⟨((h 1).2.2.2.2.2.2 kv hx).1, fun d => ((h (d + 1)).2.2.2.2.2.2 kv hx).2⟩
def FineL (l : List V) : Prop := l.length ≤ 1048576 ∧ ∀ x ∈ l, Fine x
def FineF (l : List (ByteArray × V)) : Prop := l.length ≤ 1048576 ∧ ∀ kv ∈ l, kv.1.size ≤ 1048576 ∧ Fine kv.2
theorem Fine.l {v : V} (h : Fine v) : FineL v.list := ⟨h.self.2.2.2.1, fun _ hx => h.elem hx⟩
theorem Fine.f {v : V} (h : Fine v) : FineF v.fields := ⟨h.self.2.2.2.2, fun _ hx => h.field hx⟩

/-- at most d deep -/
def deep : Nat → V → Prop
  | 0, _ => False
  | d + 1, v => (∀ x ∈ v.list, deep d x) ∧ ∀ kv ∈ v.fields, deep d kv.2

/-- how many values there are, down to a depth -/
def tsz : Nat → V → Nat
  | 0, _ => 1
  | d + 1, v => 1 + ((v.list.map (tsz d)).sum + (v.fields.map fun kv => tsz d kv.2).sum)
theorem tsz_pos (d : Nat) (v : V) : 1 ≤ tsz d v := by cases d <;> simp [tsz]
theorem tsz_deep : ∀ (d k : Nat) (v : V), deep d v → d ≤ k → tsz k v = tsz d v
  | 0, _, _, h, _ => h.elim
  | d + 1, 0, _, _, h => by omega
  | d + 1, k + 1, v, h, hk => by
    simp only [tsz]
    have h1 : v.list.map (tsz k) = v.list.map (tsz d) := List.map_congr_left fun x hx => tsz_deep d k x (h.1 x hx) (by omega)
    have h2 : (v.fields.map fun kv => tsz k kv.2) = v.fields.map fun kv => tsz d kv.2 := List.map_congr_left fun x hx => tsz_deep d k x.2 (h.2 x hx) (by omega)
    rw [h1, h2]
theorem deep_mono : ∀ (d k : Nat) (v : V), deep d v → d ≤ k → deep k v
  | 0, _, _, h, _ => h.elim
  | _ + 1, 0, _, _, h => by omega
  | d + 1, k + 1, v, h, hk => ⟨fun x hx => deep_mono d k x (h.1 x hx) (by omega), fun x hx => deep_mono d k x.2 (h.2 x hx) (by omega)⟩

/-- what a value's kind does not have is zero -/
structure Own (s : Sc) (nb nl nf : Nat) : Prop where
  lo : 0 ≤ s.kind
  hi : s.kind ≤ 7
  b : s.kind ≠ 1 → s.b = false
  num : s.kind ≠ 2 → s.neg = false ∧ s.dig = ⟨#[]⟩ ∧ s.exp = 0
  time : s.kind ≠ 3 → s.tk = 0 ∧ s.td = 0 ∧ s.tn = 0 ∧ s.tz = 0
  text : s.kind ≠ 4 → s.text = ⟨#[]⟩
  bytes : s.kind ≠ 5 → nb = 0
  list : s.kind ≠ 6 → nl = 0
  fields : s.kind ≠ 7 → nf = 0
def Own1 (v : V) : Prop := Own v.sc v.bytes.length v.list.length v.fields.length
def keysOf (l : List (ByteArray × V)) : List ByteArray := l.map (·.1)

/-- a value that is in order, down to a depth -/
def okd : Nat → V → Prop
  | 0, _ => False
  | d + 1, v => Own1 v ∧ (keysOf v.fields).Nodup ∧ (∀ x ∈ v.list, okd d x) ∧ ∀ kv ∈ v.fields, okd d kv.2

/-- the values directly in a value, as the reference has them -/
def kidsR (v : V) : List V := if v.sc.kind = 7 then v.fields.map (·.2) else v.list
/-- .. and as the program has them -/
def kidsP (v : V) : List V := v.list ++ v.fields.map (·.2)
theorem kids_own {v : V} (h : Own1 v) : kidsR v = kidsP v := by
  unfold kidsR kidsP
  by_cases h7 : v.sc.kind = 7
  · have : v.list = [] := List.eq_nil_of_length_eq_zero (h.list (by omega))
    simp [h7, this]
  · have : v.fields = [] := List.eq_nil_of_length_eq_zero (h.fields h7)
    simp [h7, this]
theorem tsz_kids (d : Nat) (v : V) : tsz (d + 1) v = 1 + ((kidsP v).map (tsz d)).sum := by
  simp [tsz, kidsP, Function.comp_def]
theorem okd_kids {d : Nat} {v : V} (h : okd (d + 1) v) : ∀ x ∈ kidsP v, okd d x := by
  intro x hx
  rcases List.mem_append.1 hx with hx | hx
  · exact h.2.2.1 x hx
  · obtain ⟨kv, hkv, rfl⟩ := List.mem_map.1 hx; exact h.2.2.2 kv hkv
theorem deep_of_okd : ∀ (d : Nat) (v : V), okd d v → deep d v
  | 0, _, h => h
  | d + 1, v, h => ⟨fun x hx => deep_of_okd d x (h.2.2.1 x hx), fun x hx => deep_of_okd d x.2 (h.2.2.2 x hx)⟩
theorem deep_kids {d : Nat} {v : V} (h : deep (d + 1) v) : ∀ x ∈ kidsP v, deep d x := by
  intro x hx
  rcases List.mem_append.1 hx with hx | hx
  · exact h.1 x hx
  · obtain ⟨kv, hkv, rfl⟩ := List.mem_map.1 hx; exact h.2 kv hkv
theorem Fine.kids {v : V} (h : Fine v) : ∀ x ∈ kidsP v, Fine x := by
  intro x hx
  rcases List.mem_append.1 hx with hx | hx
  · exact h.elem hx
  · obtain ⟨kv, hkv, rfl⟩ := List.mem_map.1 hx; exact (h.field hkv).2

theorem sum_append (l r : List Nat) : (l ++ r).sum = l.sum + r.sum := by
  induction l with
  | nil => simp
  | cons a l ih => simp only [List.cons_append, List.sum_cons, ih]; omega
theorem sum_take_succ (l : List Nat) (i : Nat) (h : i < l.length) : (l.take (i + 1)).sum = (l.take i).sum + l[i] := by
  rw [List.take_succ_eq_append_getElem h, sum_append]; simp
theorem sum_take_le (l : List Nat) (i : Nat) : (l.take i).sum ≤ l.sum := by
  have := sum_append (l.take i) (l.drop i)
  rw [List.take_append_drop] at this
  omega
/-- one element more: what 'room' has left -/
theorem room_step {l : List V} {i e : Nat} {a b c : Int} (hi : i < l.length) (h : 0 ≤ a → (∀ x ∈ l.take i, deep e x) ∧ a + ((l.take i).map (tsz e)).sum = c) (ha : 0 ≤ a) (h2 : 0 ≤ b → deep e l[i] ∧ b + tsz e l[i] = a) :
    0 ≤ b → (∀ x ∈ l.take (i + 1), deep e x) ∧ b + ((l.take (i + 1)).map (tsz e)).sum = c := by
  intro hb
  obtain ⟨h3, h4⟩ := h ha
  obtain ⟨h5, h6⟩ := h2 hb
  have e1 : ((l.take (i + 1)).map (tsz e)).sum = ((l.take i).map (tsz e)).sum + tsz e l[i] := by
    rw [List.take_succ_eq_append_getElem hi, List.map_append, sum_append]; simp
  refine ⟨?_, by rw [e1]; omega⟩
  intro x hx
  rw [List.take_succ_eq_append_getElem hi] at hx
  rcases List.mem_append.1 hx with hx | hx
  · exact h3 x hx
  · simp at hx; subst hx; exact h5
theorem room_end {d : Nat} {v : V} {a b : Int} {c : Int} (h1 : 0 ≤ a → (∀ x ∈ v.list.take v.list.length, deep d x) ∧ a + ((v.list.take v.list.length).map (tsz d)).sum = c - 1) (ha : 0 ≤ a)
    (h2 : 0 ≤ b → (∀ x ∈ (v.fields.map (·.2)).take v.fields.length, deep d x) ∧ b + (((v.fields.map (·.2)).take v.fields.length).map (tsz d)).sum = a) (hb : 0 ≤ b) : deep (d + 1) v ∧ b + tsz (d + 1) v = c := by
  obtain ⟨h3, h4⟩ := h1 ha
  obtain ⟨h5, h6⟩ := h2 hb
  rw [List.take_length] at h3 h4
  rw [List.take_of_length_le (by simp)] at h5 h6
  refine ⟨⟨h3, fun kv hkv => h5 _ (List.mem_map.2 ⟨kv, hkv, rfl⟩)⟩, ?_⟩
  simp only [tsz, List.map_map, Function.comp_def] at h6 ⊢
  omega
theorem nodup_snoc {α : Type} {l : List α} {x : α} (h : l.Nodup) (hx : x ∉ l) : (l ++ [x]).Nodup := by
  rw [List.nodup_append]
  refine ⟨h, by simp, ?_⟩
  intro a ha b hb
  simp at hb
  subst hb
  intro e
  subst e
  exact hx ha
end Go.Dk
