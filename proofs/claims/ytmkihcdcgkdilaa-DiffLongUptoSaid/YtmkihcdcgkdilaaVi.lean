/-
  Rows of fields: one row, one row turned; the pointer to a value that may be nil.
-/
import Derived.Test.YtmkihcdcgkdilaaVh
set_option linter.unusedVariables false
set_option linter.unusedSimpArgs false
namespace Go.Dk
open Go Go.RowKit

theorem RowsF.at {A : Nat → Prop} {w : World} : ∀ (fs : List (ByteArray × V)) (rs : List (List Value)) (j : Nat) (kv : ByteArray × V), RowsF A w fs rs → fs[j]? = some kv → ∃ l, rs[j]? = some (.string kv.1 :: l) ∧ RepV A w kv.2 l
  | [], [], j, kv, _, h => by simp at h
  | x :: fs, r :: rs, 0, kv, ⟨⟨l, e, hv⟩, _⟩, h => by
    simp at h; subst h; subst e
    exact ⟨l, rfl, hv⟩
  | x :: fs, r :: rs, j + 1, kv, ⟨_, hr⟩, h => by
    obtain ⟨l, h1, h2⟩ := RowsF.at fs rs j kv hr (by simpa using h)
    exact ⟨l, by simpa using h1, h2⟩
  | [], _ :: _, _, _, h, _ => h.elim
  | _ :: _, [], _, _, h, _ => h.elim
theorem RowsF.set {A : Nat → Prop} {w : World} {u : V} {l : List Value} (hu : RepV A w u l) : ∀ (fs : List (ByteArray × V)) (rs : List (List Value)) (j : Nat) (kv : ByteArray × V), RowsF A w fs rs → fs[j]? = some kv → RowsF A w (fs.set j (kv.1, u)) (rs.set j (.string kv.1 :: l))
  | [], [], j, kv, _, h => by simp at h
  | x :: fs, r :: rs, 0, kv, ⟨_, hr⟩, h => by
    simp at h; subst h
    exact ⟨⟨l, rfl, hu⟩, hr⟩
  | x :: fs, r :: rs, j + 1, kv, ⟨h0, hr⟩, h => by
    exact ⟨h0, RowsF.set hu fs rs j kv hr (by simpa using h)⟩
  | [], _ :: _, _, _, h, _ => h.elim
  | _ :: _, [], _, _, h, _ => h.elim
theorem RowsF.lens {A : Nat → Prop} {w : World} : ∀ (fs : List (ByteArray × V)) (rs : List (List Value)), RowsF A w fs rs → ∀ r ∈ rs, r.length = 14
  | [], [], _, r, h => by cases h
  | _ :: fs, _ :: rs, ⟨⟨l, e, hv⟩, hr⟩, r, h => by
    rcases List.mem_cons.1 h with rfl | h
    · rw [e, List.length_cons, hv.len]
    · exact RowsF.lens fs rs hr r h
  | [], _ :: _, h, _, _ => h.elim
  | _ :: _, [], h, _, _ => h.elim
theorem flat_at : ∀ (rs : List (List Value)) (j : Nat) (r : List Value), (∀ r ∈ rs, r.length = 14) → rs[j]? = some r → (rs.flatten.drop (j * 14)).take r.length = r
  | [], j, r, _, h => by simp at h
  | x :: rs, 0, r, hl, h => by
    simp at h; subst h
    simp
  | x :: rs, j + 1, r, hl, h => by
    have h1 : x.length = 14 := hl x (by simp)
    rw [List.flatten_cons, show (j + 1) * 14 = x.length + j * 14 by omega, List.drop_append, List.drop_eq_nil_of_le (by omega), List.nil_append, show x.length + j * 14 - x.length = j * 14 by omega]
    exact flat_at rs j r (fun r hr => hl r (List.mem_cons_of_mem _ hr)) (by simpa using h)
theorem flat_set : ∀ (rs : List (List Value)) (j : Nat) (s : Value) (r l : List Value), (∀ r ∈ rs, r.length = 14) → rs[j]? = some (s :: r) → l.length = 13 → rs.flatten.take (j * 14 + 1) ++ l ++ rs.flatten.drop (j * 14 + 1 + l.length) = (rs.set j (s :: l)).flatten
  | [], j, s, r, l, _, h, _ => by simp at h
  | x :: rs, 0, s, r, l, hl, h, h13 => by
    simp at h; subst h
    have h1 : r.length = 13 := by have := hl (s :: r) (by simp); simpa using this
    rw [List.flatten_cons]
    simp [h13]
    rw [← h1, List.drop_left]
  | x :: rs, j + 1, s, r, l, hl, h, h13 => by
    have h1 : x.length = 14 := hl x (by simp)
    have ih := flat_set rs j s r l (fun r hr => hl r (List.mem_cons_of_mem _ hr)) (by simpa using h) h13
    rw [List.set_cons_succ, List.flatten_cons, List.flatten_cons, ← ih, show (j + 1) * 14 + 1 = x.length + (j * 14 + 1) by omega, show x.length + (j * 14 + 1) + l.length = x.length + (j * 14 + 1 + l.length) by omega]
    rw [List.take_length_add_append, List.drop_length_add_append]
    simp [List.append_assoc]
theorem RowAt.flat {A : Nat → Prop} {w : World} {fs : List (ByteArray × V)} {rs : List (List Value)} {g j : Nat} {r : List Value} (h : RowAt w g 0 rs.flatten) (hr : ∀ r ∈ rs, r.length = 14) (hj : rs[j]? = some r) : RowAt w g (0 + j * 14) r :=
  h.sub (j * 14) (flat_at rs j r hr hj)

theorem setF_step {k : ByteArray} {u : V} {l : List (ByteArray × V)} {j : Nat} (hj : j < l.length) : setF k u (l.take (j + 1)) ++ l.drop (j + 1) = if l[j].1 = k then (setF k u (l.take j) ++ l.drop j).set j (l[j].1, u) else setF k u (l.take j) ++ l.drop j := by
  have e1 : l.drop j = l[j] :: l.drop (j + 1) := List.drop_eq_getElem_cons hj
  have hlen : (setF k u (l.take j)).length = j := by unfold setF; simp; omega
  rw [List.take_succ_eq_append_getElem hj]
  unfold setF at *
  rw [List.map_append, List.map_cons, List.map_nil]
  split
  · rename_i he
    rw [List.set_append, if_neg (by omega), hlen, Nat.sub_self, e1, List.set_cons_zero]
    simp
  · conv => rhs; rw [e1]
    simp
theorem setF_get {k : ByteArray} {u : V} {l : List (ByteArray × V)} {j : Nat} (hj : j < l.length) : (setF k u (l.take j) ++ l.drop j)[j]? = some l[j] := by
  have hlen : (setF k u (l.take j)).length = j := by unfold setF; simp; omega
  rw [List.getElem?_append_right (by omega), hlen, Nat.sub_self, List.drop_eq_getElem_cons hj]
  rfl
theorem hasF_snoc {k : ByteArray} {l : List (ByteArray × V)} {j : Nat} (hj : j < l.length) : (hasF k (l.take (j + 1))).isSome = ((hasF k (l.take j)).isSome || decide (l[j].1 = k)) := by
  rw [List.take_succ_eq_append_getElem hj]
  unfold hasF
  rw [List.find?_append]
  cases h : (l.take j).find? fun kv => decide (kv.1 = k) with
  | some x => simp
  | none => by_cases h2 : l[j].1 = k <;> simp [List.find?_cons, h2]

/-- a pointer to a value, or nil for none -/
def Ptr (w : World) (x : Value) (v : V) : Prop := ∃ a b0 bs ls fs, x = .pointer a ∧ (a.isSome = true → a = some ⟨b0, 0, none⟩ ∧ RowAt w b0 0 (vrow v.sc bs ls fs) ∧ Val w v (vrow v.sc bs ls fs)) ∧ (a.isSome = false → v = nulV)
theorem Ptr.up {w w' : World} {x : Value} {v : V} (h : Ptr w x v) (hb : Below w.heap.size w w') : Ptr w' x v := by
  obtain ⟨a, b0, bs, ls, fs, e, h1, h2⟩ := h
  exact ⟨a, b0, bs, ls, fs, e, fun ha => ⟨(h1 ha).1, (h1 ha).2.1.up hb, (h1 ha).2.2.up hb⟩, h2⟩
theorem Ptr.nil {w : World} : Ptr w (.pointer none) nulV := ⟨none, 0, .nilFunc, .nilFunc, .nilFunc, rfl, (fun h => by cases h), fun _ => rfl⟩
theorem Ptr.of {w : World} {b : Nat} {r : List Value} {v : V} (hr : RowAt w b 0 r) (hv : Val w v r) : Ptr w (.pointer (some ⟨b, 0, none⟩)) v := by
  obtain ⟨bs, ls, fs, rfl, _⟩ := hv.open
  exact ⟨_, b, bs, ls, fs, rfl, fun _ => ⟨rfl, hr, hv⟩, fun h => by cases h⟩
theorem repB_any {A : Nat → Prop} {w : World} {s : Value} (h : RepB A w s []) : ∀ A' w', RepB A' w' s [] := by
  intro A' w'
  obtain ⟨b, o, hs, _⟩ := h
  refine ⟨b, o, ?_, fun j x hj => by simp at hj⟩
  rcases hs with h | ⟨ad, cap, e, h1, _⟩
  · exact .inl h
  · exact .inr ⟨ad, cap, e, h1, fun h => by simp at h⟩
theorem repL_any {A : Nat → Prop} {w : World} {s : Value} (h : RepL A w s []) : ∀ A' w', RepL A' w' s [] := by
  intro A' w'
  obtain ⟨b, o, hs, _⟩ := h
  refine ⟨b, o, ?_, trivial⟩
  rcases hs with h | ⟨ad, cap, e, h1, _⟩
  · exact .inl h
  · exact .inr ⟨ad, cap, e, h1, fun h => by simp at h⟩
/-- the contents of a slice that is given up, and itself, beside a new one -/
theorem Dn.swap {w0 w w' : World} {L : List (Nat × Obj)} {R : List Row} {r : Row} {ids : List Nat} {v' : Value} (cx : Cxr w0 w L (r :: R)) (hi : ∀ i ∈ ids, i ∈ L.map (·.1)) (hs : w.heap.size ≤ w'.heap.size) (hn : ∀ q, v'.ownBlock = some q → w.heap.size ≤ q) : ∀ b, Dn w0 w ids r.v b ∨ r.v.ownBlock = some b → Dn w0 w' ids v' b := by
  rintro b (h | h)
  · exact ⟨⟨h.1.1, Nat.lt_of_lt_of_le h.1.2 hs⟩, h.2.1, fun e => by have := hn b e; have := h.1.2; omega⟩
  · have := Made_lt cx.head b h
    exact ⟨⟨this.1, Nat.lt_of_lt_of_le this.2 hs⟩, fun hm => cx.off r (List.mem_cons_self ..) b h (hi b hm), fun e => by have := hn b e; omega⟩
theorem flat_snoc {rs : List (List Value)} {z l : List Value} {n k : Nat} (h : rs.flatten.length = n) (hz : z.length = l.length) (hk : k = n) : (rs.flatten ++ z).take k ++ l ++ (rs.flatten ++ z).drop (k + l.length) = (rs ++ [l]).flatten := by
  subst hk h
  rw [List.take_left, ← hz, List.drop_length_add_append, List.drop_length, List.append_nil]
  simp
theorem RepB.one {A : Nat → Prop} {w : World} {s : Value} {l : List UInt8} (h : RepB A w s l) : s.oneCell' = true := by
  obtain ⟨_, _, _, _, rfl, _⟩ := h.form
  rfl
theorem repB_nil {A : Nat → Prop} {w : World} : RepB A w (.slice none 0 0) [] := ⟨0, 0, .inl ⟨rfl, rfl⟩, fun j x hj => by simp at hj⟩
theorem repL_nil {A : Nat → Prop} {w : World} : RepL A w (.slice none 0 0) [] := ⟨0, 0, .inl ⟨rfl, rfl⟩, trivial⟩
theorem Cxr.ownRow {w0 w : World} {L : List (Nat × Obj)} {R : List Row} {e k n : Nat} {v : Value} {xs : List Value} (cx : Cxr w0 w L (⟨e, k, v, n, xs⟩ :: R)) : ∃ a c, v = .slice a n c ∧ (0 < n → ∃ g, a = some ⟨g, 0, none⟩ ∧ RowAt w g 0 xs) := own_row cx.head
theorem setF_none {k : ByteArray} {u : V} {l : List (ByteArray × V)} (h : (hasF k l).isSome = false) : setF k u l = l := by
  have hn : k ∉ keysOf l := fun hm => by rw [hasF_isSome.2 hm] at h; cases h
  unfold setF
  conv => rhs; rw [← List.map_id l]
  apply List.map_congr_left
  intro kv hkv
  rw [if_neg]
  · rfl
  · intro e
    exact hn (List.mem_map.2 ⟨kv, hkv, e⟩)
end Go.Dk
