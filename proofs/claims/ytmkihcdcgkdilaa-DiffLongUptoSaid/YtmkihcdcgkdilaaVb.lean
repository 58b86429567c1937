/-
  Values in memory: what survives, what a slice of the call's own holds; regions that only read and draw their order.
-/
import Derived.Test.YtmkihcdcgkdilaaFb
import Derived.Still
namespace Go.Dk
open Go Go.RowKit

/-- in world w, the cells l hold the value v -/
def Val (w : World) (v : V) (l : List Value) : Prop := RepV (fun b => b < w.heap.size) w v l
def Lst (w : World) (s : Value) (l : List V) : Prop := RepL (fun b => b < w.heap.size) w s l
def Fld (w : World) (s : Value) (l : List (ByteArray × V)) : Prop := RepF (fun b => b < w.heap.size) w s l
theorem keeps_of_below {w w' : World} (h : Below w.heap.size w w') : Keeps (fun b => b < w.heap.size) w w' := fun b hb => h.block b hb
theorem Val.up {w w' : World} (h : Below w.heap.size w w') {v : V} {l : List Value} (hv : Val w v l) : Val w' v l :=
  RepV.mono (fun _ hb => Nat.lt_of_lt_of_le hb h.size) (keeps_of_below h) v l hv
theorem Lst.up {w w' : World} (h : Below w.heap.size w w') {s : Value} {l : List V} (hv : Lst w s l) : Lst w' s l :=
  RepL.mono (fun _ hb => Nat.lt_of_lt_of_le hb h.size) (keeps_of_below h) hv
theorem Fld.up {w w' : World} (h : Below w.heap.size w w') {s : Value} {l : List (ByteArray × V)} (hv : Fld w s l) : Fld w' s l :=
  RepF.mono (fun _ hb => Nat.lt_of_lt_of_le hb h.size) (keeps_of_below h) hv
theorem RowAt.up {w w' : World} (h : Below w.heap.size w w') {b o : Nat} {l : List Value} (hr : RowAt w b o l) : RowAt w' b o l := by
  intro j x hj
  have hc := hr j x hj
  have hlt : b < w.heap.size := block_lt_of_cell hc
  rw [World.cell?_of_block (w := w) (a := ⟨b, o + j, none⟩) (h.block b hlt)]
  exact hc

/-- a slice value: what it shows of its length and where its elements lie -/
theorem SliceAt.form {A : Nat → Prop} {s : Value} {n b o : Nat} (h : SliceAt A s n b o) : ∃ a c, s = .slice a n c ∧ (0 < n → a = some ⟨b, o, none⟩) := by
  rcases h with ⟨rfl, rfl⟩ | ⟨ad, cap, rfl, _, h⟩
  · exact ⟨none, 0, rfl, fun h => absurd h (by omega)⟩
  · exact ⟨_, cap, rfl, fun hn => by rw [(h hn).1]⟩
/-- a list in memory: its slice value, and each element's row -/
theorem Lst.open {w : World} {s : Value} {l : List V} (h : Lst w s l) : ∃ a c b o, s = .slice a l.length c ∧ (0 < l.length → a = some ⟨b, o, none⟩) ∧ ∀ i v, l[i]? = some v → ∃ r, RowAt w b (o + i * 13) r ∧ Val w v r := by
  obtain ⟨b, o, hs, hr⟩ := h
  obtain ⟨a, c, rfl, ha⟩ := hs.form
  exact ⟨a, c, b, o, rfl, ha, fun i v hi => RepLs.get l o i v hr hi⟩
theorem Fld.open {w : World} {s : Value} {l : List (ByteArray × V)} (h : Fld w s l) : ∃ a c b o, s = .slice a l.length c ∧ (0 < l.length → a = some ⟨b, o, none⟩) ∧ ∀ i kv, l[i]? = some kv → ∃ r, RowAt w b (o + i * 14) (.string kv.1 :: r) ∧ Val w kv.2 r := by
  obtain ⟨b, o, hs, hr⟩ := h
  obtain ⟨a, c, rfl, ha⟩ := hs.form
  exact ⟨a, c, b, o, rfl, ha, fun i v hi => RepFs.get l o i v hr hi⟩
theorem Val.open {w : World} {v : V} {l : List Value} (h : Val w v l) : ∃ bs ls fs, l = vrow v.sc bs ls fs ∧ RepB (fun b => b < w.heap.size) w bs v.bytes ∧ Lst w ls v.list ∧ Fld w fs v.fields := RepV.open h
theorem Val.len {w : World} {v : V} {l : List Value} (h : Val w v l) : l.length = 13 := by
  obtain ⟨bs, ls, fs, rfl, _⟩ := h.open
  rfl
theorem RepB.form {A : Nat → Prop} {w : World} {s : Value} {l : List UInt8} (h : RepB A w s l) : ∃ a c b o, s = .slice a l.length c ∧ (0 < l.length → a = some ⟨b, o, none⟩) ∧ RowAt w b o (l.map byteVal) := by
  obtain ⟨b, o, hs, hr⟩ := h
  obtain ⟨a, c, rfl, ha⟩ := hs.form
  exact ⟨a, c, b, o, rfl, ha, hr⟩
theorem Val.oneCell {w : World} {v : V} {l : List Value} (h : Val w v l) : l.all (·.oneCell') = true := by
  obtain ⟨bs, ls, fs, rfl, h1, h2, h3⟩ := h.open
  obtain ⟨_, _, _, _, rfl, _⟩ := h1.form
  obtain ⟨_, _, _, _, rfl, _⟩ := h2.open
  obtain ⟨_, _, _, _, rfl, _⟩ := h3.open
  rfl

/-- rows of cells that hold values, in order -/
def RowsV (A : Nat → Prop) (w : World) : List V → List (List Value) → Prop
  | [], [] => True
  | v :: vs, r :: rs => RepV A w v r ∧ RowsV A w vs rs
  | _, _ => False
theorem RowsV.snoc {A : Nat → Prop} {w : World} {v : V} {r : List Value} : ∀ (vs : List V) (rs : List (List Value)), RowsV A w vs rs → RepV A w v r → RowsV A w (vs ++ [v]) (rs ++ [r])
  | [], [], _, h => ⟨h, trivial⟩
  | _ :: vs, _ :: rs, h, hv => ⟨h.1, RowsV.snoc vs rs h.2 hv⟩
  | [], _ :: _, h, _ => h.elim
  | _ :: _, [], h, _ => h.elim
theorem RowsV.reps {A A' : Nat → Prop} {w w' : World} {b : Nat} (hA : ∀ b, A b → A' b) (hk : Keeps A w w') : ∀ (vs : List V) (rs : List (List Value)) (o : Nat), RowsV A w vs rs → RowAt w' b o rs.flatten → RepLs A' w' b o vs ∧ rs.flatten.length = vs.length * 13
  | [], [], _, _, _ => ⟨trivial, rfl⟩
  | v :: vs, r :: rs, o, h, hr => by
    have hlen : r.length = 13 := by obtain ⟨bs, ls, fs, rfl, _⟩ := RepV.open h.1; rfl
    have h1 : RowAt w' b o r := fun j x hj => hr j x (by
      rw [List.flatten_cons, List.getElem?_append_left (List.getElem?_eq_some_iff.1 hj).1]; exact hj)
    have h2 : RowAt w' b (o + 13) rs.flatten := fun j x hj => by
      have := hr (13 + j) x (by rw [List.flatten_cons, List.getElem?_append_right (by omega), hlen, Nat.add_sub_cancel_left]; exact hj)
      rwa [← Nat.add_assoc] at this
    obtain ⟨h3, h4⟩ := RowsV.reps hA hk vs rs (o + 13) h.2 h2
    refine ⟨⟨⟨r, h1, RepV.mono hA hk v r h.1⟩, h3⟩, ?_⟩
    rw [List.flatten_cons, List.length_append, hlen, h4, List.length_cons]; omega
  | [], _ :: _, _, h, _ => h.elim
  | _ :: _, [], _, h, _ => h.elim

/-- a slice of the call's own that holds the rows of values reads as their list -/
theorem lst_of_row {B : Nat} {w0 w : World} {v : Value} {n : Nat} {e : Nat} {vs : List V} {rs : List (List Value)} {A : Nat → Prop} (row : w.ownsRow B e 13 v n rs.flatten) (hn : n = vs.length) (hr : RowsV A w0 vs rs) (hA : ∀ b, A b → b < w.heap.size) (hk : Keeps A w0 w) : Lst w v vs := by
  subst hn
  rcases row.2 with ⟨rfl, h0⟩ | ⟨g, cap, cur, rfl, hb, hg, hle, _, hcs, htake⟩
  · have : vs = [] := List.eq_nil_of_length_eq_zero h0
    subst this
    exact ⟨0, 0, .inl ⟨rfl, rfl⟩, trivial⟩
  · have hrow : RowAt w g 0 rs.flatten := by
      intro j x hj
      rw [cell_of_row w g (0 + j) cur _ _ hg]
      rw [← htake] at hj
      rw [List.getElem?_take] at hj
      split at hj
      · simpa using hj
      · cases hj
    refine ⟨g, 0, .inr ⟨_, cap, rfl, hle, fun _ => ⟨rfl, ?_⟩⟩, (RowsV.reps hA hk vs rs 0 hr hrow).1⟩
    exact (Array.getElem?_eq_some_iff.1 hg).1
theorem Cxr.lst {w0 w : World} {L : List (Nat × Obj)} {R : List Row} {v : Value} {n : Nat} {e : Nat} {vs : List V} {rs : List (List Value)} (cx : Cxr w0 w L (⟨e, 13, v, n, rs.flatten⟩ :: R)) (hn : n = vs.length) (hr : RowsV (fun b => b < w0.heap.size) w0 vs rs) : Lst w v vs :=
  lst_of_row (cx.rows _ (List.mem_cons_self ..)) hn hr (fun _ hb => Nat.lt_of_lt_of_le hb cx.ext.size) (fun b hb => cx.ext.block b hb)

theorem RepLs.rows {A : Nat → Prop} {w : World} {b : Nat} : ∀ (vs : List V) (o : Nat), RepLs A w b o vs → ∃ rs, RowsV A w vs rs ∧ RowAt w b o rs.flatten ∧ rs.flatten.length = vs.length * 13 ∧ rs.flatten.all (·.oneCell') = true
  | [], _, _ => ⟨[], trivial, fun j x hj => by simp at hj, rfl, rfl⟩
  | v :: vs, o, h => by
    simp only [RepLs] at h
    obtain ⟨⟨r, hr, hv⟩, hs⟩ := h
    obtain ⟨rs, h1, h2, h3, h4⟩ := RepLs.rows vs (o + 13) hs
    have hlen : r.length = 13 := by obtain ⟨bs, ls, fs, rfl, _⟩ := RepV.open hv; rfl
    have hone : r.all (·.oneCell') = true := by
      obtain ⟨bs, ls, fs, rfl, ⟨_, _, h5, _⟩, ⟨_, _, h6, _⟩, ⟨_, _, h7, _⟩⟩ := RepV.open hv
      obtain ⟨_, _, rfl, _⟩ := h5.form
      obtain ⟨_, _, rfl, _⟩ := h6.form
      obtain ⟨_, _, rfl, _⟩ := h7.form
      rfl
    refine ⟨r :: rs, ⟨hv, h1⟩, ?_, ?_, ?_⟩
    · intro j x hj
      rw [List.flatten_cons] at hj
      rcases Nat.lt_or_ge j r.length with hlt | hge
      · rw [List.getElem?_append_left hlt] at hj; exact hr j x hj
      · rw [List.getElem?_append_right hge] at hj
        have := h2 (j - r.length) x hj
        rwa [show o + 13 + (j - r.length) = o + j by omega] at this
    · rw [List.flatten_cons, List.length_append, hlen, h3, List.length_cons]; omega
    · rw [List.flatten_cons, List.all_append, hone, h4]; rfl
theorem RowsV.mono {A A' : Nat → Prop} {w w' : World} (hA : ∀ b, A b → A' b) (hk : Keeps A w w') : ∀ (vs : List V) (rs : List (List Value)), RowsV A w vs rs → RowsV A' w' vs rs
  | [], [], _ => trivial
  | _ :: vs, _ :: rs, h => ⟨RepV.mono hA hk _ _ h.1, RowsV.mono hA hk vs rs h.2⟩
  | [], _ :: _, h => h.elim
  | _ :: _, [], h => h.elim

section
variable {P : Program} {o : Oper} {w : World} {ρ : Operand → Value}
theorem equalIn_nil (d : Nat) {t e : TypeId} (a : Option Addr) (l c : Nat) (hu : P.underlying t = some (.slice e)) : (Op.equalIn (d + 1) t (.slice a l c) (.slice none 0 0)).run P w = .ok a.isNone w := by
  cases a <;> simp [Op.equalIn, run_underlying hu]
/-- a slice held against nil -/
theorem v_slNil {t t' e : TypeId} {x y : Operand} {a : Option Addr} {l c : Nat} (ho : o.op = .binOp .eql t x y t') (hx : ρ x = .slice a l c) (hy : ρ y = .slice none 0 0) (hu : P.underlying t = some (.slice e)) :
    (execOp ρ o).run P w = .ok (.value (.bool a.isNone)) w := by
  unfold execOp; rw [ho]
  simp only [hx, hy]
  have h1 : (Op.equal t (.slice a l c) (.slice none 0 0)).run P w = .ok a.isNone w := equalIn_nil 9999 a l c hu
  simp [eqGuard, binOp, h1]
end

/-! ### a region that only reads and draws its order -/
section
variable {P : Program} {ops : Array Oper} {Q : Act → Prop} {rest : List Oper} {o : Oper} {n : Nat} {f : Nat → Value} {w w0 : World} {L : List (Nat × Obj)} {R : List Row}
theorem t_val {v : Value} {d : Nat} (hg : o.guard = none) (hd : o.dst = some d) (hv : (execOp (ev n f) o).run P w = .ok (.value v) w) (h : wpStill P ops w Q rest (St n (upd f d v))) : wpStill P ops w Q (o :: rest) (St n f) := by
  unfold wpStill
  rw [if_pos (by simp [Region.wanted, hg])]
  unfold Oper.still
  rw [eval_St, hv, Oper.stillUpon_value, hd, put_St]
  exact h
theorem t_gval {v : Value} {j d dj : Nat} {pol c : Bool} (hg : o.guard = some (j, pol)) (hd : o.dst = some d) (hj : (ops[j]?).bind (·.dst) = some dj) (hc : WantB (ev n f (.tmp dj)) pol c)
    (hv : c = true → (execOp (ev n f) o).run P w = .ok (.value v) w) (h : wpStill P ops w Q rest (St n (upd f d (gv c v)))) : wpStill P ops w Q (o :: rest) (St n f) := by
  have hw := wanted_St (o := o) (ops := ops) hg hj hc
  unfold wpStill
  rw [hw]
  cases c with
  | true =>
    rw [if_pos rfl]
    unfold Oper.still
    rw [eval_St, hv rfl, Oper.stillUpon_value, hd, put_St]
    unfold gv at h
    exact h
  | false =>
    rw [if_neg (by simp), hd, put_St]
    unfold gv at h
    exact h
theorem t_nil (h : Q (St n f)) : wpStill P ops w Q [] (St n f) := h
theorem w_still {id : Nat} {Q : Exit → Act → World → Prop} {l : List Oper} (cx : Cxr w0 w L R) (hm : P.follows .mixedOrders = true) (hB : Region.lexB .any l.toArray = true)
    (h : ∀ w', Cxr w0 w' L R → Below w.heap.size w w' → wpStill P l.toArray w' (fun a' => Q .normal a' w') l (St n f)) : (Code.region id l.toArray true).wp P Q (St n f) w :=
  wp_region_still_lit hm hB (h w.drew cx.draw ⟨rfl, rfl, rfl, Nat.le_refl _, fun _ _ => rfl⟩)
end
end Go.Dk
namespace Go.Proofs.Ytmkihcdcgkdilaa
open Go Go.Dk Go.RowKit
theorem mixed : Try.prog.follows .mixedOrders = true := by kernel_rfl
end Go.Proofs.Ytmkihcdcgkdilaa
