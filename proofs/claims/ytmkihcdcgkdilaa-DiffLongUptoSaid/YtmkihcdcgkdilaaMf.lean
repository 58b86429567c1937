/-
  Pointers, keys, choices and conflicts in memory; what a merge leaves.
-/
import Derived.Test.YtmkihcdcgkdilaaMd
import Derived.Test.YtmkihcdcgkdilaaCf
set_option linter.unusedVariables false
set_option linter.unusedSimpArgs false
namespace Go.Dk
open Go Go.RowKit
theorem Cxr.tl {w0 w : World} {x : Nat × Obj} {L : List (Nat × Obj)} {R : List Row} (h : Cxr w0 w (x :: L) R) : Cxr w0 w L R := h.drop 1
theorem Fz.tl {w : World} {x : Nat × Obj} {L : List (Nat × Obj)} {R : List Row} : Fz w (x :: L) R w L R := Fz.dropL 1
theorem PtrO.formV {A : Nat → Prop} {w : World} {x : Value} {o : OV} (h : PtrO A w x o) : ∃ a b bs ls fs, x = .pointer a ∧ a.isSome = o.isSome ∧ (o.isSome = true → a = some ⟨b, 0, none⟩ ∧ A b ∧ RowAt w b 0 (vrow (o.getD nulV).sc bs ls fs) ∧ RepV A w (o.getD nulV) (vrow (o.getD nulV).sc bs ls fs)) := by
  cases o with
  | none => exact ⟨none, 0, .nilFunc, .nilFunc, .nilFunc, h, rfl, fun h => by cases h⟩
  | some v =>
    obtain ⟨b, r, e, h1, h2, h3⟩ := h
    obtain ⟨bs, ls, fs, rfl, _⟩ := h3.open
    exact ⟨_, b, bs, ls, fs, e, rfl, fun _ => ⟨rfl, h1, h2, h3⟩⟩
theorem set_same {L : List (Nat × Obj)} {i : Nat} {x : Nat × Obj} (h : L[i]? = some x) : L.set i x = L := by
  apply List.ext_getElem?
  intro j
  rw [List.getElem?_set]
  split
  · rename_i e; subst e
    split
    · exact h.symm
    · rename_i hl; rw [List.getElem?_eq_none (by omega)]
  · rfl
/-- a list of keys in memory -/
def KR (A : Nat → Prop) (w : World) (a : Option Addr) (ks : List ByteArray) : Prop := 0 < ks.length → ∃ g, a = some ⟨g, 0, none⟩ ∧ A g ∧ RowAt w g 0 (ks.map Value.string)
theorem KR.mono {A A' : Nat → Prop} {w w' : World} (hA : ∀ b, A b → A' b) (hk : Keeps A w w') {a : Option Addr} {ks : List ByteArray} (h : KR A w a ks) : KR A' w' a ks := fun h0 => by
  obtain ⟨g, e, h1, h2⟩ := h h0
  exact ⟨g, e, hA g h1, h2.keep (hk g h1)⟩
theorem KR.of {w0 w w' : World} {L : List (Nat × Obj)} {R : List Row} {ks : List ByteArray} {q : Value} (cx : Cxr w0 w L R) (hs : w.heap.size ≤ w'.heap.size) (row : w'.ownsRow w.heap.size 9 1 q ks.length (ks.map Value.string)) : ∃ a c, q = .slice a ks.length c ∧ KR (F w' L R) w' a ks := by
  obtain ⟨a, c, rfl, h⟩ := own_row row
  refine ⟨a, c, rfl, fun h0 => ?_⟩
  obtain ⟨g, rfl, hr⟩ := h h0
  exact ⟨g, rfl, F.fresh cx hs g (row.lt g rfl), hr⟩
theorem Fz.kr {w w' : World} {L L' : List (Nat × Obj)} {R R' : List Row} (hz : Fz w L R w' L' R') {a : Option Addr} {ks : List ByteArray} (h : KR (F w L R) w a ks) : KR (F w' L' R') w' a ks := h.mono hz.up hz.kp
theorem Fz.self {w w' : World} {L L' : List (Nat × Obj)} {R R' : List Row} (h : Fz w L R w' L' R') : Fz w' L' R' w' L' R' := Fz.refl _ _ _
def FN (fb g tb : Nat) : Value := .func (.func 89) #[] #[.pointer (some ⟨fb, 0, none⟩), .pointer (some ⟨g, 0, none⟩), .pointer (some ⟨tb, 0, none⟩)]
/-- the closure's own cell, and the choices -/
def TkR (A : Nat → Prop) (w : World) (fb g tb : Nat) (tk : List Bool) : Prop := A fb ∧ RowAt w fb 0 [FN fb g tb] ∧ A tb ∧ ∃ ta tc b o, RowAt w tb 0 [.slice ta tk.length tc] ∧ (0 < tk.length → ta = some ⟨b, o, none⟩ ∧ A b ∧ RowAt w b o (tk.map Value.bool))
theorem TkR.mono {A A' : Nat → Prop} {w w' : World} (hA : ∀ b, A b → A' b) (hk : Keeps A w w') {fb g tb : Nat} {tk : List Bool} (h : TkR A w fb g tb tk) : TkR A' w' fb g tb tk := by
  obtain ⟨h1, h2, h3, ta, tc, b, o, h4, h5⟩ := h
  exact ⟨hA _ h1, h2.keep (hk _ h1), hA _ h3, ta, tc, b, o, h4.keep (hk _ h3), fun h0 => ⟨(h5 h0).1, hA _ (h5 h0).2.1, (h5 h0).2.2.keep (hk _ (h5 h0).2.1)⟩⟩
theorem Fz.tkr {w w' : World} {L L' : List (Nat × Obj)} {R R' : List Row} (hz : Fz w L R w' L' R') {fb g tb : Nat} {tk : List Bool} (h : TkR (F w L R) w fb g tb tk) : TkR (F w' L' R') w' fb g tb tk := h.mono hz.up hz.kp
/-- .. that were made since -/
def FB (B : Nat) (w : World) (L : List (Nat × Obj)) (R : List Row) (b : Nat) : Prop := F w L R b ∧ B ≤ b
section
variable {w0 w w' : World} {L L' : List (Nat × Obj)} {R R' : List Row} {B : Nat}
theorem Fz.upB (hz : Fz w L R w' L' R') : ∀ b, FB B w L R b → FB B w' L' R' b := fun b h => ⟨hz.up b h.1, h.2⟩
theorem Fz.kpB (hz : Fz w L R w' L' R') : Keeps (FB B w L R) w w' := fun b h => hz.kp b h.1
theorem Fz.pthB (hz : Fz w L R w' L' R') {s : Value} {p : List Stp} (h : PthA (FB B w L R) w s p) : PthA (FB B w' L' R') w' s p := h.mono hz.upB hz.kpB
theorem Fz.repLB (hz : Fz w L R w' L' R') {s : Value} {l : List V} (h : RepL (FB B w L R) w s l) : RepL (FB B w' L' R') w' s l := h.mono hz.upB hz.kpB
theorem Fz.repB (hz : Fz w L R w' L' R') {v : V} {r : List Value} (h : RepV (FB B w L R) w v r) : RepV (FB B w' L' R') w' v r := RepV.mono hz.upB hz.kpB _ _ h
theorem Fz.cfsB (hz : Fz w L R w' L' R') {l : List Cf} {rs : List (List Value)} (h : Rws (cfA (FB B w L R) w) l rs) : Rws (cfA (FB B w' L' R') w') l rs := h.imp fun _ _ h => h.mono hz.upB hz.kpB
theorem FB.fresh (cx : Cxr w0 w L R) (hs : w.heap.size ≤ w'.heap.size) (hB : B ≤ w.heap.size) : ∀ b, Fr w w' b → FB B w' L R b := fun b h => ⟨F.fresh cx hs b h, Nat.le_trans hB h.1⟩
theorem PthA.frB {s : Value} {p : List Stp} (h : PthA (Fr w w') w' s p) (cx : Cxr w0 w L R) (hs : w.heap.size ≤ w'.heap.size) (hB : B ≤ w.heap.size) : PthA (FB B w' L R) w' s p := h.mono (FB.fresh cx hs hB) (fun _ _ => rfl)
theorem RepL.frB {s : Value} {l : List V} (h : RepL (Fr w w') w' s l) (cx : Cxr w0 w L R) (hs : w.heap.size ≤ w'.heap.size) (hB : B ≤ w.heap.size) : RepL (FB B w' L R) w' s l := h.mono (FB.fresh cx hs hB) (fun _ _ => rfl)
theorem RepV.frB {v : V} {r : List Value} (h : RepV (Fr w w') w' v r) (cx : Cxr w0 w L R) (hs : w.heap.size ≤ w'.heap.size) (hB : B ≤ w.heap.size) : RepV (FB B w' L R) w' v r := RepV.mono (FB.fresh cx hs hB) (fun _ _ => rfl) _ _ h
theorem cfs_low {B' : Nat} {l : List Cf} {rs : List (List Value)} (h : Rws (cfA (FB B w L R) w) l rs) (hB : B' ≤ B) : Rws (cfA (FB B' w L R) w) l rs := h.imp fun _ _ h => h.mono (fun b hb => ⟨hb.1, Nat.le_trans hB hb.2⟩) (fun _ _ => rfl)
end
/-- what a merge leaves -/
def MgP (wb w0 : World) (L : List (Nat × Obj)) (R : List Row) (i g : Nat) (v : Value) (n : Nat) (cs : List Value) (C : OV × List Cf) (x : Value) (w' : World) : Prop :=
  ∃ (v' : Value) (rs' : List (List Value)), Cxr wb w' (L.set i (g, .cells ([v'] : List Value).toArray 50)) (⟨94, 4, v', n + C.2.length, cs ++ rs'.flatten⟩ :: R) ∧
    Fz w0 L (⟨94, 4, v, n, cs⟩ :: R) w' (L.set i (g, .cells ([v'] : List Value).toArray 50)) (⟨94, 4, v', n + C.2.length, cs ++ rs'.flatten⟩ :: R) ∧
    PtrO (F w' (L.set i (g, .cells ([v'] : List Value).toArray 50)) (⟨94, 4, v', n + C.2.length, cs ++ rs'.flatten⟩ :: R)) w' x C.1 ∧
    Rws (cfA (FB w0.heap.size w' (L.set i (g, .cells ([v'] : List Value).toArray 50)) (⟨94, 4, v', n + C.2.length, cs ++ rs'.flatten⟩ :: R)) w') C.2 rs'
theorem MgP.none {wb w0 w' : World} {L : List (Nat × Obj)} {R : List Row} {i g : Nat} {v : Value} {n : Nat} {cs : List Value} {r : OV} {x : Value} (hi : L[i]? = some (g, .cells ([v] : List Value).toArray 50)) (cx : Cxr wb w' L (⟨94, 4, v, n, cs⟩ :: R)) (hz : Fz w0 L (⟨94, 4, v, n, cs⟩ :: R) w' L (⟨94, 4, v, n, cs⟩ :: R)) (hx : PtrO (F w' L (⟨94, 4, v, n, cs⟩ :: R)) w' x r) : MgP wb w0 L R i g v n cs (r, []) x w' := by
  refine ⟨v, [], ?_⟩
  rw [set_same hi]
  simp only [List.length_nil, Nat.add_zero, List.flatten_nil, List.append_nil]
  exact ⟨cx, hz, hx, trivial⟩
theorem MgP.cast {wb w0 w' : World} {L : List (Nat × Obj)} {R : List Row} {i g : Nat} {v : Value} {n : Nat} {cs : List Value} {C C' : OV × List Cf} {x : Value} (h : C = C') (hm : MgP wb w0 L R i g v n cs C' x w') : MgP wb w0 L R i g v n cs C x w' := by subst h; exact hm
theorem mg_1 {E : V → V → Bool} {tk : List Bool} {d i : Nat} {p : List Stp} {b o t : OV} (h : (eqO E o t || eqO E t b) = true) : mg E tk (d + 1) i p b o t = (o, []) := by unfold mg; rw [if_pos h]
theorem mg_2 {E : V → V → Bool} {tk : List Bool} {d i : Nat} {p : List Stp} {b o t : OV} (h : (eqO E o t || eqO E t b) = false) (h2 : eqO E o b = true) : mg E tk (d + 1) i p b o t = (t, []) := by unfold mg; rw [if_neg (by rw [h]; simp), if_pos h2]
theorem mg_3 {E : V → V → Bool} {tk : List Bool} {d i : Nat} {p : List Stp} {b o t : OV} (h : (eqO E o t || eqO E t b) = false) (h2 : eqO E o b = false) (h3 : mapsO b o t = true) : mg E tk (d + 1) i p b o t = (some (mapV ((keysO b o t).foldl (mgStep (mg E tk d) i p b o t) ([], [])).1), ((keysO b o t).foldl (mgStep (mg E tk d) i p b o t) ([], [])).2) := by
  conv => lhs; unfold mg
  rw [if_neg (by rw [h]; simp), if_neg (by rw [h2]; simp), if_pos h3]
theorem mg_4 {E : V → V → Bool} {tk : List Bool} {d i : Nat} {p : List Stp} {b o t : OV} (h : (eqO E o t || eqO E t b) = false) (h2 : eqO E o b = false) (h3 : mapsO b o t = false) : mg E tk (d + 1) i p b o t = (if tk.getD i false then t else o, [⟨p, b, o, t⟩]) := by
  conv => lhs; unfold mg
  rw [if_neg (by rw [h]; simp), if_neg (by rw [h2]; simp), if_neg (by rw [h3]; simp)]
theorem maps_b {b o t : OV} {a1 a2 a3 : Option Addr} (h1 : a1.isSome = b.isSome) (h2 : a2.isSome = o.isSome) (h3 : a3.isSome = t.isSome) :
    ((((a2.isSome && a3.isSome) && (o.getD nulV).sc.kind == 7) && (t.getD nulV).sc.kind == 7) && (a1.isNone || (b.getD nulV).sc.kind == 7)) = mapsO b o t := by
  have h4 : a1.isNone = b.isNone := by cases a1 <;> cases b <;> simp_all
  rw [h2, h3, h4]
  cases b <;> cases o <;> cases t <;> simp [mapsO, isMap]
theorem path1 {A : Nat → Prop} {w : World} {b : Nat} {s : Stp} (h : RowAt w b 0 (srow s)) (hA : A b) : PthA A w (.slice (some ⟨b, 0, none⟩) 1 1) [s] :=
  ⟨b, 0, .inr ⟨_, 1, rfl, Nat.le_refl _, fun _ => ⟨rfl, hA⟩⟩, fun i x hx => by
    cases i with
    | zero => obtain rfl : s = x := by simpa using hx
              simpa using h
    | succ i => simp at hx⟩
theorem PthA.sl {A : Nat → Prop} {w : World} {s : Value} {l : List Stp} (h : PthA A w s l) : ∃ a c, s = .slice a l.length c := by
  obtain ⟨b, o, hs, _⟩ := h
  obtain ⟨a, c, rfl, _⟩ := hs.form
  exact ⟨a, c, rfl⟩
theorem RepL.sl {A : Nat → Prop} {w : World} {s : Value} {l : List V} (h : RepL A w s l) : ∃ a c, s = .slice a l.length c := by
  obtain ⟨b, o, hs, _⟩ := h
  obtain ⟨a, c, rfl, _⟩ := hs.form
  exact ⟨a, c, rfl⟩
theorem RepL.fr {w0 w w' : World} {L : List (Nat × Obj)} {R : List Row} {s : Value} {l : List V} (h : RepL (Fr w w') w' s l) (cx : Cxr w0 w L R) (hs : w.heap.size ≤ w'.heap.size) : RepL (F w' L R) w' s l := h.mono (F.fresh cx hs) (fun _ _ => rfl)
theorem rowF_one {A : Nat → Prop} {w : World} {k : ByteArray} {u : V} {r : List Value} (h : RepV A w u r) : (Value.string k :: r).all (·.oneCell') = true := by rw [List.all_cons, h.one]; rfl
def LpS (wb w0 : World) (L : List (Nat × Obj)) (R : List Row) (i g b12 : Nat) (v : Value) (n : Nat) (cs : List Value) (ka : Option Addr) (ks : List ByteArray) (S : Fs × List Cf) (v1 ox : Value) (rs1 ors : List (List Value)) (w1 : World) : Prop :=
  Cxr wb w1 ((b12, .cells (vrow (zk 7) (.slice none 0 0) (.slice none 0 0) ox).toArray 33) :: L.set i (g, .cells ([v1] : List Value).toArray 50)) (⟨77, 14, ox, S.1.length, ors.flatten⟩ :: ⟨94, 4, v1, n + S.2.length, cs ++ rs1.flatten⟩ :: R) ∧ Fz w0 L (⟨94, 4, v, n, cs⟩ :: R) w1 ((b12, .cells (vrow (zk 7) (.slice none 0 0) (.slice none 0 0) ox).toArray 33) :: L.set i (g, .cells ([v1] : List Value).toArray 50)) (⟨77, 14, ox, S.1.length, ors.flatten⟩ :: ⟨94, 4, v1, n + S.2.length, cs ++ rs1.flatten⟩ :: R) ∧ KR (F w1 ((b12, .cells (vrow (zk 7) (.slice none 0 0) (.slice none 0 0) ox).toArray 33) :: L.set i (g, .cells ([v1] : List Value).toArray 50)) (⟨77, 14, ox, S.1.length, ors.flatten⟩ :: ⟨94, 4, v1, n + S.2.length, cs ++ rs1.flatten⟩ :: R)) w1 ka ks ∧ RowsF (F w1 ((b12, .cells (vrow (zk 7) (.slice none 0 0) (.slice none 0 0) ox).toArray 33) :: L.set i (g, .cells ([v1] : List Value).toArray 50)) (⟨77, 14, ox, S.1.length, ors.flatten⟩ :: ⟨94, 4, v1, n + S.2.length, cs ++ rs1.flatten⟩ :: R)) w1 S.1 ors ∧ Rws (cfA (FB w0.heap.size w1 ((b12, .cells (vrow (zk 7) (.slice none 0 0) (.slice none 0 0) ox).toArray 33) :: L.set i (g, .cells ([v1] : List Value).toArray 50)) (⟨77, 14, ox, S.1.length, ors.flatten⟩ :: ⟨94, 4, v1, n + S.2.length, cs ++ rs1.flatten⟩ :: R)) w1) S.2 rs1
theorem LpS.of {wb w0 : World} {L : List (Nat × Obj)} {R : List Row} {i g b12 : Nat} {v : Value} {n : Nat} {cs : List Value} {ka : Option Addr} {ks : List ByteArray} {S : Fs × List Cf} {v1 ox : Value} {rs1 ors : List (List Value)} {w1 : World} {k1 k2 : Nat} {X Y : List Value} (h1 : k1 = S.1.length) (h2 : X = ors.flatten) (h3 : k2 = n + S.2.length) (h4 : Y = cs ++ rs1.flatten)
    (cx : Cxr wb w1 ((b12, .cells (vrow (zk 7) (.slice none 0 0) (.slice none 0 0) ox).toArray 33) :: L.set i (g, .cells ([v1] : List Value).toArray 50)) (⟨77, 14, ox, k1, X⟩ :: ⟨94, 4, v1, k2, Y⟩ :: R)) (hz : Fz w0 L (⟨94, 4, v, n, cs⟩ :: R) w1 ((b12, .cells (vrow (zk 7) (.slice none 0 0) (.slice none 0 0) ox).toArray 33) :: L.set i (g, .cells ([v1] : List Value).toArray 50)) (⟨77, 14, ox, k1, X⟩ :: ⟨94, 4, v1, k2, Y⟩ :: R)) (hk : KR (F w1 ((b12, .cells (vrow (zk 7) (.slice none 0 0) (.slice none 0 0) ox).toArray 33) :: L.set i (g, .cells ([v1] : List Value).toArray 50)) (⟨77, 14, ox, k1, X⟩ :: ⟨94, 4, v1, k2, Y⟩ :: R)) w1 ka ks)
    (hr : RowsF (F w1 ((b12, .cells (vrow (zk 7) (.slice none 0 0) (.slice none 0 0) ox).toArray 33) :: L.set i (g, .cells ([v1] : List Value).toArray 50)) (⟨77, 14, ox, k1, X⟩ :: ⟨94, 4, v1, k2, Y⟩ :: R)) w1 S.1 ors) (hc : Rws (cfA (FB w0.heap.size w1 ((b12, .cells (vrow (zk 7) (.slice none 0 0) (.slice none 0 0) ox).toArray 33) :: L.set i (g, .cells ([v1] : List Value).toArray 50)) (⟨77, 14, ox, k1, X⟩ :: ⟨94, 4, v1, k2, Y⟩ :: R)) w1) S.2 rs1) : LpS wb w0 L R i g b12 v n cs ka ks S v1 ox rs1 ors w1 := by
  subst h1 h2 h3 h4; exact ⟨cx, hz, hk, hr, hc⟩
end Go.Dk
