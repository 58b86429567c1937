/-
  What the law DiffBack rests on: several texts in one.
-/
import Derived.Test.YtmkihcdcgkdilaaPH
section
set_option linter.unusedVariables false
set_option linter.unusedSimpArgs false
namespace Go.Dk
open Go Go.RowKit
def kids (v : V) : List V := v.list ++ v.fields.map (·.2)
def Nar : Nat → V → V → Prop
  | 0, _, _ => True
  | d + 1, a, b => a.list.length ≤ 6000 ∧ b.list.length ≤ 6000 ∧ a.list.length * b.list.length ≤ 40000 ∧ ∀ x ∈ kids a, ∀ y ∈ kids b, Nar d x y
theorem Nar.field {d : Nat} {a b : V} (h : Nar (d + 1) a b) {kv : ByteArray × V} (hk : kv ∈ a.fields) {k : ByteArray} {u : V} (hu : hasF k b.fields = some u) : Nar d kv.2 u :=
  h.2.2.2 _ (List.mem_append_right _ (List.mem_map.2 ⟨kv, hk, rfl⟩)) _ (List.mem_append_right _ (List.mem_map.2 ⟨_, hasF_mem hu, rfl⟩))
theorem Nar.elem {d : Nat} {a b : V} (h : Nar (d + 1) a b) {x y : V} (hx : x ∈ a.list) (hy : y ∈ b.list) : Nar d x y :=
  h.2.2.2 _ (List.mem_append_left _ hx) _ (List.mem_append_left _ hy)
def LpC (wb w0 : World) (L : List (Nat × Obj)) (R0 : List Row) (L2 : List (Nat × Obj)) (R : List Row) (n : Nat) (cs : List Value) (S : List Ch) (v : Value) (rs : List (List Value)) (w1 : World) : Prop :=
  Cxr wb w1 L2 (⟨35, 29, v, n + S.length, cs ++ rs.flatten⟩ :: R) ∧ Fz w0 L R0 w1 L2 (⟨35, 29, v, n + S.length, cs ++ rs.flatten⟩ :: R) ∧ Rws (chA (F w1 L2 (⟨35, 29, v, n + S.length, cs ++ rs.flatten⟩ :: R)) w1) S rs
theorem LpC.of {wb w0 : World} {L : List (Nat × Obj)} {R0 : List Row} {L2 : List (Nat × Obj)} {R : List Row} {n : Nat} {cs : List Value} {S : List Ch} {v : Value} {rs : List (List Value)} {w1 : World} {k : Nat} {X : List Value}
    (h1 : k = n + S.length) (h2 : X = cs ++ rs.flatten) (cx : Cxr wb w1 L2 (⟨35, 29, v, k, X⟩ :: R)) (hz : Fz w0 L R0 w1 L2 (⟨35, 29, v, k, X⟩ :: R)) (hc : Rws (chA (F w1 L2 (⟨35, 29, v, k, X⟩ :: R)) w1) S rs) : LpC wb w0 L R0 L2 R n cs S v rs w1 := by
  subst h1 h2; exact ⟨cx, hz, hc⟩
theorem LpC.cast {wb w0 : World} {L : List (Nat × Obj)} {R0 : List Row} {L2 : List (Nat × Obj)} {R : List Row} {n : Nat} {cs : List Value} {S S' : List Ch} {v : Value} {rs : List (List Value)} {w1 : World} (h : LpC wb w0 L R0 L2 R n cs S v rs w1) (e : S = S') : LpC wb w0 L R0 L2 R n cs S' v rs w1 := e ▸ h
theorem LpC.drop {wb w0 : World} {L : List (Nat × Obj)} {R0 : List Row} {L2 : List (Nat × Obj)} {R : List Row} {n : Nat} {cs : List Value} {S : List Ch} {v : Value} {rs : List (List Value)} {w1 : World} (h : LpC wb w0 L R0 L2 R n cs S v rs w1) (k : Nat) : LpC wb w0 L R0 (L2.drop k) R n cs S v rs w1 :=
  ⟨h.1.drop k, h.2.1.trans (Fz.dropL k), (Fz.dropL k).chs h.2.2⟩
def BtR (wb w0 : World) (L : List (Nat × Obj)) (R : List Row) (B : List Ch) (x : Value) (w' : World) : Prop := ∃ rs, LpC wb w0 L R L R 0 [] B x rs w'
theorem BtR.cast {wb w0 : World} {L : List (Nat × Obj)} {R : List Row} {B B' : List Ch} {x : Value} {w' : World} (e : B = B') (h : BtR wb w0 L R B' x w') : BtR wb w0 L R B x w' := by subst e; exact h
def BtP (wb w0 : World) (L : List (Nat × Obj)) (R : List Row) (v : Value) (n : Nat) (cs : List Value) (B : List Ch) (x : Value) (w' : World) : Prop := ∃ S rs, Sho n B S ∧ LpC wb w0 L (⟨35, 29, v, n, cs⟩ :: R) L R n cs S x rs w'
theorem BtP.cast {wb w0 : World} {L : List (Nat × Obj)} {R : List Row} {v : Value} {n : Nat} {cs : List Value} {B B' : List Ch} {x : Value} {w' : World} (e : B = B') (h : BtP wb w0 L R v n cs B' x w') : BtP wb w0 L R v n cs B x w' := by subst e; exact h
theorem LpC.zero {wb w0 w1 : World} {L : List (Nat × Obj)} {R0 : List Row} {L2 : List (Nat × Obj)} {R : List Row} {n : Nat} {cs : List Value} {v : Value} (cx : Cxr wb w1 L2 (⟨35, 29, v, n, cs⟩ :: R)) (hz : Fz w0 L R0 w1 L2 (⟨35, 29, v, n, cs⟩ :: R)) : LpC wb w0 L R0 L2 R n cs [] v [] w1 :=
  LpC.of (k := n) (X := cs) rfl (by simp) cx hz trivial
theorem fld_at {w w' : World} {L L' : List (Nat × Obj)} {R R' : List Row} (hz : Fz w L R w' L' R') {b o : Nat} {l : Fs} (hr : RepFs (F w L R) w b o l) {i : Nat} (hi : i < l.length) (hb : F w L R b) :
    ∃ r, RowAt w' b (o + i * 14) (.string l[i].1 :: r) ∧ RepV (F w' L' R') w' l[i].2 r := by
  obtain ⟨r, h1, h2⟩ := RepFs.get l o i l[i] hr (List.getElem?_eq_getElem hi)
  exact ⟨r, hz.row h1 hb, hz.rep h2⟩
theorem lst_at {w w' : World} {L L' : List (Nat × Obj)} {R R' : List Row} (hz : Fz w L R w' L' R') {b o : Nat} {l : List V} (hr : RepLs (F w L R) w b o l) {i : Nat} (hi : i < l.length) (hb : F w L R b) :
    ∃ r, RowAt w' b (o + i * 13) r ∧ RepV (F w' L' R') w' l[i] r := by
  obtain ⟨r, h1, h2⟩ := RepLs.get l o i l[i] hr (List.getElem?_eq_getElem hi)
  exact ⟨r, hz.row h1 hb, hz.rep h2⟩
theorem getD_at {l : List V} {i : Nat} (hi : i < l.length) : l.getD i nulV = l[i] := by rw [List.getD, List.getElem?_eq_getElem hi]; rfl
end Go.Dk
namespace Go.Dk
open Go Go.RowKit
/-! ### steps of what stays, read off the context that a step leaves -/
section
variable {wb w w' w'' : World} {L : List (Nat × Obj)} {R : List Row} {b : Nat} {o o' : Obj}
theorem Fz.newC (cx : Cxr wb w' ((b, o) :: L) R) (hb : w.heap.size = b) (hw : Below w.heap.size w w') : Fz w L R w' ((b, o) :: L) R := Fz.new hb hw
theorem Fz.newSet (cx : Cxr wb w'' ((b, o') :: L) R) (hb : w.heap.size = b) (hw : Below w.heap.size w w') (hg : w'.grownBy w'' (some b)) : Fz w L R w'' ((b, o') :: L) R :=
  (Fz.new (o := .map #[] 0) hb hw).trans (Fz.set (i := 0) (o' := o') rfl hg)
theorem Fz.belC (cx : Cxr wb w' L R) (hw : Below w.heap.size w w') : Fz w L R w' L R := Fz.below hw
theorem Fz.appC {e k n n' : Nat} {v v' : Value} {xs xs' : List Value} (cx : Cxr wb w' L (⟨e, k, v', n', xs'⟩ :: R)) (hg : w.grownBy w' v.ownBlock) (hn : ∀ q, v'.ownBlock = some q → v.ownBlock = some q ∨ w.heap.size ≤ q) : Fz w L (⟨e, k, v, n, xs⟩ :: R) w' L (⟨e, k, v', n', xs'⟩ :: R) :=
  Fz.app (r := ⟨e, k, v, n, xs⟩) (r' := ⟨e, k, v', n', xs'⟩) hg hn
theorem Fz.tlR {r : Row} : Fz w L (r :: R) w L R := Fz.dropR 1
theorem Cxr.tlR {r : Row} (h : Cxr wb w L (r :: R)) : Cxr wb w L R := h.dropR 1
theorem Fz.ch1 {L' : List (Nat × Obj)} {R' : List Row} (hz : Fz w L R w' L' R') {c : Ch} {r : List Value} (h : chA (F w L R) w c r) : chA (F w' L' R') w' c r := h.mono hz.up hz.kp
theorem Cxr.row2 {r : Row} {e k n : Nat} {v : Value} {xs : List Value} (h : Cxr wb w L (r :: ⟨e, k, v, n, xs⟩ :: R)) : w.ownsRow wb.heap.size e k v n xs := h.rows ⟨e, k, v, n, xs⟩ (List.mem_cons_of_mem _ (List.mem_cons_self ..))
end
end Go.Dk
namespace Go.Dk
open Go Go.RowKit
theorem Fz.toRow {w : World} {L : List (Nat × Obj)} {R : List Row} {b e k n c : Nat} {o : Obj} {cs : List Value} : Fz w ((b, o) :: L) R w L (⟨e, k, .slice (some ⟨b, 0, none⟩) n c, n, cs⟩ :: R) :=
  ⟨fun q h => ⟨h.1, fun hm => h.2.1 (by rw [List.map_cons]; exact List.mem_cons_of_mem _ hm), fun r hr => by
    rcases List.mem_cons.1 hr with rfl | hr
    · intro e
      have e' : some b = some q := e
      have e2 : b = q := Option.some.inj e'
      exact h.2.1 (by rw [List.map_cons, e2]; exact List.mem_cons_self ..)
    · exact h.2.2 r hr⟩, fun _ _ => rfl, Nat.le_refl _⟩
end Go.Dk
namespace Go.Dk
open Go Go.RowKit
def RepO (A : Nat → Prop) (w : World) (o : Option V) (l : List Value) : Prop := ∀ u, o = some u → RepV A w u l
theorem Fz.repO {w w' : World} {L L' : List (Nat × Obj)} {R R' : List Row} (hz : Fz w L R w' L' R') {o : Option V} {l : List Value} (h : RepO (F w L R) w o l) : RepO (F w' L' R') w' o l := fun u e => hz.rep (h u e)
theorem RepO.copied {wb w w' : World} {L : List (Nat × Obj)} {R : List Row} {o : Option V} {l : List Value} {bb : Bool} (cx : Cxr wb w L R) (hw : Below w.heap.size w w') (hm : match o with | some u => bb = true ∧ Made w w' u (.agg l.toArray) | none => bb = false) : bb = o.isSome ∧ RepO (F w' L R) w' o l := by
  cases o with
  | none => exact ⟨hm, fun u e => by cases e⟩
  | some u =>
    refine ⟨hm.1, fun u' e => ?_⟩
    cases e
    obtain ⟨r, e, hr⟩ := hm.2.rep
    obtain rfl : l = r := by simpa using e
    exact hr.fr cx hw.size
theorem Made.fr {wb w w' : World} {L : List (Nat × Obj)} {R : List Row} {v : V} {x : Value} (h : Made w w' v x) (cx : Cxr wb w L R) (hw : Below w.heap.size w w') : ∃ bs ls fs, x = .agg (vrow v.sc bs ls fs).toArray ∧ RepV (F w' L R) w' v (vrow v.sc bs ls fs) := by
  obtain ⟨r, e, hr⟩ := h.rep
  obtain ⟨bs, ls, fs, rfl, _⟩ := hr.open
  exact ⟨bs, ls, fs, e, hr.fr cx hw.size⟩
end Go.Dk
end
section
set_option linter.unusedVariables false
set_option linter.unusedSimpArgs false
namespace Go.Dk
open Go Go.RowKit
theorem kep_all {Q : Ch → Prop} {B : List Stp → V → V → List Ch} (p : List Stp) (fb : Fs) : ∀ (fa : Fs), (∀ kv ∈ fa, ∀ u, hasF kv.1 fb = some u → ∀ c ∈ B (p ++ [keyS kv.1]) kv.2 u, Q c) → ∀ c ∈ kepC B p fb fa, Q c
  | [], h => fun c hc => by simp [kepC] at hc
  | kv :: fa, h => fun c hc => by
    simp only [kepC, List.mem_append] at hc
    rcases hc with hc | hc
    · cases hu : hasF kv.1 fb with
      | none => rw [hu] at hc; cases hc
      | some u => rw [hu] at hc; exact h kv (List.mem_cons_self ..) u hu c hc
    · exact kep_all p fb fa (fun kv hk => h kv (List.mem_cons_of_mem _ hk)) c hc
end Go.Dk
end
section
set_option linter.unusedVariables false
set_option linter.unusedSimpArgs false
namespace Go.Dk
open Go Go.RowKit
theorem sum_ge {α : Type} (f : α → Nat) : ∀ (l : List α), (∀ x ∈ l, 1 ≤ f x) → l.length ≤ (l.map f).sum
  | [], _ => by simp
  | x :: l, h => by
    have h1 := h x (List.mem_cons_self ..)
    have h2 := sum_ge f l (fun y hy => h y (List.mem_cons_of_mem _ hy))
    simp only [List.map_cons, List.sum_cons, List.length_cons]; omega
theorem mem_sum {α : Type} (f : α → Nat) : ∀ (l : List α) (x : α), x ∈ l → f x ≤ (l.map f).sum
  | y :: l, x, h => by
    simp only [List.map_cons, List.sum_cons]
    rcases List.mem_cons.1 h with rfl | h
    · omega
    · have := mem_sum f l x h; omega
theorem tsz_kid {d : Nat} {v x : V} (h : x ∈ kids v) : tsz d x ≤ tsz (d + 1) v := by
  simp only [tsz]
  rcases List.mem_append.1 h with h | h
  · have := mem_sum (tsz d) v.list x h; omega
  · obtain ⟨kv, hk, rfl⟩ := List.mem_map.1 h
    have := mem_sum (fun kv : ByteArray × V => tsz d kv.2) v.fields kv hk
    omega
theorem tsz_list {d : Nat} {v : V} : v.list.length + 1 ≤ tsz (d + 1) v := by
  simp only [tsz]
  have := sum_ge (tsz d) v.list (fun x _ => tsz_pos d x)
  omega
theorem nar_small : ∀ (d : Nat) (a b : V), tsz d a ≤ 200 → tsz d b ≤ 200 → Nar d a b
  | 0, _, _, _, _ => trivial
  | d + 1, a, b, ha, hb => by
    have h1 := tsz_list (d := d) (v := a)
    have h2 := tsz_list (d := d) (v := b)
    refine ⟨by omega, by omega, Nat.le_trans (Nat.mul_le_mul (show a.list.length ≤ 200 by omega) (show b.list.length ≤ 200 by omega)) (by decide), fun x hx y hy => nar_small d x y ?_ ?_⟩
    · have := tsz_kid (d := d) hx; omega
    · have := tsz_kid (d := d) hy; omega
theorem chs_of {wb w : World} {L : List (Nat × Obj)} {R : List Row} {v : Value} {n : Nat} {S : List Ch} {rs : List (List Value)} {X : List Value} (cx : Cxr wb w L (⟨35, 29, v, n, X⟩ :: R)) (hn : n = S.length) (hX : X = rs.flatten) (hc : Rws (chA (F w L (⟨35, 29, v, n, X⟩ :: R)) w) S rs) : Chs w v S := by
  have row : w.ownsRow wb.heap.size 35 29 v n X := cx.head
  subst hX
  subst hn
  rcases row.2 with ⟨rfl, h0⟩ | ⟨g, cap, cur, rfl, hb, hg, hle, _, hcs, htake⟩
  · have : S = [] := List.eq_nil_of_length_eq_zero h0
    subst this
    exact ⟨0, 0, .inl ⟨rfl, rfl⟩, fun i c h => by simp at h⟩
  · have hrow : RowAt w g 0 rs.flatten := by
      intro j x hj
      rw [cell_of_row w g (0 + j) cur _ _ hg]
      rw [← htake] at hj
      rw [List.getElem?_take] at hj
      split at hj
      · simpa using hj
      · cases hj
    refine ⟨g, 0, .inr ⟨_, cap, rfl, hle, fun _ => ⟨rfl, (Array.getElem?_eq_some_iff.1 hg).1⟩⟩, fun i c hi => ?_⟩
    obtain ⟨r, h1, h2⟩ := Rws.rowAt chA.len hc hrow hi
    exact ⟨r, h1, h2.chg F.lt⟩
theorem chs_nil {w : World} : Chs w (.slice none 0 0) [] := ⟨0, 0, .inl ⟨rfl, rfl⟩, fun i c h => by simp at h⟩
theorem rep0 {w : World} {v : V} {r : List Value} (h : Val w v r) : RepV (F w [] []) w v r := RepV.mono (fun b hb => ⟨hb, by simp, by simp⟩) (fun _ _ => rfl) _ _ h
def MkB (B : List Ch) : List Ch := if 4096 < B.length then [] else B
def MkE (B : List Ch) : Int := if 4096 < B.length then 10 else 0
theorem sho_few {B S : List Ch} (h : Sho 0 B S) (hs : S.length ≤ 4096) : S = B := by
  rcases h.2 with h | h
  · exact h
  · omega
theorem sho_many {B S : List Ch} (h : Sho 0 B S) (hs : 4096 < S.length) : 4096 < B.length := Nat.lt_of_lt_of_le hs h.1
end Go.Dk
end
section
set_option linter.unusedVariables false
set_option linter.unusedSimpArgs false
namespace Go.Dk
open Go Go.RowKit
def chF (r : Int) : Bool := (decide (0 ≤ r) && decide (r ≤ 1114111)) && (decide (r < 55296) || decide (57343 < r))
def u8w (x : Int) : Int := IntKind.u8.wrap x
def enc1 (r : Int) : ByteArray := strOf [IntKind.u8.wrap r]
def enc2 (r : Int) : ByteArray := strOf [IntKind.u8.wrap (bitOp .or .i64 192 (shr .i64 r 6)), IntKind.u8.wrap (bitOp .or .i64 128 (bitOp .and .i64 r 63))]
def enc3 (r : Int) : ByteArray := strOf [IntKind.u8.wrap (bitOp .or .i64 224 (shr .i64 r 12)), IntKind.u8.wrap (bitOp .or .i64 128 (bitOp .and .i64 (shr .i64 r 6) 63)), IntKind.u8.wrap (bitOp .or .i64 128 (bitOp .and .i64 r 63))]
def enc4 (r : Int) : ByteArray := strOf [IntKind.u8.wrap (bitOp .or .i64 240 (shr .i64 r 18)), IntKind.u8.wrap (bitOp .or .i64 128 (bitOp .and .i64 (shr .i64 r 12) 63)), IntKind.u8.wrap (bitOp .or .i64 128 (bitOp .and .i64 (shr .i64 r 6) 63)), IntKind.u8.wrap (bitOp .or .i64 128 (bitOp .and .i64 r 63))]
def encF (r : Int) : ByteArray × Int :=
  if chF r = false then (⟨#[]⟩, 2) else if r < 128 then (enc1 r, 0) else if r < 2048 then (enc2 r, 0) else if r < 65536 then (enc3 r, 0) else (enc4 r, 0)
def hdF (b : Int) : Int × Int := if 240 ≤ b then (4, bitOp .and .i64 b 7) else if 224 ≤ b then (3, bitOp .and .i64 b 15) else if 192 ≤ b then (2, bitOp .and .i64 b 31) else (1, b)
def rI (s : ByteArray) (a r0 : Int) : Nat → Int
  | 0 => r0
  | i + 1 => bitOp .or .i64 (shl .i64 (rI s a r0 i) 6) (bitOp .and .i64 (byteAt s (a + ((i + 1 : Nat) : Int))) 63)
def decF (s : ByteArray) (a : Int) : Int :=
  if a < 0 ∨ (s.size : Int) ≤ a then 0
  else if (s.size : Int) - a < (hdF (byteAt s a)).1 then 0
  else if (encF (rI s a (hdF (byteAt s a)).2 ((hdF (byteAt s a)).1.toNat - 1))).2 ≠ 0 ∨ (encF (rI s a (hdF (byteAt s a)).2 ((hdF (byteAt s a)).1.toNat - 1))).1 ≠ s.extract a.toNat (a + (hdF (byteAt s a)).1).toNat then 0
  else (hdF (byteAt s a)).1
theorem hdF_lo (b : Int) : 1 ≤ (hdF b).1 ∧ (hdF b).1 ≤ 4 := by
  unfold hdF
  repeat' split
  all_goals (dsimp only; omega)
inductive Vt (s : ByteArray) : Int → Prop
  | last (a : Int) (h : (s.size : Int) ≤ a) : Vt s a
  | next (a : Int) (h : a < s.size) (hn : decF s a ≠ 0) (ht : Vt s (a + decF s a)) : Vt s a
theorem Vt.no {s : ByteArray} {a : Int} (h : a < s.size) (hn : decF s a = 0) : ¬ Vt s a := fun h' => by
  cases h' with
  | last _ h2 => omega
  | next _ _ h2 _ => exact h2 hn
theorem Vt.step {s : ByteArray} {a : Int} (h : a < s.size) (hn : decF s a ≠ 0) : Vt s a ↔ Vt s (a + decF s a) :=
  ⟨fun h' => by
    cases h' with
    | last _ h2 => omega
    | next _ _ _ h2 => exact h2, fun h' => .next a h hn h'⟩
def VT (s : ByteArray) : Prop := Vt s 0
def Dig (s : ByteArray) : Prop := ∀ i : Nat, i < s.size → 48 ≤ byteAt s (i : Int) ∧ byteAt s (i : Int) ≤ 57
def R1v (s : ByteArray) : Prop := s.size ≤ 600 ∧ Dig s ∧ (s.size = 0 ∨ byteAt s 0 ≠ 48)
def Zr (s : ByteArray) : Prop := s.size = 0 ∨ byteAt s ((s.size : Int) - 1 - 0) ≠ 48
def VN (g : Bool) (d : ByteArray) (e : Int) : Prop := (d = ⟨#[]⟩ ∧ g = false ∧ e = 0) ∨ (d ≠ ⟨#[]⟩ ∧ d.size ≤ 120 ∧ R1v d ∧ Zr d ∧ -400 ≤ e ∧ e ≤ 400)
def dtF (k : Int) : Bool := ((k == 1) || (k == 3)) || (k == 4)
def clF (k : Int) : Bool := ((k == 2) || (k == 3)) || (k == 4)
def VM (k d n o : Int) : Prop := (1 ≤ k ∧ k ≤ 4 ∧ 0 ≤ d ∧ d ≤ 3652058 ∧ 0 ≤ n ∧ n ≤ 86399999999999 ∧ -1439 ≤ o ∧ o ≤ 1439) ∧ (dtF k = true ∨ d = 0) ∧ (clF k = true ∨ n = 0) ∧ (k = 4 ∨ o = 0)
end Go.Dk
namespace Go.Dk
open Go Go.RowKit
section
variable {s : ByteArray} {a : Int}
theorem hdF_4 {b : Int} (h : 240 ≤ b) : hdF b = (4, bitOp .and .i64 b 7) := if_pos h
theorem hdF_3 {b : Int} (h : ¬ 240 ≤ b) (h2 : 224 ≤ b) : hdF b = (3, bitOp .and .i64 b 15) := by unfold hdF; rw [if_neg h, if_pos h2]
theorem hdF_2 {b : Int} (h : ¬ 240 ≤ b) (h2 : ¬ 224 ≤ b) (h3 : 192 ≤ b) : hdF b = (2, bitOp .and .i64 b 31) := by unfold hdF; rw [if_neg h, if_neg h2, if_pos h3]
theorem hdF_1 {b : Int} (h : ¬ 240 ≤ b) (h2 : ¬ 224 ≤ b) (h3 : ¬ 192 ≤ b) : hdF b = (1, b) := by unfold hdF; rw [if_neg h, if_neg h2, if_neg h3]
theorem decF_out (h : a < 0 ∨ (s.size : Int) ≤ a) : decF s a = 0 := by unfold decF; rw [if_pos h]
theorem decF_short (h : ¬ (a < 0 ∨ (s.size : Int) ≤ a)) (h2 : (s.size : Int) - a < (hdF (byteAt s a)).1) : decF s a = 0 := by unfold decF; rw [if_neg h, if_pos h2]
theorem decF_bad (h : ¬ (a < 0 ∨ (s.size : Int) ≤ a)) (h2 : ¬ (s.size : Int) - a < (hdF (byteAt s a)).1) (h3 : (encF (rI s a (hdF (byteAt s a)).2 ((hdF (byteAt s a)).1.toNat - 1))).2 ≠ 0 ∨ (encF (rI s a (hdF (byteAt s a)).2 ((hdF (byteAt s a)).1.toNat - 1))).1 ≠ s.extract a.toNat (a + (hdF (byteAt s a)).1).toNat) : decF s a = 0 := by
  unfold decF; rw [if_neg h, if_neg h2, if_pos h3]
theorem decF_ok (h : ¬ (a < 0 ∨ (s.size : Int) ≤ a)) (h2 : ¬ (s.size : Int) - a < (hdF (byteAt s a)).1) (h3 : ¬ ((encF (rI s a (hdF (byteAt s a)).2 ((hdF (byteAt s a)).1.toNat - 1))).2 ≠ 0 ∨ (encF (rI s a (hdF (byteAt s a)).2 ((hdF (byteAt s a)).1.toNat - 1))).1 ≠ s.extract a.toNat (a + (hdF (byteAt s a)).1).toNat)) : decF s a = (hdF (byteAt s a)).1 := by
  unfold decF; rw [if_neg h, if_neg h2, if_neg h3]
theorem decF_bd (s : ByteArray) (a : Int) : 0 ≤ decF s a ∧ (decF s a = 0 ∨ a + decF s a ≤ s.size) := by
  have hb := hdF_lo (byteAt s a)
  by_cases h : a < 0 ∨ (s.size : Int) ≤ a
  · rw [decF_out h]; exact ⟨Int.le_refl _, .inl rfl⟩
  · by_cases h2 : (s.size : Int) - a < (hdF (byteAt s a)).1
    · rw [decF_short h h2]; exact ⟨Int.le_refl _, .inl rfl⟩
    · by_cases h3 : (encF (rI s a (hdF (byteAt s a)).2 ((hdF (byteAt s a)).1.toNat - 1))).2 ≠ 0 ∨ (encF (rI s a (hdF (byteAt s a)).2 ((hdF (byteAt s a)).1.toNat - 1))).1 ≠ s.extract a.toNat (a + (hdF (byteAt s a)).1).toNat
      · rw [decF_bad h h2 h3]; exact ⟨Int.le_refl _, .inl rfl⟩
      · rw [decF_ok h h2 h3]; omega
end
def KeysOk (l : List (ByteArray × V)) : Prop := (∀ kv ∈ l, VT kv.1 ∧ kv.1.size ≤ 1024) ∧ (keysOf l).Nodup
def Gd1 (v : V) : Prop := Own1 v ∧ VN v.sc.neg v.sc.dig v.sc.exp ∧ (v.sc.kind = 3 → VM v.sc.tk v.sc.td v.sc.tn v.sc.tz) ∧ VT v.sc.text ∧ v.sc.text.size ≤ 65536 ∧ v.bytes.length ≤ 65536 ∧ KeysOk v.fields
def Gok : Nat → V → Prop
  | 0, _ => False
  | d + 1, v => Gd1 v ∧ (∀ x ∈ v.list, Gok d x) ∧ ∀ kv ∈ v.fields, Gok d kv.2
theorem Gok.okd : ∀ (d : Nat) (v : V), Gok d v → okd d v
  | 0, _, h => h
  | d + 1, v, h => ⟨h.1.1, h.1.2.2.2.2.2.2.2, fun x hx => Gok.okd d x (h.2.1 x hx), fun kv hk => Gok.okd d kv.2 (h.2.2 kv hk)⟩
theorem Gok.mono : ∀ (d k : Nat) (v : V), Gok d v → d ≤ k → Gok k v
  | 0, _, _, h, _ => h.elim
  | _ + 1, 0, _, _, h => by omega
  | d + 1, k + 1, v, h, hk => ⟨h.1, fun x hx => Gok.mono d k x (h.2.1 x hx) (by omega), fun kv hkv => Gok.mono d k kv.2 (h.2.2 kv hkv) (by omega)⟩
theorem kids_tsz {d : Nat} {v : V} (h : Own1 v) : tsz (d + 1) v = 1 + ((kidsR v).map (tsz d)).sum := by
  simp only [tsz]
  unfold kidsR
  split
  · rename_i hk
    have : v.list = [] := List.eq_nil_of_length_eq_zero (h.list (by omega))
    rw [this, List.map_map]
    simp only [List.map_nil, List.sum_nil, Nat.zero_add]
    rfl
  · rename_i hk
    have : v.fields = [] := List.eq_nil_of_length_eq_zero (h.fields hk)
    rw [this]; simp
theorem Gok.kid {d : Nat} {v x : V} (h : Gok (d + 1) v) (hx : x ∈ kidsR v) : Gok d x := by
  unfold kidsR at hx
  split at hx
  · obtain ⟨kv, hkv, rfl⟩ := List.mem_map.1 hx; exact h.2.2 kv hkv
  · exact h.2.1 x hx
theorem gok_of_kids {d : Nat} {v : V} (h : Gd1 v) (hk : ∀ x ∈ kidsR v, Gok d x) : Gok (d + 1) v := by
  refine ⟨h, fun x hx => ?_, fun kv hkv => ?_⟩
  · refine hk x ?_
    unfold kidsR
    rw [if_neg]
    · exact hx
    · intro h7
      have : v.list = [] := List.eq_nil_of_length_eq_zero (h.1.list (by omega))
      rw [this] at hx; cases hx
  · refine hk kv.2 ?_
    unfold kidsR
    rw [if_pos]
    · exact List.mem_map.2 ⟨kv, hkv, rfl⟩
    · by_cases h7 : v.sc.kind = 7
      · exact h7
      · have : v.fields = [] := List.eq_nil_of_length_eq_zero (h.1.fields h7)
        rw [this] at hkv; cases hkv
theorem sum_takeN {α : Type} (f : α → Nat) (l : List α) {i : Nat} (hi : i < l.length) : ((l.take i).map f).sum + f l[i] ≤ (l.map f).sum ∧ ((l.take (i + 1)).map f).sum = ((l.take i).map f).sum + f l[i] := by
  have e : l.take (i + 1) = l.take i ++ [l[i]] := by rw [List.take_add_one, List.getElem?_eq_getElem hi]; rfl
  have h2 : ((l.take (i + 1)).map f).sum = ((l.take i).map f).sum + f l[i] := by rw [e, List.map_append, List.sum_append, List.map_singleton, List.sum_singleton]
  refine ⟨?_, h2⟩
  rw [← h2]
  conv => rhs; rw [← List.take_append_drop (i + 1) l, List.map_append, List.sum_append]
  omega
end Go.Dk
end
section
set_option linter.unusedVariables false
set_option linter.unusedSimpArgs false
namespace Go.Dk
open Go Go.RowKit
def lsV (l : List V) : V := .mk (zk 6) [] l []
inductive AtP (R : V → V → Prop) : List Stp → V → V → Prop
  | here {v v' : V} (h : R v v') : AtP R [] v v'
  | elem {p : List Stp} (l : List V) (i : Nat) (x x' : V) (hi : l[i]? = some x) (h : AtP R p x x') : AtP R (idxS i :: p) (lsV l) (lsV (l.set i x'))
  | field {p : List Stp} (fs : Fs) (i : Nat) (k : ByteArray) (x x' : V) (hi : fs[i]? = some (k, x)) (h : AtP R p x x') : AtP R (keyS k :: p) (mapV fs) (mapV (fs.set i (k, x')))
theorem set_back {α : Type} {l : List α} {i : Nat} {x x' : α} (hi : l[i]? = some x) : (l.set i x')[i]? = some x' ∧ (l.set i x').set i x = l := by
  have hl := (List.getElem?_eq_some_iff.1 hi).1
  refine ⟨by rw [List.getElem?_set, if_pos rfl, if_pos hl], ?_⟩
  rw [List.set_set]
  apply List.ext_getElem?
  intro j
  rw [List.getElem?_set]
  split
  · rename_i e; subst e
    exact hi.symm
  · rfl
theorem AtP.inv {R R' : V → V → Prop} (hR : ∀ v v', R v v' → R' v' v) {p : List Stp} {v v' : V} (h : AtP R p v v') : AtP R' p v' v := by
  induction h with
  | here h => exact .here (hR _ _ h)
  | elem l i x x' hi h ih =>
    obtain ⟨h1, h2⟩ := set_back (x' := x') hi
    have := AtP.elem (l.set i x') i x' x h1 ih
    rwa [h2] at this
  | field fs i k x x' hi h ih =>
    obtain ⟨h1, h2⟩ := set_back (x' := (k, x')) hi
    have := AtP.field (fs.set i (k, x')) i k x' x h1 ih
    rwa [h2] at this
inductive RemB (old : V) : Stp → Int → V → V → Prop
  | elem (l : List V) (i : Nat) (hi : l[i]? = some old) : RemB old (idxS i) 0 (lsV l) (lsV (l.eraseIdx i))
  | field (fs : Fs) (t : Nat) (k : ByteArray) (hi : fs[t]? = some (k, old)) (hn : (keysOf fs).Nodup) : RemB old (keyS k) (t : Nat) (mapV fs) (mapV (fs.eraseIdx t))
inductive StpC : Ch → V → V → Prop
  | rep (p : List Stp) (old new v v' : V) (h : AtP (fun m m' => m = old ∧ m' = new) p v v') : StpC ⟨1, p, 0, old, new⟩ v v'
  | rem (up : List Stp) (s : Stp) (pos : Int) (old v v' : V) (h : AtP (RemB old s pos) up v v') : StpC ⟨3, up ++ [s], pos, old, nulV⟩ v v'
  | ins (up : List Stp) (s : Stp) (pos : Int) (new v v' : V) (h : AtP (fun m m' => RemB new s pos m' m) up v v') : StpC ⟨2, up ++ [s], pos, nulV, new⟩ v v'
def invC (c : Ch) : Ch := ⟨if c.op = 2 then 3 else if c.op = 3 then 2 else c.op, c.path, c.pos, if c.op = 1 ∨ c.op = 2 ∨ c.op = 3 then c.new else c.old, if c.op = 1 ∨ c.op = 2 ∨ c.op = 3 then c.old else c.new⟩
theorem StpC.inv {c : Ch} {v v' : V} (h : StpC c v v') : StpC (invC c) v' v := by
  cases h with
  | rep p old new v v' h => exact .rep p new old v' v (h.inv fun _ _ h => ⟨h.2, h.1⟩)
  | rem up s pos old v v' h => exact .ins up s pos old v' v (h.inv fun _ _ h => h)
  | ins up s pos new v v' h => exact .rem up s pos new v' v (h.inv fun _ _ h => h)
def Chn (G : V → Prop) : List Ch → V → V → Prop
  | [], v, w => v = w
  | c :: cs, v, w => ∃ u, StpC c v u ∧ G u ∧ Chn G cs u w
theorem Chn.append {G : V → Prop} : ∀ {cs ds : List Ch} {v u w : V}, Chn G cs v u → Chn G ds u w → Chn G (cs ++ ds) v w
  | [], ds, v, u, w, h, h' => by
    have e : v = u := h
    subst e; exact h'
  | c :: cs, ds, v, u, w, ⟨x, h1, h2, h3⟩, h' => ⟨x, h1, h2, h3.append h'⟩
theorem Chn.nil {G : V → Prop} (v : V) : Chn G [] v v := rfl
theorem Chn.one {G : V → Prop} {c : Ch} {v u : V} (h : StpC c v u) (hg : G u) : Chn G [c] v u := ⟨u, h, hg, rfl⟩
theorem Chn.inv {G : V → Prop} : ∀ {cs : List Ch} {v w : V}, Chn G cs v w → G v → Chn G ((cs.map invC).reverse) w v
  | [], v, w, h, _ => by
    have e : v = w := h
    subst e; exact Chn.nil v
  | c :: cs, v, w, ⟨u, h1, h2, h3⟩, hg => by
    rw [List.map_cons, List.reverse_cons]
    exact (h3.inv h2).append (Chn.one h1.inv hg)
theorem Chn.cast {G : V → Prop} {cs ds : List Ch} {v w v' w' : V} (h : Chn G cs v w) (e : cs = ds) (e1 : v = v') (e2 : w = w') : Chn G ds v' w' := by subst e e1 e2; exact h
structure Ctp (p : List Stp) (C : V → V) : Prop where
  app : ∀ (R : V → V → Prop) (q : List Stp) (m m' : V), AtP R q m m' → AtP R (p ++ q) (C m) (C m')
theorem Ctp.id : Ctp [] (fun m => m) := ⟨fun _ _ _ _ h => h⟩
theorem midX_at {α : Type} (pre : List α) (x : α) (rest : List α) : (pre ++ x :: rest)[pre.length]? = some x := by
  rw [List.getElem?_append_right (Nat.le_refl _), Nat.sub_self]; rfl
theorem midX_set {α : Type} (pre : List α) (x y : α) (rest : List α) : (pre ++ x :: rest).set pre.length y = pre ++ y :: rest := by
  rw [List.set_append_right _ _ (Nat.le_refl _), Nat.sub_self]; rfl
theorem midX_erase {α : Type} (pre : List α) (x : α) (rest : List α) : (pre ++ x :: rest).eraseIdx pre.length = pre ++ rest := by
  rw [List.eraseIdx_append_of_length_le (Nat.le_refl _), Nat.sub_self]; rfl
theorem Ctp.elem {p : List Stp} {C : V → V} (h : Ctp p C) (pre rest : List V) : Ctp (p ++ [idxS pre.length]) (fun m => C (lsV (pre ++ m :: rest))) := ⟨fun R q m m' hq => by
  have := h.app R _ _ _ (AtP.elem (pre ++ m :: rest) pre.length m m' (midX_at _ _ _) hq)
  rw [midX_set] at this
  rwa [List.append_assoc]⟩
theorem Ctp.field {p : List Stp} {C : V → V} (h : Ctp p C) (pre rest : Fs) (k : ByteArray) : Ctp (p ++ [keyS k]) (fun m => C (mapV (pre ++ (k, m) :: rest))) := ⟨fun R q m m' hq => by
  have := h.app R _ _ _ (AtP.field (pre ++ (k, m) :: rest) pre.length k m m' (midX_at _ _ _) hq)
  rw [midX_set] at this
  rwa [List.append_assoc]⟩
theorem Ctp.base {p : List Stp} {C : V → V} (h : Ctp p C) {R : V → V → Prop} {m m' : V} (hr : R m m') : AtP R p (C m) (C m') := by
  have := h.app R [] m m' (.here hr)
  rwa [List.append_nil] at this
/-! ### good values -/
theorem vt_empty : VT ⟨#[]⟩ := Vt.last 0 (Int.le_refl _)
theorem gd1_ls (l : List V) : Gd1 (lsV l) :=
  ⟨⟨show (0 : Int) ≤ 6 by decide, show (6 : Int) ≤ 7 by decide, fun _ => rfl, fun _ => ⟨rfl, rfl, rfl⟩, fun _ => ⟨rfl, rfl, rfl, rfl⟩, fun _ => rfl, fun _ => rfl, fun h => absurd rfl h, fun _ => rfl⟩, .inl ⟨rfl, rfl, rfl⟩, (fun h => absurd h (show ¬ (6 : Int) = 3 by decide)), vt_empty, Nat.zero_le _, Nat.zero_le _, (fun kv h => by cases h), List.nodup_nil⟩
theorem gd1_map {fs : Fs} (h : KeysOk fs) : Gd1 (mapV fs) :=
  ⟨⟨show (0 : Int) ≤ 7 by decide, show (7 : Int) ≤ 7 by decide, fun _ => rfl, fun _ => ⟨rfl, rfl, rfl⟩, fun _ => ⟨rfl, rfl, rfl, rfl⟩, fun _ => rfl, fun _ => rfl, fun _ => rfl, fun h => absurd rfl h⟩, .inl ⟨rfl, rfl, rfl⟩, (fun h => absurd h (show ¬ (7 : Int) = 3 by decide)), vt_empty, Nat.zero_le _, Nat.zero_le _, h⟩
theorem gok_ls {d : Nat} {l : List V} (h : ∀ x ∈ l, Gok d x) : Gok (d + 1) (lsV l) := ⟨gd1_ls l, h, fun kv h => by cases h⟩
theorem gok_map {d : Nat} {fs : Fs} (hk : KeysOk fs) (h : ∀ kv ∈ fs, Gok d kv.2) : Gok (d + 1) (mapV fs) := ⟨gd1_map hk, (fun x h => by cases h), h⟩
theorem ls_of {v : V} (h : Own1 v) (hk : v.sc.kind = 6) : v = lsV v.list := by
  obtain ⟨s, b, l, f⟩ := v
  have e1 : b = [] := List.eq_nil_of_length_eq_zero (h.bytes (by show ¬ s.kind = 5; have : s.kind = 6 := hk; omega))
  have e2 : f = [] := List.eq_nil_of_length_eq_zero (h.fields (by show ¬ s.kind = 7; have : s.kind = 6 := hk; omega))
  subst e1 e2
  have e3 : s = zk 6 := by
    obtain ⟨k, sb, neg, dig, exp, tk, td, tn, tz, text⟩ := s
    have hk' : k = 6 := hk
    subst hk'
    have h1 : sb = false := h.b (show ¬ (6 : Int) = 1 by decide)
    obtain ⟨h2, h3, h4⟩ := h.num (show ¬ (6 : Int) = 2 by decide)
    obtain ⟨h5, h6, h7, h8⟩ := h.time (show ¬ (6 : Int) = 3 by decide)
    have h9 := h.text (show ¬ (6 : Int) = 4 by decide)
    simp only [V.sc] at h2 h3 h4 h5 h6 h7 h8 h9
    subst h1 h2 h3 h4 h5 h6 h7 h8 h9
    rfl
  subst e3
  rfl
theorem map_of {v : V} (h : Own1 v) (hk : v.sc.kind = 7) : v = mapV v.fields := by
  obtain ⟨s, b, l, f⟩ := v
  have e1 : b = [] := List.eq_nil_of_length_eq_zero (h.bytes (by show ¬ s.kind = 5; have : s.kind = 7 := hk; omega))
  have e2 : l = [] := List.eq_nil_of_length_eq_zero (h.list (by show ¬ s.kind = 6; have : s.kind = 7 := hk; omega))
  subst e1 e2
  have e3 : s = zk 7 := by
    obtain ⟨k, sb, neg, dig, exp, tk, td, tn, tz, text⟩ := s
    have hk' : k = 7 := hk
    subst hk'
    have h1 : sb = false := h.b (show ¬ (7 : Int) = 1 by decide)
    obtain ⟨h2, h3, h4⟩ := h.num (show ¬ (7 : Int) = 2 by decide)
    obtain ⟨h5, h6, h7, h8⟩ := h.time (show ¬ (7 : Int) = 3 by decide)
    have h9 := h.text (show ¬ (7 : Int) = 4 by decide)
    simp only [V.sc] at h2 h3 h4 h5 h6 h7 h8 h9
    subst h1 h2 h3 h4 h5 h6 h7 h8 h9
    rfl
  subst e3
  rfl
def szL (d : Nat) (l : List V) : Nat := (l.map (tsz d)).sum
def szF (d : Nat) (l : Fs) : Nat := (l.map fun kv => tsz d kv.2).sum
theorem tsz_ls (d : Nat) (l : List V) : tsz (d + 1) (lsV l) = 1 + szL d l := by simp [tsz, lsV, szL, V.list, V.fields]
theorem tsz_map (d : Nat) (l : Fs) : tsz (d + 1) (mapV l) = 1 + szF d l := by simp [tsz, mapV, szF, V.list, V.fields]
theorem szL_append (d : Nat) (l l' : List V) : szL d (l ++ l') = szL d l + szL d l' := by simp [szL]
theorem szL_cons (d : Nat) (x : V) (l : List V) : szL d (x :: l) = tsz d x + szL d l := by simp [szL]
theorem szF_append (d : Nat) (l l' : Fs) : szF d (l ++ l') = szF d l + szF d l' := by simp [szF]
theorem szF_cons (d : Nat) (x : ByteArray × V) (l : Fs) : szF d (x :: l) = tsz d x.2 + szF d l := by simp [szF]
end Go.Dk
end
section
set_option linter.unusedVariables false
namespace Go.Dk
open Go Go.RowKit
def SOk (s : Stp) : Prop := (s.byIndex = true → s.key = ⟨#[]⟩ ∧ 0 ≤ s.index ∧ s.index ≤ 65536) ∧ (s.byIndex = false → s.index = 0 ∧ s.key.size ≤ 1024 ∧ VT s.key)
def POk (p : List Stp) : Prop := p.length ≤ 48 ∧ ∀ s ∈ p, SOk s
theorem POk.append {p q : List Stp} (h : POk (p ++ q)) : POk p ∧ POk q := by
  have := h.1
  rw [List.length_append] at this
  exact ⟨⟨by omega, fun s hs => h.2 s (List.mem_append_left _ hs)⟩, by omega, fun s hs => h.2 s (List.mem_append_right _ hs)⟩
theorem Pth.cap {w : World} {a : Option Addr} {c n : Nat} {l : List Stp} (h : Pth w (.slice a n c) l) : n = l.length ∧ l.length ≤ c := by
  obtain ⟨b, o, hs, hr⟩ := h
  rcases hs with ⟨h0, e⟩ | ⟨ad, cap, e, hc, _⟩
  · cases e; omega
  · cases e; exact ⟨rfl, hc⟩
theorem Pth.sub {w : World} {a : Option Addr} {c n lo hi : Nat} {l : List Stp} (h : Pth w (.slice a n c) l) (h1 : lo ≤ hi) (h2 : hi ≤ l.length) : Pth w (sliced a lo hi c 3) ((l.drop lo).take (hi - lo)) := by
  obtain ⟨b, o, hs, hr⟩ := h
  refine ⟨b, o + lo * 3, ?_, fun i x hx => ?_⟩
  · have hl : ((l.drop lo).take (hi - lo)).length = hi - lo := by simp only [List.length_take, List.length_drop]; omega
    rw [hl]
    unfold sliced
    rcases hs with ⟨h0, e⟩ | ⟨ad, cap, e, hc, ha⟩
    · cases e
      left
      obtain rfl : hi = 0 := by omega
      obtain rfl : lo = 0 := by omega
      exact ⟨rfl, rfl⟩
    · cases e
      right
      split
      · rename_i e
        exact ⟨ad, _, rfl, by omega, fun h => by omega⟩
      · refine ⟨ad.add (lo * 3), c - lo, rfl, by omega, fun h => ?_⟩
        obtain ⟨rfl, hA⟩ := ha (by omega)
        exact ⟨by simp [Addr.add], hA⟩
  · rw [List.getElem?_take] at hx
    split at hx
    · rw [List.getElem?_drop] at hx
      have := hr (lo + i) x hx
      rwa [show o + (lo + i) * 3 = o + lo * 3 + i * 3 by omega] at this
    · cases hx
theorem Pth.tail {w : World} {a : Option Addr} {c n : Nat} {s : Stp} {l : List Stp} (h : Pth w (.slice a n c) (s :: l)) : Pth w (sliced a 1 n c 3) l := by
  obtain ⟨hn, hc⟩ := h.cap
  have := h.sub (lo := 1) (hi := n) (by rw [hn]; simp) (by omega)
  rw [hn] at this ⊢
  simpa using this
theorem Pth.init {w : World} {a : Option Addr} {c n : Nat} {s : Stp} {l : List Stp} (h : Pth w (.slice a n c) (l ++ [s])) : Pth w (sliced a 0 l.length c 3) l := by
  obtain ⟨hn, hc⟩ := h.cap
  have := h.sub (lo := 0) (hi := l.length) (Nat.zero_le _) (by simp)
  simpa using this
end Go.Dk
end
section
set_option linter.unusedVariables false
namespace Go.Dk
open Go Go.RowKit
def FX (A : Nat → Prop) (B : Nat) (w : World) (L : List (Nat × Obj)) (R : List Row) (b : Nat) : Prop := F w L R b ∧ (A b ∨ B ≤ b)
section
variable {wb w w' w0 : World} {L L' : List (Nat × Obj)} {R R' : List Row} {A : Nat → Prop} {B : Nat} {v : V} {r : List Value}
theorem FX.lt (b : Nat) (h : FX A B w L R b) : b < w.heap.size := h.1.1
theorem Fz.upA (hz : Fz w L R w' L' R') : ∀ b, FX A B w L R b → FX A B w' L' R' b := fun b h => ⟨hz.up b h.1, h.2⟩
theorem Fz.kpA (hz : Fz w L R w' L' R') : Keeps (FX A B w L R) w w' := fun b h => hz.kp b h.1
theorem Fz.repA (hz : Fz w L R w' L' R') (h : RepV (FX A B w L R) w v r) : RepV (FX A B w' L' R') w' v r := RepV.mono hz.upA hz.kpA _ _ h
theorem FX.res (cx : Cxr wb w L R) (hw : Below w.heap.size w w') (hB : B ≤ w.heap.size) (h : RepV (fun b => FX A B w L R b ∨ Fr w w' b) w' v r) : RepV (FX A B w' L R) w' v r :=
  RepV.mono (fun b hb => hb.elim ((Fz.below hw).upA b) (fun h => ⟨F.fresh cx hw.size b h, .inr (Nat.le_trans hB h.1)⟩)) (fun _ _ => rfl) _ _ h
theorem FX.init (hA : ∀ b, A b → b < w0.heap.size) (h : RepV A w0 v r) : RepV (FX A w0.heap.size w0 [] []) w0 v r := RepV.mono (fun b hb => ⟨⟨hA b hb, by simp, by simp⟩, .inl hb⟩) (fun _ _ => rfl) _ _ h
theorem FX.out (h : RepV (FX A w0.heap.size w L R) w v r) : RepV (fun b => A b ∨ Fr w0 w b) w v r := RepV.mono (fun b hb => hb.2.imp id fun h => ⟨h, hb.1.1⟩) (fun _ _ => rfl) _ _ h
theorem RepV.vf (h : RepV (FX A B w L R) w v r) : Val w v r := RepV.mono (fun b hb => hb.1.1) (fun _ _ => rfl) _ _ h
end
def Pst (s : Stp) (k : Nat) (x x' u u' : V) : Prop := (∃ l, s = idxS k ∧ u = lsV l ∧ l[k]? = some x ∧ u' = lsV (l.set k x')) ∨ (∃ fs key, s = keyS key ∧ u = mapV fs ∧ fs[k]? = some (key, x) ∧ u' = mapV (fs.set k (key, x')))
theorem at_step {R : V → V → Prop} {s : Stp} {q : List Stp} {u u' : V} (h : AtP R (s :: q) u u') : ∃ (k : Nat) (x x' : V), AtP R q x x' ∧ Pst s k x x' u u' := by
  cases h with
  | elem l i x x' hi h => exact ⟨i, x, x', h, .inl ⟨l, rfl, rfl, hi, rfl⟩⟩
  | field fs i k x x' hi h => exact ⟨i, x, x', h, .inr ⟨fs, k, rfl, rfl, hi, rfl⟩⟩
theorem at_base {R : V → V → Prop} {u u' : V} (h : AtP R [] u u') : R u u' := by
  cases h with
  | here h => exact h
theorem at_ex {R : V → V → Prop} {p : List Stp} {v v' : V} (h : AtP R p v v') : ∃ m m', R m m' ∧ AtP (fun y z => y = m ∧ z = m') p v v' := by
  induction h with
  | here h => exact ⟨_, _, h, .here ⟨rfl, rfl⟩⟩
  | elem l i x x' hi h ih => obtain ⟨m, m', h1, h2⟩ := ih; exact ⟨m, m', h1, .elem l i x x' hi h2⟩
  | field fs i k x x' hi h ih => obtain ⟨m, m', h1, h2⟩ := ih; exact ⟨m, m', h1, .field fs i k x x' hi h2⟩
theorem AtP.imp {R R' : V → V → Prop} (hR : ∀ v v', R v v' → R' v v') {p : List Stp} {v v' : V} (h : AtP R p v v') : AtP R' p v v' := by
  induction h with
  | here h => exact .here (hR _ _ h)
  | elem l i x x' hi h ih => exact .elem l i x x' hi ih
  | field fs i k x x' hi h ih => exact .field fs i k x x' hi ih
theorem Pst.gok {s : Stp} {k e : Nat} {x x' u u' : V} (h : Pst s k x x' u u') (hg : Gok e u) : ∃ e', Gok e' x := by
  cases e with
  | zero => exact hg.elim
  | succ e =>
    rcases h with ⟨l, rfl, rfl, hi, rfl⟩ | ⟨fs, key, rfl, rfl, hi, rfl⟩
    · exact ⟨e, hg.2.1 x (List.mem_of_getElem? hi)⟩
    · exact ⟨e, hg.2.2 _ (List.mem_of_getElem? hi)⟩
theorem Pst.fine {s : Stp} {k : Nat} {x x' u u' : V} (h : Pst s k x x' u u') (hg : Fine u) : Fine x := by
  rcases h with ⟨l, rfl, rfl, hi, rfl⟩ | ⟨fs, key, rfl, rfl, hi, rfl⟩
  · exact hg.elem (List.mem_of_getElem? hi)
  · exact (hg.field (List.mem_of_getElem? hi)).2
theorem gok_keys {e : Nat} {u : V} (hg : Gok e u) : (keysOf u.fields).Nodup := by
  cases e with
  | zero => exact hg.elim
  | succ e => exact hg.1.2.2.2.2.2.2.2
theorem keys_at {l : List (ByteArray × V)} (hn : (keysOf l).Nodup) {i j : Nat} (hi : i < l.length) (hj : j < l.length) (e : l[i].1 = l[j].1) : i = j := by
  have h1 : (keysOf l)[i]? = some l[i].1 := by unfold keysOf; rw [List.getElem?_map, List.getElem?_eq_getElem hi]; rfl
  have h2 : (keysOf l)[j]? = some l[j].1 := by unfold keysOf; rw [List.getElem?_map, List.getElem?_eq_getElem hj]; rfl
  have hlt : i < (keysOf l).length := (List.getElem?_eq_some_iff.1 h1).1
  exact (List.getElem?_inj hlt hn).1 (by rw [h1, h2, e])
end Go.Dk
end
section
set_option linter.unusedVariables false
set_option linter.unusedSimpArgs false
namespace Go.Dk
open Go Go.RowKit
section
variable {w0 w w' : World} {L L' : List (Nat × Obj)} {R : List Row}
theorem F.out (cx : Cxr w0 w L R) {i b : Nat} {o : Obj} (hi : L[i]? = some (b, o)) (h2 : ∀ p ∈ L', ∃ j, j ≠ i ∧ L[j]? = some p) : F w L' R b := by
  have hm := List.mem_of_getElem? hi
  refine ⟨cx.lt _ hm, fun hb => ?_, fun r hr e => cx.off r hr b e (List.mem_map.2 ⟨_, hm, rfl⟩)⟩
  obtain ⟨p, hp, hpb⟩ := List.mem_map.1 hb
  obtain ⟨j, hj, hjl⟩ := h2 p hp
  have h1 : (L.map (·.1))[i]? = some b := by simp [hi]
  have h3 : (L.map (·.1))[j]? = some b := by simp [hjl, hpb]
  have hlt : i < (L.map (·.1)).length := (List.getElem?_eq_some_iff.1 h1).1
  exact hj ((List.getElem?_inj hlt cx.nd).1 (h1.trans h3.symm)).symm
theorem F.old (cx : Cxr w0 w L R) : ∀ b, b < w0.heap.size → F w L R b := fun b hb =>
  ⟨Nat.lt_of_lt_of_le hb cx.ext.size, fun hm => by obtain ⟨p, hp, rfl⟩ := List.mem_map.1 hm; have := cx.lo p hp; omega, fun r hr e => by
    have := ((cx.rows r hr).lt _ e).1; omega⟩
end
def Bls (w : World) (s : Value) (tk : List Bool) : Prop := ∃ ta tc tb o, s = .slice ta tk.length tc ∧ (0 < tk.length → ta = some ⟨tb, o, none⟩ ∧ tb < w.heap.size ∧ RowAt w tb o (tk.map Value.bool))
theorem Bls.up {w w' : World} {s : Value} {tk : List Bool} (h : Bls w s tk) (hb : Below w.heap.size w w') : Bls w' s tk := by
  obtain ⟨ta, tc, tb, o, e, h1⟩ := h
  exact ⟨ta, tc, tb, o, e, fun h0 => ⟨(h1 h0).1, Nat.lt_of_lt_of_le (h1 h0).2.1 hb.size, (h1 h0).2.2.up hb⟩⟩
theorem Bls.nil {w : World} : Bls w (.slice none 0 0) [] := ⟨none, 0, 0, 0, rfl, fun h => by simp at h⟩
def ThP (w0 : World) (C : OV × List Cf) (y : Value) (w' : World) : Prop := ∃ (l : List Value) (x : Value) (rs : List (List Value)), y = .tuple #[.agg l.toArray, x] ∧ RepV (Fr w0 w') w' (C.1.getD nulV) l ∧ w'.ownsRow w0.heap.size 94 4 x C.2.length rs.flatten ∧ Rws (cfA (Fr w0 w') w') C.2 rs
section
variable {E : V → V → Bool} (hE : ∀ x y, E x y = true ↔ canon x = canon y)
include hE
end
end Go.Dk
end
section
set_option linter.unusedVariables false
set_option linter.unusedSimpArgs false
namespace Go.Dk
open Go Go.RowKit
def ChsA (A : Nat → Prop) (w : World) (s : Value) (l : List Ch) : Prop := ∃ b o, SliceAt A s l.length b o ∧ ∀ i c, l[i]? = some c → ∃ r, RowAt w b (o + i * 29) r ∧ chA A w c r
section
variable {A A' : Nat → Prop} {w w' w0 wb : World} {s : Value} {l : List Ch} {L L' : List (Nat × Obj)} {R R' : List Row} {B : Nat} {c : Ch} {r : List Value} {v : V}
theorem ChsA.mono (hA : ∀ b, A b → A' b) (hk : Keeps A w w') (h : ChsA A w s l) : ChsA A' w' s l := by
  obtain ⟨b, o, hs, hr⟩ := h
  refine ⟨b, o, hs.mono hA, fun i c hc => ?_⟩
  obtain ⟨r, h1, h2⟩ := hr i c hc
  exact ⟨r, h1.keep (hk b (hs.inA (by have := (List.getElem?_eq_some_iff.1 hc).1; omega))), h2.mono hA hk⟩
theorem ChsA.chs (hA : ∀ b, A b → b < w.heap.size) (h : ChsA A w s l) : Chs w s l := by
  obtain ⟨b, o, hs, hr⟩ := h
  refine ⟨b, o, hs.mono hA, fun i c hc => ?_⟩
  obtain ⟨r, h1, h2⟩ := hr i c hc
  exact ⟨r, h1, h2.chg hA⟩
theorem ChsA.form (h : ChsA A w s l) : ∃ a c b o, s = .slice a l.length c ∧ (0 < l.length → a = some ⟨b, o, none⟩) ∧ ∀ i x, l[i]? = some x → ∃ r, RowAt w b (o + i * 29) r ∧ chA A w x r := by
  obtain ⟨b, o, hs, hr⟩ := h
  obtain ⟨a, c, e, ha⟩ := hs.form
  exact ⟨a, c, b, o, e, ha, hr⟩
theorem Chs.toA (h : Chs w s l) : ChsA (F w [] []) w s l := by
  obtain ⟨b, o, hs, hr⟩ := h
  refine ⟨b, o, hs.mono fun b hb => ⟨hb, by simp, by simp⟩, fun i c hc => ?_⟩
  obtain ⟨r, h1, h2⟩ := hr i c hc
  have h3 : chA (fun b => b < w.heap.size) w c r := h2
  exact ⟨r, h1, h3.mono (fun b hb => ⟨hb, by simp, by simp⟩) fun _ _ => rfl⟩
theorem Fz.cha (hz : Fz w L R w' L' R') (h : chA (FX A B w L R) w c r) : chA (FX A B w' L' R') w' c r := h.mono hz.upA hz.kpA
theorem Fz.chsX (hz : Fz w L R w' L' R') {rs : List (List Value)} (h : Rws (chA (FX A B w L R) w) l rs) : Rws (chA (FX A B w' L' R') w') l rs := h.imp fun _ _ h => hz.cha h
theorem Fz.pthX {p : List Stp} (hz : Fz w L R w' L' R') (h : PthA (FX A B w L R) w s p) : PthA (FX A B w' L' R') w' s p := PthA.mono hz.upA hz.kpA h
theorem Fz.chsF (hz : Fz w L R w' L' R') (h : ChsA (F w L R) w s l) : ChsA (F w' L' R') w' s l := h.mono hz.up hz.kp
theorem chgX (cx : Cxr w0 w L R) (hA : ∀ b, A b → b < w0.heap.size) (h : chA A w0 c r) : chA (FX A w0.heap.size w L R) w c r :=
  h.mono (fun b hb => ⟨F.old cx b (hA b hb), .inl hb⟩) fun b hb => cx.ext.block b (hA b hb)
theorem fResC (cx : Cxr wb w L R) (hw : Below w.heap.size w w') (h : ChsA (fun b => F w L R b ∨ Fr w w' b) w' s l) : ChsA (F w' L R) w' s l :=
  h.mono (fun b hb => hb.elim ((Fz.below hw).up b) (F.fresh cx hw.size b)) fun _ _ => rfl
theorem fResV (cx : Cxr wb w L R) (hw : Below w.heap.size w w') (h : RepV (fun b => F w L R b ∨ Fr w w' b) w' v r) : RepV (F w' L R) w' v r :=
  RepV.mono (fun b hb => hb.elim ((Fz.below hw).up b) (F.fresh cx hw.size b)) (fun _ _ => rfl) _ _ h
theorem rowF {b o : Nat} (hz : Fz w L R w' L' R') (h : F w L R b ∧ RowAt w b o r) : F w' L' R' b ∧ RowAt w' b o r := ⟨hz.up b h.1, h.2.keep (hz.kp b h.1)⟩
theorem chsA_of {n : Nat} {rs : List (List Value)} {X : List Value} {x : Value} (cx : Cxr w0 w L (⟨35, 29, x, n, X⟩ :: R)) (hn : n = l.length) (hX : X = rs.flatten) (hc : Rws (chA (FX A w0.heap.size w L (⟨35, 29, x, n, X⟩ :: R)) w) l rs) : ChsA (fun b => A b ∨ Fr w0 w b) w x l := by
  have row : w.ownsRow w0.heap.size 35 29 x n X := cx.head
  subst hX
  subst hn
  rcases row.2 with ⟨rfl, h0⟩ | ⟨g, cap, cur, rfl, hb, hg, hle, _, hcs, htake⟩
  · have : l = [] := List.eq_nil_of_length_eq_zero h0
    subst this
    exact ⟨0, 0, .inl ⟨rfl, rfl⟩, fun i c h => by simp at h⟩
  · have hrow : RowAt w g 0 rs.flatten := by
      intro j x hj
      rw [cell_of_row w g (0 + j) cur _ _ hg]
      rw [← htake] at hj
      rw [List.getElem?_take] at hj
      split at hj
      · simpa using hj
      · cases hj
    refine ⟨g, 0, .inr ⟨_, cap, rfl, hle, fun _ => ⟨rfl, .inr ⟨hb, (Array.getElem?_eq_some_iff.1 hg).1⟩⟩⟩, fun i c hi => ?_⟩
    obtain ⟨r, h1, h2⟩ := Rws.rowAt chA.len hc hrow hi
    exact ⟨r, h1, h2.mono (fun b hb => hb.2.imp id fun h => ⟨h, hb.1.1⟩) fun _ _ => rfl⟩
end
end Go.Dk
end
section
namespace Go.Proofs.Ytmkihcdcgkdilaa
open Go Go.Dk Go.RowKit
set_option linter.unusedSimpArgs false
set_option linter.unusedVariables false
attribute [local irreducible] Go.wpList Go.Code.wp Go.bodyPost Go.wpStill
set_option maxRecDepth 10000 in
theorem c154x (r : Int) (w0 : World) : Fc Try.prog 154 [.int .i64 r] w0 (IsB fun b => b = chF r) := by
  refine ret_enter Try.func154 rfl Try.ntmps154 rfl ?_
  have cx := Ctx.start w0
  refine wp_seq ?_
  refine wp_region_lit ?_
  refine s_val rfl rfl (v_assign rfl rfl) ?_
  refine wpList_nil ?_
  refine wp_seq ?_
  refine wp_region_lit ?_
  refine s_val rfl rfl (v_move rfl rfl) ?_
  refine s_val rfl rfl (v_cmp rfl rfl rfl rfl) ?_
  refine s_val rfl rfl (v_move rfl rfl) ?_
  refine s_gval rfl rfl rfl wT (fun hc => v_move rfl (by first | exact gve hc rfl | exact gve (and_l hc) rfl | exact gve (and_l (and_l hc)) rfl | rfl)) ?_
  refine s_gval rfl rfl rfl wT (fun hc => v_cmp rfl (by first | exact gve hc rfl | exact gve (and_l hc) rfl | exact gve (and_l (and_l hc)) rfl | rfl) rfl rfl) ?_
  refine s_val rfl rfl (v_and rfl rfl rfl rfl) ?_
  refine s_val rfl rfl (v_move rfl rfl) ?_
  refine s_gval rfl rfl rfl wT (fun hc => v_move rfl (by first | exact gve hc rfl | exact gve (and_l hc) rfl | exact gve (and_l (and_l hc)) rfl | rfl)) ?_
  refine s_gval rfl rfl rfl wT (fun hc => v_cmp rfl (by first | exact gve hc rfl | exact gve (and_l hc) rfl | exact gve (and_l (and_l hc)) rfl | rfl) rfl rfl) ?_
  refine s_gval rfl rfl rfl wT (fun hc => v_move rfl (by first | exact gve hc rfl | exact gve (and_l hc) rfl | exact gve (and_l (and_l hc)) rfl | rfl)) ?_
  refine s_gval rfl rfl rfl wF (fun hc => v_move rfl (by first | exact gve hc rfl | exact gve (and_l hc) rfl | exact gve (and_l (and_l hc)) rfl | rfl)) ?_
  refine s_gval rfl rfl rfl wF (fun hc => v_cmp rfl (by first | exact gve hc rfl | exact gve (and_l hc) rfl | exact gve (and_l (and_l hc)) rfl | rfl) rfl rfl) ?_
  refine s_gval rfl rfl rfl wT (fun hc => v_or_g hc rfl rfl rfl rfl) ?_
  refine s_val rfl rfl (v_and rfl rfl rfl rfl) ?_
  refine s_val rfl rfl (v_assign rfl rfl) ?_
  refine wpList_nil ?_
  refine wp_ret ?_
  refine ret_tmp Try.results154 rfl ?_
  exact ⟨cx.ext, _, rfl, rfl⟩
set_option maxRecDepth 10000 in
theorem c142x (r : Int) (w0 : World) : Fc Try.prog 142 [.int .i64 r] w0 (IsB fun b => b = dtF r) := by
  refine ret_enter Try.func142 rfl Try.ntmps142 rfl ?_
  have cx := Ctx.start w0
  refine wp_seq ?_
  refine wp_region_lit ?_
  refine s_val rfl rfl (v_assign rfl rfl) ?_
  refine wpList_nil ?_
  refine wp_seq ?_
  refine wp_region_lit ?_
  refine s_val rfl rfl (v_move rfl rfl) ?_
  refine s_val rfl rfl (v_cmp rfl rfl rfl rfl) ?_
  refine s_val rfl rfl (v_move rfl rfl) ?_
  refine s_gval rfl rfl rfl wF (fun hc => v_move rfl (by first | exact gve hc rfl | exact gve (and_l hc) rfl | exact gve (and_l (and_l hc)) rfl | rfl)) ?_
  refine s_gval rfl rfl rfl wF (fun hc => v_cmp rfl (by first | exact gve hc rfl | exact gve (and_l hc) rfl | exact gve (and_l (and_l hc)) rfl | rfl) rfl rfl) ?_
  refine s_val rfl rfl (v_or rfl rfl rfl rfl) ?_
  refine s_val rfl rfl (v_move rfl rfl) ?_
  refine s_gval rfl rfl rfl wF (fun hc => v_move rfl (by first | exact gve hc rfl | exact gve (and_l hc) rfl | exact gve (and_l (and_l hc)) rfl | rfl)) ?_
  refine s_gval rfl rfl rfl wF (fun hc => v_cmp rfl (by first | exact gve hc rfl | exact gve (and_l hc) rfl | exact gve (and_l (and_l hc)) rfl | rfl) rfl rfl) ?_
  refine s_val rfl rfl (v_or rfl rfl rfl rfl) ?_
  refine s_val rfl rfl (v_assign rfl rfl) ?_
  refine wpList_nil ?_
  refine wp_ret ?_
  refine ret_tmp Try.results142 rfl ?_
  exact ⟨cx.ext, _, rfl, rfl⟩
set_option maxRecDepth 10000 in
theorem c143x (r : Int) (w0 : World) : Fc Try.prog 143 [.int .i64 r] w0 (IsB fun b => b = clF r) := by
  refine ret_enter Try.func143 rfl Try.ntmps143 rfl ?_
  have cx := Ctx.start w0
  refine wp_seq ?_
  refine wp_region_lit ?_
  refine s_val rfl rfl (v_assign rfl rfl) ?_
  refine wpList_nil ?_
  refine wp_seq ?_
  refine wp_region_lit ?_
  refine s_val rfl rfl (v_move rfl rfl) ?_
  refine s_val rfl rfl (v_cmp rfl rfl rfl rfl) ?_
  refine s_val rfl rfl (v_move rfl rfl) ?_
  refine s_gval rfl rfl rfl wF (fun hc => v_move rfl (by first | exact gve hc rfl | exact gve (and_l hc) rfl | exact gve (and_l (and_l hc)) rfl | rfl)) ?_
  refine s_gval rfl rfl rfl wF (fun hc => v_cmp rfl (by first | exact gve hc rfl | exact gve (and_l hc) rfl | exact gve (and_l (and_l hc)) rfl | rfl) rfl rfl) ?_
  refine s_val rfl rfl (v_or rfl rfl rfl rfl) ?_
  refine s_val rfl rfl (v_move rfl rfl) ?_
  refine s_gval rfl rfl rfl wF (fun hc => v_move rfl (by first | exact gve hc rfl | exact gve (and_l hc) rfl | exact gve (and_l (and_l hc)) rfl | rfl)) ?_
  refine s_gval rfl rfl rfl wF (fun hc => v_cmp rfl (by first | exact gve hc rfl | exact gve (and_l hc) rfl | exact gve (and_l (and_l hc)) rfl | rfl) rfl rfl) ?_
  refine s_val rfl rfl (v_or rfl rfl rfl rfl) ?_
  refine s_val rfl rfl (v_assign rfl rfl) ?_
  refine wpList_nil ?_
  refine wp_ret ?_
  refine ret_tmp Try.results143 rfl ?_
  exact ⟨cx.ext, _, rfl, rfl⟩
set_option maxRecDepth 10000 in
theorem c147x (s : ByteArray) (w0 : World) (hs : s.size ≤ 1073741824) : Fc Try.prog 147 [.string s] w0 (IsB fun b => b = true ↔ Dig s) := by
  refine ret_enter Try.func147 rfl Try.ntmps147 rfl ?_
  have cx := Ctx.start w0
  refine wp_seq ?_
  refine wp_region_lit ?_
  refine s_val rfl rfl (v_assign rfl rfl) ?_
  refine wpList_nil ?_
  refine wp_seq ?_
  refine wp_seq ?_
  refine wp_region_lit ?_
  refine s_val rfl rfl (v_assign rfl rfl) ?_
  refine wpList_nil ?_
  refine wp_block ?_
  refine w_loop (fun k f w1 => ∃ i : Nat, k + i = s.size ∧ f 0 = .string s ∧ f 3 = .int .i64 i ∧ (∀ j : Nat, j < i → 48 ≤ byteAt s (j : Int) ∧ byteAt s (j : Int) ≤ 57) ∧ Ctx w0 w1 []) (s.size) ?_ ?_
  · skip
    exact ⟨0, by omega, rfl, rfl, fun j h => by omega, cx⟩
  intro gk2 f w hJ
  obtain ⟨i, hk, hs0, hs3, hall, cx⟩ := hJ
  refine wp_seq ?_
  refine wp_seq ?_
  refine wp_region_lit ?_
  refine s_val rfl rfl (v_move rfl hs3) ?_
  refine s_val rfl rfl (v_move rfl hs0) ?_
  refine s_val rfl rfl (v_lenString rfl rfl Try.underlying9) ?_
  refine s_val rfl rfl (v_cmp rfl rfl rfl rfl) ?_
  refine wpList_nil ?_
  refine c_split rfl (fun hc7 => ?_) (fun hc7 => ?_)
  · skip
    try simp only [bsl] at hc7
    refine wp_skip ?_
    refine wp_seq ?_
    refine wp_block ?_
    refine wp_seq ?_
    refine wp_region_lit ?_
    refine s_val rfl rfl (v_move rfl hs0) ?_
    refine s_val rfl rfl (v_move rfl hs3) ?_
    refine s_val rfl rfl (v_idxStr rfl rfl rfl Try.underlying9 (by omega) (by omega)) ?_
    refine s_val rfl rfl (v_cmp rfl rfl rfl rfl) ?_
    refine s_val rfl rfl (v_move rfl rfl) ?_
    refine s_gval rfl rfl rfl wF (fun hc => v_move rfl hs0) ?_
    refine s_gval rfl rfl rfl wF (fun hc => v_move rfl hs3) ?_
    refine s_gval rfl rfl rfl wF (fun hc => v_idxStr rfl (by first | exact gve hc rfl | exact gve (and_l hc) rfl | exact gve (and_l (and_l hc)) rfl | rfl) (by first | exact gve hc rfl | exact gve (and_l hc) rfl | exact gve (and_l (and_l hc)) rfl | rfl) Try.underlying9 (by first | omega | (simp only [bsl] at hc; omega)) (by first | omega | (simp only [bsl] at hc; omega))) ?_
    refine s_gval rfl rfl rfl wF (fun hc => v_cmp rfl (by first | exact gve hc rfl | exact gve (and_l hc) rfl | exact gve (and_l (and_l hc)) rfl | rfl) rfl rfl) ?_
    refine s_val rfl rfl (v_or rfl rfl rfl rfl) ?_
    refine wpList_nil ?_
    refine c_split rfl (fun hc19 => ?_) (fun hc19 => ?_)
    · skip
      try simp only [bsl] at hc19
      refine wp_seq ?_
      refine wp_region_lit ?_
      refine s_val rfl rfl (v_assign rfl rfl) ?_
      refine wpList_nil ?_
      refine wp_ret ?_
      refine ret_tmp Try.results147 rfl ?_
      refine ⟨cx.ext, _, rfl, (fun h => by cases h), fun h => ?_⟩
      have hd := h i (by omega)
      rcases hc19 with h2 | h2 <;> omega
    try simp only [bsl] at hc19
    refine wp_skip ?_
    refine wp_region_lit ?_
    refine s_val rfl rfl (v_move rfl hs3) ?_
    refine s_val rfl rfl (v_add rfl rfl rfl (by omega) (by omega)) ?_
    refine s_val rfl rfl (v_assign rfl rfl) ?_
    refine wpList_nil ?_
    refine ⟨gk2 - 1, _, by omega, rfl, i + 1, by omega, hs0, rfl, fun j hj => ?_, cx⟩
    rcases Nat.lt_or_ge j i with h | h
    · exact hall j h
    · obtain rfl : j = i := by omega
      omega
  try simp only [bsl] at hc7
  refine wp_exit ?_
  refine wp_seq ?_
  refine wp_region_lit ?_
  refine s_val rfl rfl (v_assign rfl rfl) ?_
  refine wpList_nil ?_
  refine wp_ret ?_
  refine ret_tmp Try.results147 rfl ?_
  refine ⟨cx.ext, _, rfl, fun _ j hj => hall j (by omega), fun _ => rfl⟩
set_option maxRecDepth 10000 in
theorem c126x (s : ByteArray) (w0 : World) (hs : s.size ≤ 1073741824) : Fc Try.prog 126 [.string s] w0 (IsI fun m => m = 0 ↔ Zr s) := by
  refine ret_enter Try.func126 rfl Try.ntmps126 rfl ?_
  have cx := Ctx.start w0
  refine wp_seq ?_
  refine wp_region_lit ?_
  refine s_val rfl rfl (v_assign rfl rfl) ?_
  refine wpList_nil ?_
  refine wp_seq ?_
  refine wp_region_lit ?_
  refine s_val rfl rfl (v_assign rfl rfl) ?_
  refine wpList_nil ?_
  refine wp_seq ?_
  refine wp_block ?_
  refine w_loop (fun k f w1 => ∃ i : Nat, k + i = s.size ∧ f 0 = .string s ∧ f 3 = .int .i64 i ∧ (0 < i → byteAt s ((s.size : Int) - 1 - 0) = 48) ∧ Ctx w0 w1 []) (s.size) ?_ ?_
  · skip
    exact ⟨0, by omega, rfl, rfl, fun h => by omega, cx⟩
  intro gk2 f w hJ
  obtain ⟨i, hk, hs0, hs3, hz, cx⟩ := hJ
  refine wp_seq ?_
  refine wp_seq ?_
  refine wp_region_lit ?_
  refine s_val rfl rfl (v_move rfl hs3) ?_
  refine s_val rfl rfl (v_move rfl hs0) ?_
  refine s_val rfl rfl (v_lenString rfl rfl Try.underlying9) ?_
  refine s_val rfl rfl (v_cmp rfl rfl rfl rfl) ?_
  refine s_val rfl rfl (v_move rfl rfl) ?_
  refine s_gval rfl rfl rfl wT (fun hc => v_move rfl hs0) ?_
  refine s_gval rfl rfl rfl wT (fun hc => v_move rfl hs0) ?_
  refine s_gval rfl rfl rfl wT (fun hc => v_lenString rfl (by first | exact gve hc rfl | exact gve (and_l hc) rfl | exact gve (and_l (and_l hc)) rfl | rfl) Try.underlying9) ?_
  refine s_gval rfl rfl rfl wT (fun hc => v_sub rfl (by first | exact gve hc rfl | exact gve (and_l hc) rfl | exact gve (and_l (and_l hc)) rfl | rfl) rfl (by first | omega | (simp only [bsl] at hc; omega)) (by first | omega | (simp only [bsl] at hc; omega))) ?_
  refine s_gval rfl rfl rfl wT (fun hc => v_move rfl hs3) ?_
  refine s_gval rfl rfl rfl wT (fun hc => v_sub rfl (by first | exact gve hc rfl | exact gve (and_l hc) rfl | exact gve (and_l (and_l hc)) rfl | rfl) (by first | exact gve hc rfl | exact gve (and_l hc) rfl | exact gve (and_l (and_l hc)) rfl | rfl) (by first | omega | (simp only [bsl] at hc; omega)) (by first | omega | (simp only [bsl] at hc; omega))) ?_
  refine s_gval rfl rfl rfl wT (fun hc => v_idxStr rfl (by first | exact gve hc rfl | exact gve (and_l hc) rfl | exact gve (and_l (and_l hc)) rfl | rfl) (by first | exact gve hc rfl | exact gve (and_l hc) rfl | exact gve (and_l (and_l hc)) rfl | rfl) Try.underlying9 (by first | omega | (simp only [bsl] at hc; omega)) (by first | omega | (simp only [bsl] at hc; omega))) ?_
  refine s_gval rfl rfl rfl wT (fun hc => v_cmp rfl (by first | exact gve hc rfl | exact gve (and_l hc) rfl | exact gve (and_l (and_l hc)) rfl | rfl) rfl rfl) ?_
  refine s_val rfl rfl (v_and rfl rfl rfl rfl) ?_
  refine wpList_nil ?_
  refine c_split rfl (fun hc17 => ?_) (fun hc17 => ?_)
  · skip
    try simp only [bsl] at hc17
    refine wp_skip ?_
    refine wp_block ?_
    refine wp_region_lit ?_
    refine s_val rfl rfl (v_move rfl hs3) ?_
    refine s_val rfl rfl (v_add rfl rfl rfl (by omega) (by omega)) ?_
    refine s_val rfl rfl (v_assign rfl rfl) ?_
    refine wpList_nil ?_
    refine ⟨gk2 - 1, _, by omega, rfl, i + 1, by omega, hs0, rfl, fun _ => ?_, cx⟩
    rcases Nat.eq_zero_or_pos i with h0 | h0
    · subst h0; exact hc17.2
    · exact hz h0
  try simp only [bsl] at hc17
  refine wp_exit ?_
  refine wp_seq ?_
  refine wp_region_lit ?_
  refine s_val rfl rfl (v_move rfl hs3) ?_
  refine s_val rfl rfl (v_assign rfl rfl) ?_
  refine wpList_nil ?_
  refine wp_ret ?_
  refine ret_tmp Try.results126 rfl ?_
  refine ⟨cx.ext, _, rfl, fun h => ?_, fun h => ?_⟩
  · obtain rfl : i = 0 := by omega
    rcases hc17 with h2 | h2
    · exact .inl (by omega)
    · exact .inr h2
  · rcases Nat.eq_zero_or_pos i with h0 | h0
    · subst h0; rfl
    · exfalso
      have := hz h0
      rcases h with h | h
      · omega
      · exact h this
set_option maxRecDepth 10000 in
theorem c141x (s : ByteArray) (w0 : World) (hs : s.size ≤ 1073741824) : Fc Try.prog 141 [.string s] w0 (IsB fun b => b = true ↔ R1v s) := by
  refine ret_enter Try.func141 rfl Try.ntmps141 rfl ?_
  have cx := Ctx.start w0
  refine wp_seq ?_
  refine wp_region_lit ?_
  refine s_val rfl rfl (v_assign rfl rfl) ?_
  refine wpList_nil ?_
  refine wp_seq ?_
  refine wp_region_lit ?_
  refine s_val rfl rfl (v_move rfl rfl) ?_
  refine s_val rfl rfl (v_lenString rfl rfl Try.underlying9) ?_
  refine s_val rfl rfl (v_cmp rfl rfl rfl rfl) ?_
  refine s_val rfl rfl (v_move rfl rfl) ?_
  refine s_gval rfl rfl rfl wT (fun hc => v_move rfl (by first | exact gve hc rfl | exact gve (and_l hc) rfl | exact gve (and_l (and_l hc)) rfl | rfl)) ?_
  refine s_gfnB cx rfl rfl rfl wT (fun hc => c147x _ _ (by omega)) Try.func147 rfl rfl rfl (fun hc => cons_eq (by first | exact gve hc rfl | exact gve (and_l hc) rfl | rfl) rfl) ?_; intro q8 w cx hw8 hp8
  refine s_val rfl rfl (v_and rfl rfl rfl rfl) ?_
  refine s_val rfl rfl (v_move rfl rfl) ?_
  refine s_gval rfl rfl rfl wT (fun hc => v_move rfl (by first | exact gve hc rfl | exact gve (and_l hc) rfl | exact gve (and_l (and_l hc)) rfl | rfl)) ?_
  refine s_gval rfl rfl rfl wT (fun hc => v_lenString rfl (by first | exact gve hc rfl | exact gve (and_l hc) rfl | exact gve (and_l (and_l hc)) rfl | rfl) Try.underlying9) ?_
  refine s_gval rfl rfl rfl wT (fun hc => v_cmp rfl (by first | exact gve hc rfl | exact gve (and_l hc) rfl | exact gve (and_l (and_l hc)) rfl | rfl) rfl rfl) ?_
  refine s_gval rfl rfl rfl wT (fun hc => v_move rfl (by first | exact gve hc rfl | exact gve (and_l hc) rfl | exact gve (and_l (and_l hc)) rfl | rfl)) ?_
  refine s_gval rfl rfl rfl wF (fun hc => v_move rfl (by first | exact gve hc rfl | exact gve (and_l hc) rfl | exact gve (and_l (and_l hc)) rfl | rfl)) ?_
  refine s_gval rfl rfl rfl wF (fun hc => v_idxStr rfl (by first | exact gve hc rfl | exact gve (and_l hc) rfl | exact gve (and_l (and_l hc)) rfl | rfl) rfl Try.underlying9 (by first | omega | (simp only [bsl] at hc; omega)) (by first | omega | (simp only [bsl] at hc; omega))) ?_
  refine s_gval rfl rfl rfl wF (fun hc => v_cmp rfl (by first | exact gve hc rfl | exact gve (and_l hc) rfl | exact gve (and_l (and_l hc)) rfl | rfl) rfl rfl) ?_
  refine s_gval rfl rfl rfl wT (fun hc => v_or_g hc rfl rfl rfl rfl) ?_
  refine s_val rfl rfl (v_and rfl rfl rfl rfl) ?_
  refine s_val rfl rfl (v_assign rfl rfl) ?_
  refine wpList_nil ?_
  refine wp_ret ?_
  refine ret_tmp Try.results141 rfl ?_
  refine ⟨cx.ext, _, rfl, ?_⟩
  simp only [Bool.and_eq_true, Bool.or_eq_true, decide_eq_true_eq, beq_iff_eq, bne_iff_ne, ne_eq]
  unfold R1v
  constructor
  · rintro ⟨⟨h1, h2⟩, h3⟩
    exact ⟨by omega, (hp8 (decide_eq_true h1)).1 h2, h3.imp (fun h => by omega) id⟩
  · rintro ⟨h1, h2, h3⟩
    have h1' : (s.size : Int) ≤ 600 := by omega
    exact ⟨⟨h1', (hp8 (decide_eq_true h1')).2 h2⟩, h3.imp (fun h => by omega) id⟩
set_option maxRecDepth 10000 in
theorem c133x (a b c d : Int) (w0 : World) : Fc Try.prog 133 [.agg #[.int .i64 a, .int .i64 b, .int .i64 c, .int .i64 d]] w0 (IsB fun r => r = true ↔ VM a b c d) := by
  refine ret_enter Try.func133 rfl Try.ntmps133 rfl ?_
  have cx := Ctx.start w0
  refine wp_seq ?_
  refine wp_region_lit ?_
  refine s_box cx rfl rfl rfl rfl rfl ?_; intro b1 w cx hb1 hw1
  refine s_val rfl rfl (v_assign rfl rfl) ?_
  refine wpList_nil ?_
  refine wp_seq ?_
  refine wp_seq ?_
  refine wp_region_lit ?_
  refine s_val rfl rfl (v_fa fa28_0 rfl rfl) ?_
  refine s_val rfl rfl (v_load1 rfl rfl Try.underlying3 rfl (cx.cell 0 rfl rfl)) ?_
  refine s_val rfl rfl (v_cmp rfl rfl rfl rfl) ?_
  refine s_val rfl rfl (v_move rfl rfl) ?_
  refine s_gval rfl rfl rfl wF (fun hc => v_fa fa28_0 rfl (by first | exact gve hc rfl | exact gve (and_l hc) rfl | exact gve (and_l (and_l hc)) rfl | rfl)) ?_
  refine s_gval rfl rfl rfl wF (fun hc => v_load1 rfl (by first | exact gve hc rfl | exact gve (and_l hc) rfl | exact gve (and_l (and_l hc)) rfl | rfl) Try.underlying3 rfl (cx.cell 0 rfl rfl)) ?_
  refine s_gval rfl rfl rfl wF (fun hc => v_cmp rfl (by first | exact gve hc rfl | exact gve (and_l hc) rfl | exact gve (and_l (and_l hc)) rfl | rfl) rfl rfl) ?_
  refine s_val rfl rfl (v_or rfl rfl rfl rfl) ?_
  refine s_val rfl rfl (v_move rfl rfl) ?_
  refine s_gval rfl rfl rfl wF (fun hc => v_fa fa28_1 rfl (by first | exact gve hc rfl | exact gve (and_l hc) rfl | exact gve (and_l (and_l hc)) rfl | rfl)) ?_
  refine s_gval rfl rfl rfl wF (fun hc => v_load1 rfl (by first | exact gve hc rfl | exact gve (and_l hc) rfl | exact gve (and_l (and_l hc)) rfl | rfl) Try.underlying3 rfl (cx.cell 0 rfl rfl)) ?_
  refine s_gval rfl rfl rfl wF (fun hc => v_cmp rfl (by first | exact gve hc rfl | exact gve (and_l hc) rfl | exact gve (and_l (and_l hc)) rfl | rfl) rfl rfl) ?_
  refine s_val rfl rfl (v_or rfl rfl rfl rfl) ?_
  refine s_val rfl rfl (v_move rfl rfl) ?_
  refine s_gval rfl rfl rfl wF (fun hc => v_fa fa28_1 rfl (by first | exact gve hc rfl | exact gve (and_l hc) rfl | exact gve (and_l (and_l hc)) rfl | rfl)) ?_
  refine s_gval rfl rfl rfl wF (fun hc => v_load1 rfl (by first | exact gve hc rfl | exact gve (and_l hc) rfl | exact gve (and_l (and_l hc)) rfl | rfl) Try.underlying3 rfl (cx.cell 0 rfl rfl)) ?_
  refine s_gval rfl rfl rfl wF (fun hc => v_cmp rfl (by first | exact gve hc rfl | exact gve (and_l hc) rfl | exact gve (and_l (and_l hc)) rfl | rfl) rfl rfl) ?_
  refine s_val rfl rfl (v_or rfl rfl rfl rfl) ?_
  refine s_val rfl rfl (v_move rfl rfl) ?_
  refine s_gval rfl rfl rfl wF (fun hc => v_fa fa28_2 rfl (by first | exact gve hc rfl | exact gve (and_l hc) rfl | exact gve (and_l (and_l hc)) rfl | rfl)) ?_
  refine s_gval rfl rfl rfl wF (fun hc => v_load1 rfl (by first | exact gve hc rfl | exact gve (and_l hc) rfl | exact gve (and_l (and_l hc)) rfl | rfl) Try.underlying3 rfl (cx.cell 0 rfl rfl)) ?_
  refine s_gval rfl rfl rfl wF (fun hc => v_cmp rfl (by first | exact gve hc rfl | exact gve (and_l hc) rfl | exact gve (and_l (and_l hc)) rfl | rfl) rfl rfl) ?_
  refine s_val rfl rfl (v_or rfl rfl rfl rfl) ?_
  refine s_val rfl rfl (v_move rfl rfl) ?_
  refine s_gval rfl rfl rfl wF (fun hc => v_fa fa28_2 rfl (by first | exact gve hc rfl | exact gve (and_l hc) rfl | exact gve (and_l (and_l hc)) rfl | rfl)) ?_
  refine s_gval rfl rfl rfl wF (fun hc => v_load1 rfl (by first | exact gve hc rfl | exact gve (and_l hc) rfl | exact gve (and_l (and_l hc)) rfl | rfl) Try.underlying3 rfl (cx.cell 0 rfl rfl)) ?_
  refine s_gval rfl rfl rfl wF (fun hc => v_cmp rfl (by first | exact gve hc rfl | exact gve (and_l hc) rfl | exact gve (and_l (and_l hc)) rfl | rfl) rfl rfl) ?_
  refine s_val rfl rfl (v_or rfl rfl rfl rfl) ?_
  refine s_val rfl rfl (v_move rfl rfl) ?_
  refine s_gval rfl rfl rfl wF (fun hc => v_fa fa28_3 rfl (by first | exact gve hc rfl | exact gve (and_l hc) rfl | exact gve (and_l (and_l hc)) rfl | rfl)) ?_
  refine s_gval rfl rfl rfl wF (fun hc => v_load1 rfl (by first | exact gve hc rfl | exact gve (and_l hc) rfl | exact gve (and_l (and_l hc)) rfl | rfl) Try.underlying3 rfl (cx.cell 0 rfl rfl)) ?_
  refine s_gval rfl rfl rfl wF (fun hc => v_cmp rfl (by first | exact gve hc rfl | exact gve (and_l hc) rfl | exact gve (and_l (and_l hc)) rfl | rfl) rfl rfl) ?_
  refine s_val rfl rfl (v_or rfl rfl rfl rfl) ?_
  refine s_val rfl rfl (v_move rfl rfl) ?_
  refine s_gval rfl rfl rfl wF (fun hc => v_fa fa28_3 rfl (by first | exact gve hc rfl | exact gve (and_l hc) rfl | exact gve (and_l (and_l hc)) rfl | rfl)) ?_
  refine s_gval rfl rfl rfl wF (fun hc => v_load1 rfl (by first | exact gve hc rfl | exact gve (and_l hc) rfl | exact gve (and_l (and_l hc)) rfl | rfl) Try.underlying3 rfl (cx.cell 0 rfl rfl)) ?_
  refine s_gval rfl rfl rfl wF (fun hc => v_cmp rfl (by first | exact gve hc rfl | exact gve (and_l hc) rfl | exact gve (and_l (and_l hc)) rfl | rfl) rfl rfl) ?_
  refine s_val rfl rfl (v_or rfl rfl rfl rfl) ?_
  refine wpList_nil ?_
  refine c_split rfl (fun hc40 => ?_) (fun hc40 => ?_)
  · skip
    try simp only [bsl] at hc40
    refine wp_seq ?_
    refine wp_region_lit ?_
    refine s_val rfl rfl (v_assign rfl rfl) ?_
    refine wpList_nil ?_
    refine wp_ret ?_
    refine ret_tmp Try.results133 rfl ?_
    refine ⟨cx.ext, _, rfl, (fun h => by cases h), fun h => ?_⟩
    exfalso
    obtain ⟨h1, h2, h3, h4, h5, h6, h7, h8⟩ := h.1
    rcases hc40 with ((((((h | h) | h) | h) | h) | h) | h) | h <;> omega
  try simp only [bsl] at hc40
  refine wp_skip ?_
  refine wp_seq ?_
  refine wp_region_lit ?_
  refine s_val rfl rfl (v_fa fa28_0 rfl rfl) ?_
  refine s_val rfl rfl (v_load1 rfl rfl Try.underlying3 rfl (cx.cell 0 rfl rfl)) ?_
  refine s_fnB cx (c142x _ _) Try.func142 rfl rfl rfl rfl rfl rfl ?_; intro q43 w cx hw43 hp43
  refine s_val rfl rfl (v_move rfl rfl) ?_
  refine s_gval rfl rfl rfl wF (fun hc => v_fa fa28_1 rfl (by first | exact gve hc rfl | exact gve (and_l hc) rfl | exact gve (and_l (and_l hc)) rfl | rfl)) ?_
  refine s_gval rfl rfl rfl wF (fun hc => v_load1 rfl (by first | exact gve hc rfl | exact gve (and_l hc) rfl | exact gve (and_l (and_l hc)) rfl | rfl) Try.underlying3 rfl (cx.cell 0 rfl rfl)) ?_
  refine s_gval rfl rfl rfl wF (fun hc => v_cmp rfl (by first | exact gve hc rfl | exact gve (and_l hc) rfl | exact gve (and_l (and_l hc)) rfl | rfl) rfl rfl) ?_
  refine s_val rfl rfl (v_or rfl rfl rfl rfl) ?_
  refine s_val rfl rfl (v_move rfl rfl) ?_
  refine s_gval rfl rfl rfl wT (fun hc => v_fa fa28_0 rfl (by first | exact gve hc rfl | exact gve (and_l hc) rfl | exact gve (and_l (and_l hc)) rfl | rfl)) ?_
  refine s_gval rfl rfl rfl wT (fun hc => v_load1 rfl (by first | exact gve hc rfl | exact gve (and_l hc) rfl | exact gve (and_l (and_l hc)) rfl | rfl) Try.underlying3 rfl (cx.cell 0 rfl rfl)) ?_
  refine s_gfnB cx rfl rfl rfl wT (fun hc => c143x _ _) Try.func143 rfl rfl rfl (fun hc => cons_eq (by first | exact gve hc rfl | exact gve (and_l hc) rfl | rfl) rfl) ?_; intro q52 w cx hw52 hp52
  refine s_gval rfl rfl rfl wT (fun hc => v_move rfl (by first | exact gve hc rfl | exact gve (and_l hc) rfl | exact gve (and_l (and_l hc)) rfl | rfl)) ?_
  refine s_gval rfl rfl rfl wF (fun hc => v_fa fa28_2 rfl (by first | exact gve hc rfl | exact gve (and_l hc) rfl | exact gve (and_l (and_l hc)) rfl | rfl)) ?_
  refine s_gval rfl rfl rfl wF (fun hc => v_load1 rfl (by first | exact gve hc rfl | exact gve (and_l hc) rfl | exact gve (and_l (and_l hc)) rfl | rfl) Try.underlying3 rfl (cx.cell 0 rfl rfl)) ?_
  refine s_gval rfl rfl rfl wF (fun hc => v_cmp rfl (by first | exact gve hc rfl | exact gve (and_l hc) rfl | exact gve (and_l (and_l hc)) rfl | rfl) rfl rfl) ?_
  refine s_gval rfl rfl rfl wT (fun hc => v_or_g hc rfl rfl rfl rfl) ?_
  refine s_val rfl rfl (v_and rfl rfl rfl rfl) ?_
  refine s_val rfl rfl (v_move rfl rfl) ?_
  refine s_gval rfl rfl rfl wT (fun hc => v_fa fa28_0 rfl (by first | exact gve hc rfl | exact gve (and_l hc) rfl | exact gve (and_l (and_l hc)) rfl | rfl)) ?_
  refine s_gval rfl rfl rfl wT (fun hc => v_load1 rfl (by first | exact gve hc rfl | exact gve (and_l hc) rfl | exact gve (and_l (and_l hc)) rfl | rfl) Try.underlying3 rfl (cx.cell 0 rfl rfl)) ?_
  refine s_gval rfl rfl rfl wT (fun hc => v_cmp rfl (by first | exact gve hc rfl | exact gve (and_l hc) rfl | exact gve (and_l (and_l hc)) rfl | rfl) rfl rfl) ?_
  refine s_gval rfl rfl rfl wT (fun hc => v_move rfl (by first | exact gve hc rfl | exact gve (and_l hc) rfl | exact gve (and_l (and_l hc)) rfl | rfl)) ?_
  refine s_gval rfl rfl rfl wF (fun hc => v_fa fa28_3 rfl (by first | exact gve hc rfl | exact gve (and_l hc) rfl | exact gve (and_l (and_l hc)) rfl | rfl)) ?_
  refine s_gval rfl rfl rfl wF (fun hc => v_load1 rfl (by first | exact gve hc rfl | exact gve (and_l hc) rfl | exact gve (and_l (and_l hc)) rfl | rfl) Try.underlying3 rfl (cx.cell 0 rfl rfl)) ?_
  refine s_gval rfl rfl rfl wF (fun hc => v_cmp rfl (by first | exact gve hc rfl | exact gve (and_l hc) rfl | exact gve (and_l (and_l hc)) rfl | rfl) rfl rfl) ?_
  refine s_gval rfl rfl rfl wT (fun hc => v_or_g hc rfl rfl rfl rfl) ?_
  refine s_val rfl rfl (v_and rfl rfl rfl rfl) ?_
  refine s_val rfl rfl (v_assign rfl rfl) ?_
  refine wpList_nil ?_
  refine wp_ret ?_
  refine ret_tmp Try.results133 rfl ?_
  refine ⟨cx.ext, _, rfl, ?_⟩
  simp only [Bool.and_eq_true, Bool.or_eq_true, beq_iff_eq]
  unfold VM
  constructor
  · rintro ⟨⟨h1, h2⟩, h3⟩
    refine ⟨by omega, ?_, ?_, h3⟩
    · rcases h1 with h1 | h1
      · exact .inl (by rw [← hp43]; exact h1)
      · exact .inr h1
    · rcases h2 with h2 | h2
      · exact .inl (by rw [← hp52 (by simpa using h1)]; exact h2)
      · exact .inr h2
  · rintro ⟨_, h1, h2, h3⟩
    have h1' : q43 = true ∨ b = 0 := h1.imp (fun h => by rw [hp43]; exact h) id
    exact ⟨⟨h1', h2.imp (fun h => by rw [hp52 (by simpa using h1')]; exact h) id⟩, h3⟩
set_option maxRecDepth 10000 in
theorem c132x (a : Bool) (s : ByteArray) (c : Int) (w0 : World) (hs : s.size ≤ 1073741824) : Fc Try.prog 132 [.agg #[.bool a, .string s, .int .i64 c]] w0 (IsB fun b => b = true ↔ VN a s c) := by
  refine ret_enter Try.func132 rfl Try.ntmps132 rfl ?_
  have cx := Ctx.start w0
  refine wp_seq ?_
  refine wp_region_lit ?_
  refine s_box cx rfl rfl rfl rfl rfl ?_; intro b1 w cx hb1 hw1
  refine s_val rfl rfl (v_assign rfl rfl) ?_
  refine wpList_nil ?_
  refine wp_seq ?_
  refine wp_seq ?_
  refine wp_region_lit ?_
  refine s_val rfl rfl (v_fa fa26_1 rfl rfl) ?_
  refine s_val rfl rfl (v_load1 rfl rfl Try.underlying9 rfl (cx.cell 0 rfl rfl)) ?_
  refine s_val rfl rfl (v_strEq rfl rfl rfl) ?_
  refine wpList_nil ?_
  refine c_split rfl (fun hc5 => ?_) (fun hc5 => ?_)
  · skip
    try simp only [bsl] at hc5
    refine wp_seq ?_
    refine wp_region_lit ?_
    refine s_val rfl rfl (v_fa fa26_0 rfl rfl) ?_
    refine s_val rfl rfl (v_load1 rfl rfl Try.underlying4 rfl (cx.cell 0 rfl rfl)) ?_
    refine s_val rfl rfl (v_not rfl rfl) ?_
    refine s_val rfl rfl (v_move rfl rfl) ?_
    refine s_gval rfl rfl rfl wT (fun hc => v_fa fa26_2 rfl (by first | exact gve hc rfl | exact gve (and_l hc) rfl | exact gve (and_l (and_l hc)) rfl | rfl)) ?_
    refine s_gval rfl rfl rfl wT (fun hc => v_load1 rfl (by first | exact gve hc rfl | exact gve (and_l hc) rfl | exact gve (and_l (and_l hc)) rfl | rfl) Try.underlying3 rfl (cx.cell 0 rfl rfl)) ?_
    refine s_gval rfl rfl rfl wT (fun hc => v_cmp rfl (by first | exact gve hc rfl | exact gve (and_l hc) rfl | exact gve (and_l (and_l hc)) rfl | rfl) rfl rfl) ?_
    refine s_val rfl rfl (v_and rfl rfl rfl rfl) ?_
    refine s_val rfl rfl (v_assign rfl rfl) ?_
    refine wpList_nil ?_
    refine wp_ret ?_
    refine ret_tmp Try.results132 rfl ?_
    refine ⟨cx.ext, _, rfl, ?_⟩
    simp only [Bool.and_eq_true, Bool.not_eq_true', beq_iff_eq]
    unfold VN
    constructor
    · rintro ⟨h1, h2⟩
      exact .inl ⟨hc5, h1, h2⟩
    · rintro (⟨_, h1, h2⟩ | ⟨h0, _⟩)
      · exact ⟨h1, h2⟩
      · exact absurd hc5 h0
  try simp only [bsl] at hc5
  refine wp_skip ?_
  refine wp_seq ?_
  refine wp_region_lit ?_
  refine s_val rfl rfl (v_fa fa26_1 rfl rfl) ?_
  refine s_val rfl rfl (v_load1 rfl rfl Try.underlying9 rfl (cx.cell 0 rfl rfl)) ?_
  refine s_val rfl rfl (v_lenString rfl rfl Try.underlying9) ?_
  refine s_val rfl rfl (v_cmp rfl rfl rfl rfl) ?_
  refine s_val rfl rfl (v_move rfl rfl) ?_
  refine s_gval rfl rfl rfl wT (fun hc => v_fa fa26_1 rfl (by first | exact gve hc rfl | exact gve (and_l hc) rfl | exact gve (and_l (and_l hc)) rfl | rfl)) ?_
  refine s_gval rfl rfl rfl wT (fun hc => v_load1 rfl (by first | exact gve hc rfl | exact gve (and_l hc) rfl | exact gve (and_l (and_l hc)) rfl | rfl) Try.underlying9 rfl (cx.cell 0 rfl rfl)) ?_
  refine s_gfnB cx rfl rfl rfl wT (fun hc => c141x _ _ (by omega)) Try.func141 rfl rfl rfl (fun hc => cons_eq (by first | exact gve hc rfl | exact gve (and_l hc) rfl | rfl) rfl) ?_; intro q21 w cx hw21 hp21
  refine s_val rfl rfl (v_and rfl rfl rfl rfl) ?_
  refine s_val rfl rfl (v_move rfl rfl) ?_
  refine s_gval rfl rfl rfl wT (fun hc => v_fa fa26_1 rfl (by first | exact gve hc rfl | exact gve (and_l hc) rfl | exact gve (and_l (and_l hc)) rfl | rfl)) ?_
  refine s_gval rfl rfl rfl wT (fun hc => v_load1 rfl (by first | exact gve hc rfl | exact gve (and_l hc) rfl | exact gve (and_l (and_l hc)) rfl | rfl) Try.underlying9 rfl (cx.cell 0 rfl rfl)) ?_
  refine s_gfnI cx rfl rfl rfl wT (fun hc => c126x _ _ (by omega)) Try.func126 rfl rfl rfl (fun hc => cons_eq (by first | exact gve hc rfl | exact gve (and_l hc) rfl | rfl) rfl) ?_; intro q26 w cx hw26 hp26
  refine s_gval rfl rfl rfl wT (fun hc => v_cmp rfl (by first | exact gve hc rfl | exact gve (and_l hc) rfl | exact gve (and_l (and_l hc)) rfl | rfl) rfl rfl) ?_
  refine s_val rfl rfl (v_and rfl rfl rfl rfl) ?_
  refine s_val rfl rfl (v_move rfl rfl) ?_
  refine s_gval rfl rfl rfl wT (fun hc => v_fa fa26_2 rfl (by first | exact gve hc rfl | exact gve (and_l hc) rfl | exact gve (and_l (and_l hc)) rfl | rfl)) ?_
  refine s_gval rfl rfl rfl wT (fun hc => v_load1 rfl (by first | exact gve hc rfl | exact gve (and_l hc) rfl | exact gve (and_l (and_l hc)) rfl | rfl) Try.underlying3 rfl (cx.cell 0 rfl rfl)) ?_
  refine s_gval rfl rfl rfl wT (fun hc => v_cmp rfl (by first | exact gve hc rfl | exact gve (and_l hc) rfl | exact gve (and_l (and_l hc)) rfl | rfl) rfl rfl) ?_
  refine s_val rfl rfl (v_and rfl rfl rfl rfl) ?_
  refine s_val rfl rfl (v_move rfl rfl) ?_
  refine s_gval rfl rfl rfl wT (fun hc => v_fa fa26_2 rfl (by first | exact gve hc rfl | exact gve (and_l hc) rfl | exact gve (and_l (and_l hc)) rfl | rfl)) ?_
  refine s_gval rfl rfl rfl wT (fun hc => v_load1 rfl (by first | exact gve hc rfl | exact gve (and_l hc) rfl | exact gve (and_l (and_l hc)) rfl | rfl) Try.underlying3 rfl (cx.cell 0 rfl rfl)) ?_
  refine s_gval rfl rfl rfl wT (fun hc => v_cmp rfl (by first | exact gve hc rfl | exact gve (and_l hc) rfl | exact gve (and_l (and_l hc)) rfl | rfl) rfl rfl) ?_
  refine s_val rfl rfl (v_and rfl rfl rfl rfl) ?_
  refine s_val rfl rfl (v_assign rfl rfl) ?_
  refine wpList_nil ?_
  refine wp_ret ?_
  refine ret_tmp Try.results132 rfl ?_
  refine ⟨cx.ext, _, rfl, ?_⟩
  simp only [Bool.and_eq_true, decide_eq_true_eq, beq_iff_eq]
  unfold VN
  constructor
  · rintro ⟨⟨⟨⟨h1, h2⟩, h3⟩, h4⟩, h5⟩
    have e1 : decide ((s.size : Int) ≤ 120) = true := by simpa using h1
    refine .inr ⟨hc5, by omega, (hp21 e1).1 h2, (hp26 ?_).1 h3, h4, h5⟩
    rw [e1, h2]; rfl
  · rintro (⟨h0, _⟩ | ⟨_, h1, h2, h3, h4, h5⟩)
    · exact absurd h0 hc5
    · have e1 : decide ((s.size : Int) ≤ 120) = true := by rw [decide_eq_true_eq]; omega
      have e2 : q21 = true := (hp21 e1).2 h2
      exact ⟨⟨⟨⟨by omega, e2⟩, (hp26 (by rw [e1, e2]; rfl)).2 h3⟩, h4⟩, h5⟩
set_option maxRecDepth 10000 in
theorem c152x (r : Int) (w0 : World) : Fc Try.prog 152 [.int .i64 r] w0 (fun v _ => v = .tuple #[.string (encF r).1, .int .i64 (encF r).2]) := by
  refine ret_enter Try.func152 rfl Try.ntmps152 rfl ?_
  have cx := Ctx.start w0
  refine wp_seq ?_
  refine wp_region_lit ?_
  refine s_val rfl rfl (v_assign rfl rfl) ?_
  refine s_val rfl rfl (v_assign rfl rfl) ?_
  refine wpList_nil ?_
  refine wp_seq ?_
  refine wp_block ?_
  refine wp_seq ?_
  refine wp_region_lit ?_
  refine s_val rfl rfl (v_move rfl rfl) ?_
  refine s_fnB cx (c154x _ _) Try.func154 rfl rfl rfl rfl rfl rfl ?_; intro q6 w cx hw6 hp6
  refine s_val rfl rfl (v_not rfl rfl) ?_
  refine s_val rfl rfl (v_assign rfl rfl) ?_
  refine wpList_nil ?_
  refine c_split rfl (fun hc4 => ?_) (fun hc4 => ?_)
  · skip
    have hch : chF r = false := by rw [← hp6]; simpa using hc4
    refine wp_seq ?_
    refine wp_region_lit ?_
    refine s_val rfl rfl (v_assign rfl rfl) ?_
    refine s_val rfl rfl (v_assign rfl rfl) ?_
    refine wpList_nil ?_
    refine wp_ret ?_
    refine ret_tmp2 Try.results152 rfl rfl ?_
    have he : encF r = (⟨#[]⟩, 2) := by
      unfold encF
      rw [if_pos hch]
    refine ⟨cx.ext, ?_⟩
    rw [he]
    rfl
  have hch : chF r = true := by rw [← hp6]; simpa using hc4
  refine wp_seq ?_
  refine wp_region_lit ?_
  refine s_val rfl rfl (v_move rfl rfl) ?_
  refine s_val rfl rfl (v_cmp rfl rfl rfl rfl) ?_
  refine s_val rfl rfl (v_assign rfl rfl) ?_
  refine wpList_nil ?_
  refine c_split rfl (fun hc8 => ?_) (fun hc8 => ?_)
  · skip
    try simp only [bsl] at hc8
    refine wp_seq ?_
    refine wp_region_lit ?_
    refine s_val rfl rfl (v_move rfl rfl) ?_
    refine s_val rfl rfl (v_conv rfl rfl Try.underlying3 Try.underlying5) ?_
    refine s_bsl1 cx Try.underlying29 sz5 z5 rfl rfl rfl rfl rfl rfl rfl rfl ?_; intro b13 w cx hb13 hw13
    refine s_val rfl rfl (v_b2s rfl Try.underlying29 Try.underlying5 Try.underlying9 (ns := [_]) (cx.row 0 rfl) rfl rfl) ?_
    refine s_val rfl rfl (v_assign rfl rfl) ?_
    refine s_val rfl rfl (v_assign rfl rfl) ?_
    refine wpList_nil ?_
    refine wp_ret ?_
    refine ret_tmp2 Try.results152 rfl rfl ?_
    have he : encF r = (enc1 r, 0) := by
      unfold encF
      rw [if_neg (by rw [hch]; exact Bool.noConfusion)]
      rw [if_pos hc8]
    refine ⟨cx.ext, ?_⟩
    rw [he]
    rfl
  try simp only [bsl] at hc8
  refine wp_seq ?_
  refine wp_region_lit ?_
  refine s_val rfl rfl (v_move rfl rfl) ?_
  refine s_val rfl rfl (v_cmp rfl rfl rfl rfl) ?_
  refine s_val rfl rfl (v_assign rfl rfl) ?_
  refine wpList_nil ?_
  refine c_split rfl (fun hc15 => ?_) (fun hc15 => ?_)
  · skip
    try simp only [bsl] at hc15
    refine wp_seq ?_
    refine wp_region_lit ?_
    refine s_val rfl rfl (v_move rfl rfl) ?_
    refine s_val rfl rfl (v_shr rfl rfl rfl (by decide)) ?_
    refine s_val rfl rfl (v_bor rfl rfl rfl) ?_
    refine s_val rfl rfl (v_conv rfl rfl Try.underlying3 Try.underlying5) ?_
    refine s_val rfl rfl (v_move rfl rfl) ?_
    refine s_val rfl rfl (v_band rfl rfl rfl) ?_
    refine s_val rfl rfl (v_bor rfl rfl rfl) ?_
    refine s_val rfl rfl (v_conv rfl rfl Try.underlying3 Try.underlying5) ?_
    refine s_bsl2 cx Try.underlying29 sz5 z5 rfl rfl rfl rfl rfl rfl rfl ?_; intro b26 w cx hb26 hw26
    refine s_val rfl rfl (v_b2s rfl Try.underlying29 Try.underlying5 Try.underlying9 (ns := [_, _]) (cx.row 0 rfl) rfl rfl) ?_
    refine s_val rfl rfl (v_assign rfl rfl) ?_
    refine s_val rfl rfl (v_assign rfl rfl) ?_
    refine wpList_nil ?_
    refine wp_ret ?_
    refine ret_tmp2 Try.results152 rfl rfl ?_
    have he : encF r = (enc2 r, 0) := by
      unfold encF
      rw [if_neg (by rw [hch]; exact Bool.noConfusion)]
      rw [if_neg hc8]
      rw [if_pos hc15]
    refine ⟨cx.ext, ?_⟩
    rw [he]
    rfl
  try simp only [bsl] at hc15
  refine wp_seq ?_
  refine wp_region_lit ?_
  refine s_val rfl rfl (v_move rfl rfl) ?_
  refine s_val rfl rfl (v_cmp rfl rfl rfl rfl) ?_
  refine s_val rfl rfl (v_assign rfl rfl) ?_
  refine wpList_nil ?_
  refine c_split rfl (fun hc28 => ?_) (fun hc28 => ?_)
  · skip
    try simp only [bsl] at hc28
    refine wp_seq ?_
    refine wp_region_lit ?_
    refine s_val rfl rfl (v_move rfl rfl) ?_
    refine s_val rfl rfl (v_shr rfl rfl rfl (by decide)) ?_
    refine s_val rfl rfl (v_bor rfl rfl rfl) ?_
    refine s_val rfl rfl (v_conv rfl rfl Try.underlying3 Try.underlying5) ?_
    refine s_val rfl rfl (v_move rfl rfl) ?_
    refine s_val rfl rfl (v_shr rfl rfl rfl (by decide)) ?_
    refine s_val rfl rfl (v_band rfl rfl rfl) ?_
    refine s_val rfl rfl (v_bor rfl rfl rfl) ?_
    refine s_val rfl rfl (v_conv rfl rfl Try.underlying3 Try.underlying5) ?_
    refine s_val rfl rfl (v_move rfl rfl) ?_
    refine s_val rfl rfl (v_band rfl rfl rfl) ?_
    refine s_val rfl rfl (v_bor rfl rfl rfl) ?_
    refine s_val rfl rfl (v_conv rfl rfl Try.underlying3 Try.underlying5) ?_
    refine s_bsl3 cx Try.underlying29 sz5 z5 rfl rfl rfl rfl rfl rfl rfl rfl rfl ?_; intro b44 w cx hb44 hw44
    refine s_val rfl rfl (v_b2s rfl Try.underlying29 Try.underlying5 Try.underlying9 (ns := [_, _, _]) (cx.row 0 rfl) rfl rfl) ?_
    refine s_val rfl rfl (v_assign rfl rfl) ?_
    refine s_val rfl rfl (v_assign rfl rfl) ?_
    refine wpList_nil ?_
    refine wp_ret ?_
    refine ret_tmp2 Try.results152 rfl rfl ?_
    have he : encF r = (enc3 r, 0) := by
      unfold encF
      rw [if_neg (by rw [hch]; exact Bool.noConfusion)]
      rw [if_neg hc8]
      rw [if_neg hc15]
      rw [if_pos hc28]
    refine ⟨cx.ext, ?_⟩
    rw [he]
    rfl
  try simp only [bsl] at hc28
  refine wp_skip ?_
  refine wp_seq ?_
  refine wp_region_lit ?_
  refine s_val rfl rfl (v_move rfl rfl) ?_
  refine s_val rfl rfl (v_shr rfl rfl rfl (by decide)) ?_
  refine s_val rfl rfl (v_bor rfl rfl rfl) ?_
  refine s_val rfl rfl (v_conv rfl rfl Try.underlying3 Try.underlying5) ?_
  refine s_val rfl rfl (v_move rfl rfl) ?_
  refine s_val rfl rfl (v_shr rfl rfl rfl (by decide)) ?_
  refine s_val rfl rfl (v_band rfl rfl rfl) ?_
  refine s_val rfl rfl (v_bor rfl rfl rfl) ?_
  refine s_val rfl rfl (v_conv rfl rfl Try.underlying3 Try.underlying5) ?_
  refine s_val rfl rfl (v_move rfl rfl) ?_
  refine s_val rfl rfl (v_shr rfl rfl rfl (by decide)) ?_
  refine s_val rfl rfl (v_band rfl rfl rfl) ?_
  refine s_val rfl rfl (v_bor rfl rfl rfl) ?_
  refine s_val rfl rfl (v_conv rfl rfl Try.underlying3 Try.underlying5) ?_
  refine s_val rfl rfl (v_move rfl rfl) ?_
  refine s_val rfl rfl (v_band rfl rfl rfl) ?_
  refine s_val rfl rfl (v_bor rfl rfl rfl) ?_
  refine s_val rfl rfl (v_conv rfl rfl Try.underlying3 Try.underlying5) ?_
  refine s_bsl4 cx Try.underlying29 sz5 z5 rfl rfl rfl rfl rfl rfl rfl rfl rfl rfl rfl ?_; intro b64 w cx hb64 hw64
  refine s_val rfl rfl (v_b2s rfl Try.underlying29 Try.underlying5 Try.underlying9 (ns := [_, _, _, _]) (cx.row 0 rfl) rfl rfl) ?_
  refine s_val rfl rfl (v_assign rfl rfl) ?_
  refine s_val rfl rfl (v_assign rfl rfl) ?_
  refine wpList_nil ?_
  refine wp_ret ?_
  refine ret_tmp2 Try.results152 rfl rfl ?_
  have he : encF r = (enc4 r, 0) := by
    unfold encF
    rw [if_neg (by rw [hch]; exact Bool.noConfusion)]
    rw [if_neg hc8]
    rw [if_neg hc15]
    rw [if_neg hc28]
  refine ⟨cx.ext, ?_⟩
  rw [he]
  rfl
end Go.Proofs.Ytmkihcdcgkdilaa
end
section
namespace Go.Proofs.Ytmkihcdcgkdilaa
open Go Go.Dk Go.RowKit
set_option linter.unusedSimpArgs false
set_option linter.unusedVariables false
attribute [local irreducible] Go.wpList Go.Code.wp Go.bodyPost Go.wpStill
set_option maxRecDepth 10000 in
theorem c76 (v : V) (l : List Value) (w0 : World) (hv : Val w0 v l) (hf : Fine v) : Fc Try.prog 76 [.agg l.toArray] w0 (fun s w => Lst w s (kidsR v)) := by
  obtain ⟨bs, ls, fs, rfl, hbs, hls, hfs⟩ := hv.open
  have hls0 := hls
  have hfs0 := hfs
  obtain ⟨la, lc, lb, lo, rfl, hla, hlget⟩ := hls0.open
  obtain ⟨fa, fc, fb, fo, rfl, hfa, hfget⟩ := hfs0.open
  have hz := hf.self
  refine ret_enter Try.func76 rfl Try.ntmps76 rfl ?_
  have cx := Ctx.start w0
  refine wp_seq ?_
  refine wp_region_lit ?_
  refine s_box cx rfl rfl rfl rfl rfl ?_; intro b1 w cx hb1 hw1
  refine s_val rfl rfl (v_assign rfl rfl) ?_
  refine wpList_nil ?_
  refine wp_seq ?_
  refine wp_seq ?_
  refine wp_region_lit ?_
  refine s_val rfl rfl (v_fa fa33_0 rfl rfl) ?_
  refine s_val rfl rfl (v_load1 rfl rfl Try.underlying3 rfl (cx.cell 0 rfl rfl)) ?_
  refine s_val rfl rfl (v_cmp rfl rfl rfl rfl) ?_
  refine wpList_nil ?_
  refine c_split rfl (fun hc7 => ?_) (fun hc7 => ?_)
  · skip
    try simp only [bsl] at hc7
    refine wp_seq ?_
    refine wp_region_lit ?_
    refine s_val rfl rfl (v_fa fa33_6 rfl rfl) ?_
    refine s_val rfl rfl (v_load1 rfl rfl Try.underlying30 rfl (cx.cell 0 rfl rfl)) ?_
    refine s_val rfl rfl (v_assign rfl rfl) ?_
    refine wpList_nil ?_
    refine wp_ret ?_
    refine ret_tmp Try.results76 rfl ?_
    refine ⟨cx.ext, ?_⟩
    have e : kidsR v = v.list := by simp [kidsR, hc7]
    rw [e]
    exact hls.up cx.ext
  try simp only [bsl] at hc7
  refine wp_skip ?_
  refine wp_seq ?_
  refine wp_region_lit ?_
  refine s_val rfl rfl (v_assign rfl rfl) ?_
  refine wpList_nil ?_
  refine wp_seq ?_
  refine wp_seq ?_
  refine wp_region_lit ?_
  refine s_val rfl rfl (v_assign rfl rfl) ?_
  refine wpList_nil ?_
  refine wp_block ?_
  replace cx := cx.nilRow 33 13
  refine w_loop (fun k f w1 => ∃ (i : Nat) (x : Value) (rs : List (List Value)), k + i = v.fields.length ∧ f 1 = .pointer (some ⟨b1, 0, none⟩) ∧ f 4 = .int .i64 i ∧ f 3 = x ∧ Cxr w0 w1 [(b1, .cells (vrow v.sc bs (.slice la v.list.length lc) (.slice fa v.fields.length fc)).toArray 33)] [⟨33, 13, x, i, rs.flatten⟩] ∧ RowsV (fun b => b < w0.heap.size) w0 ((v.fields.map (·.2)).take i) rs) (v.fields.length) ?_ ?_
  · skip
    exact ⟨0, _, [], by omega, rfl, rfl, rfl, cx, by simp [RowsV]⟩
  intro gk5 f w hJ
  obtain ⟨i, x, rs, hk, hs1, hs4, hs3, cx, hrows⟩ := hJ
  refine wp_seq ?_
  refine wp_seq ?_
  refine wp_region_lit ?_
  refine s_val rfl rfl (v_move rfl hs4) ?_
  refine s_val rfl rfl (v_fa fa33_7 rfl hs1) ?_
  refine s_val rfl rfl (v_load1 rfl rfl Try.underlying31 rfl (cx.cell 0 rfl rfl)) ?_
  refine s_val rfl rfl (v_lenSlice rfl rfl Try.underlying31) ?_
  refine s_val rfl rfl (v_cmp rfl rfl rfl rfl) ?_
  refine wpList_nil ?_
  refine c_split rfl (fun hc14 => ?_) (fun hc14 => ?_)
  · skip
    try simp only [bsl] at hc14
    obtain rfl := hfa (by omega)
    obtain ⟨r, hr, hrv⟩ := hfget i v.fields[i] (List.getElem?_eq_getElem (by omega))
    refine wp_skip ?_
    refine wp_seq ?_
    refine wp_block ?_
    refine wp_region_lit ?_
    refine s_val rfl rfl (v_move rfl hs3) ?_
    refine s_val rfl rfl (v_fa fa33_7 rfl hs1) ?_
    refine s_val rfl rfl (v_load1 rfl rfl Try.underlying31 rfl (cx.cell 0 rfl rfl)) ?_
    refine s_val rfl rfl (v_move rfl hs4) ?_
    refine s_val rfl rfl (v_ia Try.underlying31 sz77 rfl rfl rfl (by omega) (by omega)) ?_
    refine s_val rfl rfl (v_fa fa77_1 rfl rfl) ?_
    refine s_val rfl rfl (v_load rfl rfl Try.underlying33 rfl sz33 ((hr.tail).up cx.ext) hrv.len) ?_
    refine s_bsl1 cx Try.underlying30 sz33 z33 rfl rfl rfl rfl rfl rfl rfl hrv.len ?_; intro b24 w cx hb24 hw24
    refine s_append cx ei33 Try.underlying30 rfl rfl rfl rfl rfl (cx.row 0 rfl) hrv.len hrv.oneCell (by omega) ?_; intro v25 w cx hgr25
    replace cx := cx.drop 1
    refine s_val rfl rfl (v_assign rfl rfl) ?_
    refine wpList_nil ?_
    refine wp_region_lit ?_
    refine s_val rfl rfl (v_move rfl hs4) ?_
    refine s_val rfl rfl (v_add rfl rfl rfl (by omega) (by omega)) ?_
    refine s_val rfl rfl (v_assign rfl rfl) ?_
    refine wpList_nil ?_
    refine ⟨gk5 - 1, _, by omega, rfl, i + 1, v25, rs ++ [r], by omega, hs1, rfl, rfl, by simpa using cx, ?_⟩
    have e : (v.fields.map (·.2)).take (i + 1) = (v.fields.map (·.2)).take i ++ [v.fields[i].2] := by
      rw [List.take_succ_eq_append_getElem (by simp; omega)]; simp
    rw [e]
    exact RowsV.snoc _ _ hrows hrv
  try simp only [bsl] at hc14
  refine wp_exit ?_
  refine wp_seq ?_
  refine wp_region_lit ?_
  refine s_val rfl rfl (v_move rfl hs3) ?_
  refine s_val rfl rfl (v_assign rfl rfl) ?_
  refine wpList_nil ?_
  refine wp_ret ?_
  refine ret_tmp Try.results76 rfl ?_
  refine ⟨cx.ext, ?_⟩
  have hi : i = v.fields.length := by omega
  subst hi
  have e : kidsR v = v.fields.map (·.2) := by simp [kidsR, hc7]
  rw [e]
  refine cx.lst (by simp) (by rwa [List.take_of_length_le (by simp)] at hrows)
end Go.Proofs.Ytmkihcdcgkdilaa
end
section
namespace Go.Proofs.Ytmkihcdcgkdilaa
open Go Go.Dk Go.RowKit
set_option linter.unusedSimpArgs false
set_option linter.unusedVariables false
attribute [local irreducible] Go.wpList Go.Code.wp Go.bodyPost Go.wpStill
set_option maxRecDepth 10000 in
theorem c148x (s : ByteArray) (a : Int) (w0 : World) (hs : s.size ≤ 1073741824) (ha : -1 ≤ a ∧ a ≤ 1073741824) : Fc Try.prog 148 [.string s, .int .i64 a] w0 (fun v _ => ∃ r : Int, v = .tuple #[.int .i64 r, .int .i64 (decF s a)]) := by
  refine ret_enter Try.func148 rfl Try.ntmps148 rfl ?_
  have cx := Ctx.start w0
  refine wp_seq ?_
  refine wp_region_lit ?_
  refine s_val rfl rfl (v_assign rfl rfl) ?_
  refine s_val rfl rfl (v_assign rfl rfl) ?_
  refine wpList_nil ?_
  refine wp_seq ?_
  refine wp_seq ?_
  refine wp_region_lit ?_
  refine s_val rfl rfl (v_move rfl rfl) ?_
  refine s_val rfl rfl (v_cmp rfl rfl rfl rfl) ?_
  refine s_val rfl rfl (v_move rfl rfl) ?_
  refine s_gval rfl rfl rfl wF (fun hc => v_move rfl (by first | exact gve hc rfl | exact gve (and_l hc) rfl | exact gve (and_l (and_l hc)) rfl | rfl)) ?_
  refine s_gval rfl rfl rfl wF (fun hc => v_move rfl (by first | exact gve hc rfl | exact gve (and_l hc) rfl | exact gve (and_l (and_l hc)) rfl | rfl)) ?_
  refine s_gval rfl rfl rfl wF (fun hc => v_lenString rfl (by first | exact gve hc rfl | exact gve (and_l hc) rfl | exact gve (and_l (and_l hc)) rfl | rfl) Try.underlying9) ?_
  refine s_gval rfl rfl rfl wF (fun hc => v_cmp rfl (by first | exact gve hc rfl | exact gve (and_l hc) rfl | exact gve (and_l (and_l hc)) rfl | rfl) (by first | exact gve hc rfl | exact gve (and_l hc) rfl | exact gve (and_l (and_l hc)) rfl | rfl) rfl) ?_
  refine s_val rfl rfl (v_or rfl rfl rfl rfl) ?_
  refine wpList_nil ?_
  refine c_split rfl (fun hc19 => ?_) (fun hc19 => ?_)
  · skip
    try simp only [bsl] at hc19
    refine wp_seq ?_
    refine wp_region_lit ?_
    refine s_val rfl rfl (v_assign rfl rfl) ?_
    refine s_val rfl rfl (v_assign rfl rfl) ?_
    refine wpList_nil ?_
    refine wp_ret ?_
    refine ret_tmp2 Try.results148 rfl rfl ?_
    refine ⟨cx.ext, 0, ?_⟩
    rw [decF_out (by omega)]; rfl
  try simp only [bsl] at hc19
  refine wp_skip ?_
  refine wp_seq ?_
  refine wp_region_lit ?_
  refine s_val rfl rfl (v_move rfl rfl) ?_
  refine s_val rfl rfl (v_move rfl rfl) ?_
  refine s_val rfl rfl (v_idxStr rfl rfl rfl Try.underlying9 (by omega) (by omega)) ?_
  refine s_val rfl rfl (v_ofByte rfl rfl Try.underlying5 Try.underlying3 (byteAt_lo _ _) (byteAt_hi _ _)) ?_
  refine s_val rfl rfl (v_assign rfl rfl) ?_
  refine wpList_nil ?_
  refine wp_seq ?_
  refine wp_region_lit ?_
  refine s_val rfl rfl (v_move rfl rfl) ?_
  refine s_val rfl rfl (v_assign rfl rfl) ?_
  refine s_val rfl rfl (v_assign rfl rfl) ?_
  refine wpList_nil ?_
  refine w_cut (fun f w1 => f 0 = .string s ∧ f 1 = .int .i64 a ∧ f 7 = .int .i64 (hdF (byteAt s a)).1 ∧ f 8 = .int .i64 (hdF (byteAt s a)).2 ∧ Ctx w0 w1 []) ?_ ?_
  · skip
    refine wp_block ?_
    refine wp_seq ?_
    refine wp_region_lit ?_
    refine s_val rfl rfl (v_move rfl rfl) ?_
    refine s_val rfl rfl (v_cmp rfl rfl rfl rfl) ?_
    refine s_val rfl rfl (v_assign rfl rfl) ?_
    refine wpList_nil ?_
    refine c_split rfl (fun hc25 => ?_) (fun hc25 => ?_)
    · skip
      try simp only [bsl] at hc25
      have hh := hdF_4 hc25
      refine wp_region_lit ?_
      refine s_val rfl rfl (v_move rfl rfl) ?_
      refine s_val rfl rfl (v_band rfl rfl rfl) ?_
      refine s_val rfl rfl (v_assign rfl rfl) ?_
      refine s_val rfl rfl (v_assign rfl rfl) ?_
      refine wpList_nil ?_
      exact ⟨_, rfl, rfl, rfl, (congrArg (fun q : Int × Int => Value.int .i64 q.1) hh).symm, (congrArg (fun q : Int × Int => Value.int .i64 q.2) hh).symm, cx⟩
    try simp only [bsl] at hc25
    refine wp_seq ?_
    refine wp_region_lit ?_
    refine s_val rfl rfl (v_move rfl rfl) ?_
    refine s_val rfl rfl (v_cmp rfl rfl rfl rfl) ?_
    refine s_val rfl rfl (v_assign rfl rfl) ?_
    refine wpList_nil ?_
    refine c_split rfl (fun hc30 => ?_) (fun hc30 => ?_)
    · skip
      try simp only [bsl] at hc30
      have hh := hdF_3 hc25 hc30
      refine wp_region_lit ?_
      refine s_val rfl rfl (v_move rfl rfl) ?_
      refine s_val rfl rfl (v_band rfl rfl rfl) ?_
      refine s_val rfl rfl (v_assign rfl rfl) ?_
      refine s_val rfl rfl (v_assign rfl rfl) ?_
      refine wpList_nil ?_
      exact ⟨_, rfl, rfl, rfl, (congrArg (fun q : Int × Int => Value.int .i64 q.1) hh).symm, (congrArg (fun q : Int × Int => Value.int .i64 q.2) hh).symm, cx⟩
    try simp only [bsl] at hc30
    refine wp_seq ?_
    refine wp_region_lit ?_
    refine s_val rfl rfl (v_move rfl rfl) ?_
    refine s_val rfl rfl (v_cmp rfl rfl rfl rfl) ?_
    refine s_val rfl rfl (v_assign rfl rfl) ?_
    refine wpList_nil ?_
    refine c_split rfl (fun hc35 => ?_) (fun hc35 => ?_)
    · skip
      try simp only [bsl] at hc35
      have hh := hdF_2 hc25 hc30 hc35
      refine wp_region_lit ?_
      refine s_val rfl rfl (v_move rfl rfl) ?_
      refine s_val rfl rfl (v_band rfl rfl rfl) ?_
      refine s_val rfl rfl (v_assign rfl rfl) ?_
      refine s_val rfl rfl (v_assign rfl rfl) ?_
      refine wpList_nil ?_
      exact ⟨_, rfl, rfl, rfl, (congrArg (fun q : Int × Int => Value.int .i64 q.1) hh).symm, (congrArg (fun q : Int × Int => Value.int .i64 q.2) hh).symm, cx⟩
    try simp only [bsl] at hc35
    have hh := hdF_1 hc25 hc30 hc35
    refine wp_skip ?_
    exact ⟨_, rfl, rfl, rfl, (congrArg (fun q : Int × Int => Value.int .i64 q.1) hh).symm, (congrArg (fun q : Int × Int => Value.int .i64 q.2) hh).symm, cx⟩
  intro f w hJ
  obtain ⟨hs0, hs1, hs7, hs8, cx⟩ := hJ
  have hlo := hdF_lo (byteAt s a)
  refine wp_seq ?_
  refine wp_seq ?_
  refine wp_region_lit ?_
  refine s_val rfl rfl (v_move rfl hs0) ?_
  refine s_val rfl rfl (v_lenString rfl rfl Try.underlying9) ?_
  refine s_val rfl rfl (v_move rfl hs1) ?_
  refine s_val rfl rfl (v_sub rfl rfl rfl (by omega) (by omega)) ?_
  refine s_val rfl rfl (v_move rfl hs7) ?_
  refine s_val rfl rfl (v_cmp rfl rfl rfl rfl) ?_
  refine wpList_nil ?_
  refine c_split rfl (fun hc45 => ?_) (fun hc45 => ?_)
  · skip
    try simp only [bsl] at hc45
    refine wp_seq ?_
    refine wp_region_lit ?_
    refine s_val rfl rfl (v_assign rfl rfl) ?_
    refine s_val rfl rfl (v_assign rfl rfl) ?_
    refine wpList_nil ?_
    refine wp_ret ?_
    refine ret_tmp2 Try.results148 rfl rfl ?_
    refine ⟨cx.ext, 0, ?_⟩
    rw [decF_short (by omega) hc45]; rfl
  try simp only [bsl] at hc45
  refine wp_skip ?_
  refine wp_seq ?_
  refine wp_seq ?_
  refine wp_region_lit ?_
  refine s_val rfl rfl (v_assign rfl rfl) ?_
  refine wpList_nil ?_
  refine wp_block ?_
  refine w_loop (fun k f w1 => ∃ j : Nat, k + (j + 1) = (hdF (byteAt s a)).1.toNat ∧ f 0 = .string s ∧ f 1 = .int .i64 a ∧ f 7 = .int .i64 (hdF (byteAt s a)).1 ∧ f 8 = .int .i64 (rI s a (hdF (byteAt s a)).2 j) ∧ f 9 = .int .i64 ((j + 1 : Nat) : Int) ∧ Ctx w0 w1 []) ((hdF (byteAt s a)).1.toNat - 1) ?_ ?_
  · skip
    exact ⟨0, by omega, hs0, hs1, hs7, hs8, rfl, cx⟩
  intro gk14 f w hJ
  obtain ⟨j, hk, hs0, hs1, hs7, hs8, hs9, cx⟩ := hJ
  refine wp_seq ?_
  refine wp_seq ?_
  refine wp_region_lit ?_
  refine s_val rfl rfl (v_move rfl hs9) ?_
  refine s_val rfl rfl (v_move rfl hs7) ?_
  refine s_val rfl rfl (v_cmp rfl rfl rfl rfl) ?_
  refine wpList_nil ?_
  refine c_split rfl (fun hc48 => ?_) (fun hc48 => ?_)
  · skip
    try simp only [bsl] at hc48
    refine wp_skip ?_
    refine wp_seq ?_
    refine wp_block ?_
    refine wp_region_lit ?_
    refine s_val rfl rfl (v_move rfl hs8) ?_
    refine s_val rfl rfl (v_shl rfl rfl rfl (by decide)) ?_
    refine s_val rfl rfl (v_move rfl hs0) ?_
    refine s_val rfl rfl (v_move rfl hs1) ?_
    refine s_val rfl rfl (v_move rfl hs9) ?_
    refine s_val rfl rfl (v_add rfl rfl rfl (by omega) (by omega)) ?_
    refine s_val rfl rfl (v_idxStr rfl rfl rfl Try.underlying9 (by omega) (by omega)) ?_
    refine s_val rfl rfl (v_ofByte rfl rfl Try.underlying5 Try.underlying3 (byteAt_lo _ _) (byteAt_hi _ _)) ?_
    refine s_val rfl rfl (v_band rfl rfl rfl) ?_
    refine s_val rfl rfl (v_bor rfl rfl rfl) ?_
    refine s_val rfl rfl (v_assign rfl rfl) ?_
    refine wpList_nil ?_
    refine wp_region_lit ?_
    refine s_val rfl rfl (v_move rfl hs9) ?_
    refine s_val rfl rfl (v_add rfl rfl rfl (by omega) (by omega)) ?_
    refine s_val rfl rfl (v_assign rfl rfl) ?_
    refine wpList_nil ?_
    exact ⟨gk14 - 1, _, by omega, rfl, j + 1, by omega, hs0, hs1, hs7, rfl, rfl, cx⟩
  try simp only [bsl] at hc48
  have hjz : j = (hdF (byteAt s a)).1.toNat - 1 := by omega
  refine wp_exit ?_
  refine wp_seq ?_
  refine wp_region_lit ?_
  refine s_val rfl rfl (v_move rfl hs8) ?_
  refine s_fn cx (c152x _ _) Try.func152 rfl rfl rfl rfl rfl rfl ?_; intro q63 w cx hw63 hp63
  subst hp63
  refine s_val rfl rfl (v_move rfl rfl) ?_
  refine s_val rfl rfl (v_extract rfl rfl rfl) ?_
  refine s_val rfl rfl (v_extract rfl rfl rfl) ?_
  refine s_val rfl rfl (v_assign rfl rfl) ?_
  refine s_val rfl rfl (v_assign rfl rfl) ?_
  refine wpList_nil ?_
  refine wp_seq ?_
  refine wp_seq ?_
  refine wp_region_lit ?_
  refine s_val rfl rfl (v_move rfl rfl) ?_
  refine s_val rfl rfl (v_cmp rfl rfl rfl rfl) ?_
  refine s_val rfl rfl (v_move rfl rfl) ?_
  refine s_gval rfl rfl rfl wF (fun hc => v_move rfl (by first | exact gve hc rfl | exact gve (and_l hc) rfl | exact gve (and_l (and_l hc)) rfl | rfl)) ?_
  refine s_gval rfl rfl rfl wF (fun hc => v_move rfl hs0) ?_
  refine s_gval rfl rfl rfl wF (fun hc => v_move rfl hs1) ?_
  refine s_gval rfl rfl rfl wF (fun hc => v_move rfl hs1) ?_
  refine s_gval rfl rfl rfl wF (fun hc => v_move rfl hs7) ?_
  refine s_gval rfl rfl rfl wF (fun hc => v_add rfl (by first | exact gve hc rfl | exact gve (and_l hc) rfl | exact gve (and_l (and_l hc)) rfl | rfl) (by first | exact gve hc rfl | exact gve (and_l hc) rfl | exact gve (and_l (and_l hc)) rfl | rfl) (by first | omega | (simp only [bsl] at hc; omega)) (by first | omega | (simp only [bsl] at hc; omega))) ?_
  refine s_gval rfl rfl rfl wF (fun hc => v_subStr rfl (by first | exact gve hc rfl | exact gve (and_l hc) rfl | exact gve (and_l (and_l hc)) rfl | rfl) (by first | exact gve hc rfl | exact gve (and_l hc) rfl | exact gve (and_l (and_l hc)) rfl | rfl) (by first | exact gve hc rfl | exact gve (and_l hc) rfl | exact gve (and_l (and_l hc)) rfl | rfl) Try.underlying9 (by first | omega | (simp only [bsl] at hc; omega)) (by first | omega | (simp only [bsl] at hc; omega)) (by first | omega | (simp only [bsl] at hc; omega))) ?_
  refine s_gval rfl rfl rfl wF (fun hc => v_strNe rfl (by first | exact gve hc rfl | exact gve (and_l hc) rfl | exact gve (and_l (and_l hc)) rfl | rfl) (by first | exact gve hc rfl | exact gve (and_l hc) rfl | exact gve (and_l (and_l hc)) rfl | rfl)) ?_
  refine s_val rfl rfl (v_or rfl rfl rfl rfl) ?_
  refine wpList_nil ?_
  refine c_split rfl (fun hc77 => ?_) (fun hc77 => ?_)
  · skip
    try simp only [bsl] at hc77
    refine wp_seq ?_
    refine wp_region_lit ?_
    refine s_val rfl rfl (v_assign rfl rfl) ?_
    refine s_val rfl rfl (v_assign rfl rfl) ?_
    refine wpList_nil ?_
    refine wp_ret ?_
    refine ret_tmp2 Try.results148 rfl rfl ?_
    have hbad := decF_bad (s := s) (a := a) (by omega) hc45 (by
      rw [← hjz]
      exact hc77.imp id id)
    refine ⟨cx.ext, 0, ?_⟩
    rw [hbad]; rfl
  try simp only [bsl] at hc77
  refine wp_skip ?_
  refine wp_seq ?_
  refine wp_region_lit ?_
  refine s_val rfl rfl (v_move rfl hs8) ?_
  refine s_val rfl rfl (v_move rfl hs7) ?_
  refine s_val rfl rfl (v_assign rfl rfl) ?_
  refine s_val rfl rfl (v_assign rfl rfl) ?_
  refine wpList_nil ?_
  refine wp_ret ?_
  refine ret_tmp2 Try.results148 rfl rfl ?_
  have hok := decF_ok (s := s) (a := a) (by omega) hc45 (by
    rw [← hjz]
    rintro (h | h)
    · exact h hc77.1
    · exact h hc77.2)
  refine ⟨cx.ext, rI s a (hdF (byteAt s a)).2 j, ?_⟩
  rw [hok]; rfl
set_option maxRecDepth 10000 in
theorem c144x (s : ByteArray) (w0 : World) (hs : s.size ≤ 1073741824) : Fc Try.prog 144 [.string s] w0 (fun v _ => ∃ x b, v = .tuple #[x, .bool b] ∧ (b = true ↔ VT s)) := by
  refine ret_enter Try.func144 rfl Try.ntmps144 rfl ?_
  have cx := Ctx.start w0
  refine wp_seq ?_
  refine wp_region_lit ?_
  refine s_val rfl rfl (v_assign rfl rfl) ?_
  refine s_val rfl rfl (v_assign rfl rfl) ?_
  refine wpList_nil ?_
  refine wp_seq ?_
  refine wp_region_lit ?_
  refine s_bsl1 cx Try.underlying82 sz3 z3 rfl rfl rfl rfl rfl rfl rfl rfl ?_; intro b8 w cx hb8 hw8
  replace cx := Cxr.toRow (size := 1) (k := 1) cx rfl (by decide)
  refine s_val rfl rfl (v_assign rfl rfl) ?_
  refine wpList_nil ?_
  refine wp_seq ?_
  refine wp_region_lit ?_
  refine s_val rfl rfl (v_assign rfl rfl) ?_
  refine wpList_nil ?_
  refine wp_seq ?_
  refine wp_block ?_
  refine w_loop (fun k f w1 => ∃ (i m : Nat) (v : Value) (xs : List Value), k + i = s.size ∧ m ≤ i + 1 ∧ f 0 = .string s ∧ f 5 = .int .i64 i ∧ f 4 = v ∧ (VT s ↔ Vt s (i : Nat)) ∧ Cxr w0 w1 [] [⟨3, 1, v, m, xs⟩]) (s.size) ?_ ?_
  · skip
    exact ⟨0, 1, _, _, by omega, by omega, rfl, rfl, rfl, Iff.rfl, cx⟩
  intro gk3 f w hJ
  obtain ⟨i, m, v, xs, hk, hm, hs0, hs5, hs4, hvt, cx⟩ := hJ
  refine wp_seq ?_
  refine wp_seq ?_
  refine wp_region_lit ?_
  refine s_val rfl rfl (v_move rfl hs5) ?_
  refine s_val rfl rfl (v_move rfl hs0) ?_
  refine s_val rfl rfl (v_lenString rfl rfl Try.underlying9) ?_
  refine s_val rfl rfl (v_cmp rfl rfl rfl rfl) ?_
  refine wpList_nil ?_
  refine c_split rfl (fun hc12 => ?_) (fun hc12 => ?_)
  · skip
    try simp only [bsl] at hc12
    refine wp_skip ?_
    refine wp_block ?_
    refine wp_seq ?_
    refine wp_region_lit ?_
    refine s_val rfl rfl (v_move rfl hs0) ?_
    refine s_val rfl rfl (v_move rfl hs5) ?_
    refine s_fn cx (c148x s _ _ hs (by omega)) Try.func148 rfl rfl rfl rfl rfl rfl ?_; intro q16 w cx hw16 hp16
    obtain ⟨er16, rfl⟩ := hp16
    have hbd := decF_bd s i
    refine s_val rfl rfl (v_move rfl rfl) ?_
    refine s_val rfl rfl (v_extract rfl rfl rfl) ?_
    refine s_val rfl rfl (v_extract rfl rfl rfl) ?_
    refine s_val rfl rfl (v_assign rfl rfl) ?_
    refine s_val rfl rfl (v_assign rfl rfl) ?_
    refine wpList_nil ?_
    refine wp_seq ?_
    refine wp_seq ?_
    refine wp_region_lit ?_
    refine s_val rfl rfl (v_move rfl rfl) ?_
    refine s_val rfl rfl (v_cmp rfl rfl rfl rfl) ?_
    refine wpList_nil ?_
    refine c_split rfl (fun hc20 => ?_) (fun hc20 => ?_)
    · skip
      try simp only [bsl] at hc20
      refine wp_seq ?_
      refine wp_region_lit ?_
      refine s_val rfl rfl (v_move rfl hs4) ?_
      refine s_val rfl rfl (v_assign rfl rfl) ?_
      refine s_val rfl rfl (v_assign rfl rfl) ?_
      refine wpList_nil ?_
      refine wp_ret ?_
      refine ret_tmp2 Try.results144 rfl rfl ?_
      exact ⟨cx.ext, _, _, rfl, (fun h => by cases h), fun h => absurd (hvt.1 h) (Vt.no (by omega) hc20)⟩
    try simp only [bsl] at hc20
    refine wp_skip ?_
    refine wp_seq ?_
    refine wp_region_lit ?_
    refine s_val rfl rfl (v_move rfl hs5) ?_
    refine s_val rfl rfl (v_move rfl rfl) ?_
    refine s_val rfl rfl (v_add rfl rfl rfl (by omega) (by omega)) ?_
    refine s_val rfl rfl (v_assign rfl rfl) ?_
    refine wpList_nil ?_
    refine wp_region_lit ?_
    refine s_val rfl rfl (v_move rfl hs4) ?_
    refine s_val rfl rfl (v_move rfl rfl) ?_
    refine s_bsl1 cx Try.underlying82 sz3 z3 rfl rfl rfl rfl rfl rfl rfl rfl ?_; intro b27 w cx hb27 hw27
    refine s_append cx ei3 Try.underlying82 rfl rfl rfl rfl rfl (cx.row 0 rfl) rfl rfl (by omega) ?_; intro v28 w cx hgr28
    replace cx := cx.drop 1
    refine s_val rfl rfl (v_assign rfl rfl) ?_
    refine wpList_nil ?_
    obtain ⟨en, hen⟩ : ∃ n : Nat, decF s i = n := ⟨(decF s i).toNat, by omega⟩
    refine ⟨gk3 - en, _, by omega, rfl, i + en, m + 1, _, _, by omega, by omega, hs0, ?_, rfl, ?_, cx⟩
    · show Value.int .i64 _ = _
      congr 1; omega
    · rw [hvt, Vt.step (by omega) (by omega), hen]
      have : (i : Int) + (en : Int) = ((i + en : Nat) : Int) := by omega
      rw [this]
  try simp only [bsl] at hc12
  refine wp_exit ?_
  refine wp_seq ?_
  refine wp_region_lit ?_
  refine s_val rfl rfl (v_move rfl hs4) ?_
  refine s_val rfl rfl (v_assign rfl rfl) ?_
  refine s_val rfl rfl (v_assign rfl rfl) ?_
  refine wpList_nil ?_
  refine wp_ret ?_
  refine ret_tmp2 Try.results144 rfl rfl ?_
  exact ⟨cx.ext, _, _, rfl, fun _ => hvt.2 (Vt.last _ (by omega)), fun _ => rfl⟩
set_option maxRecDepth 10000 in
theorem c134x (s : ByteArray) (w0 : World) (hs : s.size ≤ 1073741824) : Fc Try.prog 134 [.string s] w0 (IsB fun b => b = true ↔ VT s) := by
  refine ret_enter Try.func134 rfl Try.ntmps134 rfl ?_
  have cx := Ctx.start w0
  refine wp_seq ?_
  refine wp_region_lit ?_
  refine s_val rfl rfl (v_assign rfl rfl) ?_
  refine wpList_nil ?_
  refine wp_seq ?_
  refine wp_region_lit ?_
  refine s_val rfl rfl (v_move rfl rfl) ?_
  refine s_fn cx (c144x s _ hs) Try.func144 rfl rfl rfl rfl rfl rfl ?_; intro q7 w cx hw7 hp7
  obtain ⟨ex7, eb7, rfl, hpv⟩ := hp7
  refine s_val rfl rfl (v_move rfl rfl) ?_
  refine s_val rfl rfl (v_extract rfl rfl rfl) ?_
  refine s_val rfl rfl (v_extract rfl rfl rfl) ?_
  refine s_val rfl rfl (v_assign rfl rfl) ?_
  refine s_val rfl rfl (v_assign rfl rfl) ?_
  refine wpList_nil ?_
  refine wp_seq ?_
  refine wp_region_lit ?_
  refine s_val rfl rfl (v_move rfl rfl) ?_
  refine s_val rfl rfl (v_assign rfl rfl) ?_
  refine wpList_nil ?_
  refine wp_ret ?_
  refine ret_tmp Try.results134 rfl ?_
  exact ⟨cx.ext, _, rfl, hpv⟩
set_option maxRecDepth 10000 in
theorem c131x (s : Sc) (ba la fa : Option Addr) (bl bc ll lc fl fc : Nat) (w0 : World) : Fc Try.prog 131 [.agg (vrow s (.slice ba bl bc) (.slice la ll lc) (.slice fa fl fc)).toArray] w0 (IsB fun b => b = true ↔ Own s bl ll fl) := by
  refine ret_enter Try.func131 rfl Try.ntmps131 rfl ?_
  have cx := Ctx.start w0
  refine wp_seq ?_
  refine wp_region_lit ?_
  refine s_box cx rfl rfl rfl rfl rfl ?_; intro b1 w cx hb1 hw1
  refine s_val rfl rfl (v_assign rfl rfl) ?_
  refine wpList_nil ?_
  refine wp_seq ?_
  refine wp_region_lit ?_
  refine s_val rfl rfl (v_fa fa33_0 rfl rfl) ?_
  refine s_val rfl rfl (v_load1 rfl rfl Try.underlying3 rfl (cx.cell 0 rfl rfl)) ?_
  refine s_val rfl rfl (v_assign rfl rfl) ?_
  refine wpList_nil ?_
  refine wp_seq ?_
  refine wp_seq ?_
  refine wp_region_lit ?_
  refine s_val rfl rfl (v_move rfl rfl) ?_
  refine s_val rfl rfl (v_cmp rfl rfl rfl rfl) ?_
  refine s_val rfl rfl (v_move rfl rfl) ?_
  refine s_gval rfl rfl rfl wF (fun hc => v_move rfl (by first | exact gve hc rfl | exact gve (and_l hc) rfl | exact gve (and_l (and_l hc)) rfl | rfl)) ?_
  refine s_gval rfl rfl rfl wF (fun hc => v_cmp rfl (by first | exact gve hc rfl | exact gve (and_l hc) rfl | exact gve (and_l (and_l hc)) rfl | rfl) rfl rfl) ?_
  refine s_val rfl rfl (v_or rfl rfl rfl rfl) ?_
  refine s_val rfl rfl (v_move rfl rfl) ?_
  refine s_gval rfl rfl rfl wF (fun hc => v_move rfl (by first | exact gve hc rfl | exact gve (and_l hc) rfl | exact gve (and_l (and_l hc)) rfl | rfl)) ?_
  refine s_gval rfl rfl rfl wF (fun hc => v_cmp rfl (by first | exact gve hc rfl | exact gve (and_l hc) rfl | exact gve (and_l (and_l hc)) rfl | rfl) rfl rfl) ?_
  refine s_gval rfl rfl rfl wF (fun hc => v_move rfl (by first | exact gve hc rfl | exact gve (and_l hc) rfl | exact gve (and_l (and_l hc)) rfl | rfl)) ?_
  refine s_gval rfl rfl rfl wT (fun hc => v_fa fa33_1 rfl (by first | exact gve hc rfl | exact gve (and_l hc) rfl | exact gve (and_l (and_l hc)) rfl | rfl)) ?_
  refine s_gval rfl rfl rfl wT (fun hc => v_load1 rfl (by first | exact gve hc rfl | exact gve (and_l hc) rfl | exact gve (and_l (and_l hc)) rfl | rfl) Try.underlying4 rfl (cx.cell 0 rfl rfl)) ?_
  refine s_gval rfl rfl rfl wF (fun hc => v_and_g hc rfl rfl rfl rfl) ?_
  refine s_val rfl rfl (v_or rfl rfl rfl rfl) ?_
  refine s_val rfl rfl (v_move rfl rfl) ?_
  refine s_gval rfl rfl rfl wF (fun hc => v_move rfl (by first | exact gve hc rfl | exact gve (and_l hc) rfl | exact gve (and_l (and_l hc)) rfl | rfl)) ?_
  refine s_gval rfl rfl rfl wF (fun hc => v_cmp rfl (by first | exact gve hc rfl | exact gve (and_l hc) rfl | exact gve (and_l (and_l hc)) rfl | rfl) rfl rfl) ?_
  refine s_gval rfl rfl rfl wF (fun hc => v_move rfl (by first | exact gve hc rfl | exact gve (and_l hc) rfl | exact gve (and_l (and_l hc)) rfl | rfl)) ?_
  refine s_gval rfl rfl rfl wT (fun hc => v_fa fa33_2 rfl (by first | exact gve hc rfl | exact gve (and_l hc) rfl | exact gve (and_l (and_l hc)) rfl | rfl)) ?_
  refine s_gval rfl rfl rfl wT (fun hc => v_load rfl (by first | exact gve hc rfl | exact gve (and_l hc) rfl | exact gve (and_l (and_l hc)) rfl | rfl) Try.underlying26 rfl sz26 ((cx.row 0 rfl).r3 2 rfl rfl rfl) rfl) ?_
  refine s_gval rfl rfl rfl wT (fun hc => v_build bd26 rfl rfl) ?_
  refine s_gval rfl rfl rfl wT (fun hc => v_agg eqg26 (ne26 _ _ _ _ _ _) rfl (by first | exact gve hc rfl | exact gve (and_l hc) rfl | exact gve (and_l (and_l hc)) rfl | rfl) (by first | exact gve hc rfl | exact gve (and_l hc) rfl | exact gve (and_l (and_l hc)) rfl | rfl)) ?_
  refine s_gval rfl rfl rfl wF (fun hc => v_and_g hc rfl rfl rfl rfl) ?_
  refine s_val rfl rfl (v_or rfl rfl rfl rfl) ?_
  refine s_val rfl rfl (v_move rfl rfl) ?_
  refine s_gval rfl rfl rfl wF (fun hc => v_move rfl (by first | exact gve hc rfl | exact gve (and_l hc) rfl | exact gve (and_l (and_l hc)) rfl | rfl)) ?_
  refine s_gval rfl rfl rfl wF (fun hc => v_cmp rfl (by first | exact gve hc rfl | exact gve (and_l hc) rfl | exact gve (and_l (and_l hc)) rfl | rfl) rfl rfl) ?_
  refine s_gval rfl rfl rfl wF (fun hc => v_move rfl (by first | exact gve hc rfl | exact gve (and_l hc) rfl | exact gve (and_l (and_l hc)) rfl | rfl)) ?_
  refine s_gval rfl rfl rfl wT (fun hc => v_fa fa33_3 rfl (by first | exact gve hc rfl | exact gve (and_l hc) rfl | exact gve (and_l (and_l hc)) rfl | rfl)) ?_
  refine s_gval rfl rfl rfl wT (fun hc => v_load rfl (by first | exact gve hc rfl | exact gve (and_l hc) rfl | exact gve (and_l (and_l hc)) rfl | rfl) Try.underlying28 rfl sz28 ((cx.row 0 rfl).r4 5 rfl rfl rfl rfl) rfl) ?_
  refine s_gval rfl rfl rfl wT (fun hc => v_build bd28 rfl rfl) ?_
  refine s_gval rfl rfl rfl wT (fun hc => v_agg eqg28 (ne28 _ _ _ _ _ _ _ _) rfl (by first | exact gve hc rfl | exact gve (and_l hc) rfl | exact gve (and_l (and_l hc)) rfl | rfl) (by first | exact gve hc rfl | exact gve (and_l hc) rfl | exact gve (and_l (and_l hc)) rfl | rfl)) ?_
  refine s_gval rfl rfl rfl wF (fun hc => v_and_g hc rfl rfl rfl rfl) ?_
  refine s_val rfl rfl (v_or rfl rfl rfl rfl) ?_
  refine wpList_nil ?_
  refine c_split rfl (fun hc39 => ?_) (fun hc39 => ?_)
  · skip
    try simp only [bsl] at hc39
    refine wp_seq ?_
    refine wp_region_lit ?_
    refine s_val rfl rfl (v_assign rfl rfl) ?_
    refine wpList_nil ?_
    refine wp_ret ?_
    refine ret_tmp Try.results131 rfl ?_
    refine ⟨cx.ext, _, rfl, (fun h => by cases h), fun h => ?_⟩
    exfalso
    have hq1 := h.lo
    have hq2 := h.hi
    rcases hc39 with (((h1 | h1) | h1) | h1) | h1
    · omega
    · omega
    · have := h.b h1.1
      rw [this] at h1; exact Bool.noConfusion h1.2
    · have h3 := h.num h1.1
      rcases h1.2 with h4 | h4 | h4
      · exact h4 h3.1
      · exact h4 h3.2.1
      · exact h4 h3.2.2
    · have h3 := h.time h1.1
      rcases h1.2 with h4 | h4 | h4 | h4
      · exact h4 h3.1
      · exact h4 h3.2.1
      · exact h4 h3.2.2.1
      · exact h4 h3.2.2.2
  try simp only [bsl] at hc39
  refine wp_skip ?_
  refine wp_seq ?_
  refine wp_region_lit ?_
  refine s_val rfl rfl (v_move rfl rfl) ?_
  refine s_val rfl rfl (v_cmp rfl rfl rfl rfl) ?_
  refine s_val rfl rfl (v_move rfl rfl) ?_
  refine s_gval rfl rfl rfl wF (fun hc => v_fa fa33_4 rfl (by first | exact gve hc rfl | exact gve (and_l hc) rfl | exact gve (and_l (and_l hc)) rfl | rfl)) ?_
  refine s_gval rfl rfl rfl wF (fun hc => v_load1 rfl (by first | exact gve hc rfl | exact gve (and_l hc) rfl | exact gve (and_l (and_l hc)) rfl | rfl) Try.underlying9 rfl (cx.cell 0 rfl rfl)) ?_
  refine s_gval rfl rfl rfl wF (fun hc => v_strEq rfl (by first | exact gve hc rfl | exact gve (and_l hc) rfl | exact gve (and_l (and_l hc)) rfl | rfl) rfl) ?_
  refine s_val rfl rfl (v_or rfl rfl rfl rfl) ?_
  refine s_val rfl rfl (v_move rfl rfl) ?_
  refine s_gval rfl rfl rfl wT (fun hc => v_move rfl (by first | exact gve hc rfl | exact gve (and_l hc) rfl | exact gve (and_l (and_l hc)) rfl | rfl)) ?_
  refine s_gval rfl rfl rfl wT (fun hc => v_cmp rfl (by first | exact gve hc rfl | exact gve (and_l hc) rfl | exact gve (and_l (and_l hc)) rfl | rfl) rfl rfl) ?_
  refine s_gval rfl rfl rfl wT (fun hc => v_move rfl (by first | exact gve hc rfl | exact gve (and_l hc) rfl | exact gve (and_l (and_l hc)) rfl | rfl)) ?_
  refine s_gval rfl rfl rfl wF (fun hc => v_fa fa33_5 rfl (by first | exact gve hc rfl | exact gve (and_l hc) rfl | exact gve (and_l (and_l hc)) rfl | rfl)) ?_
  refine s_gval rfl rfl rfl wF (fun hc => v_load1 rfl (by first | exact gve hc rfl | exact gve (and_l hc) rfl | exact gve (and_l (and_l hc)) rfl | rfl) Try.underlying29 rfl (cx.cell 0 rfl rfl)) ?_
  refine s_gval rfl rfl rfl wF (fun hc => v_lenSlice rfl (by first | exact gve hc rfl | exact gve (and_l hc) rfl | exact gve (and_l (and_l hc)) rfl | rfl) Try.underlying29) ?_
  refine s_gval rfl rfl rfl wF (fun hc => v_cmp rfl (by first | exact gve hc rfl | exact gve (and_l hc) rfl | exact gve (and_l (and_l hc)) rfl | rfl) rfl rfl) ?_
  refine s_gval rfl rfl rfl wT (fun hc => v_or_g hc rfl rfl rfl rfl) ?_
  refine s_val rfl rfl (v_and rfl rfl rfl rfl) ?_
  refine s_val rfl rfl (v_move rfl rfl) ?_
  refine s_gval rfl rfl rfl wT (fun hc => v_move rfl (by first | exact gve hc rfl | exact gve (and_l hc) rfl | exact gve (and_l (and_l hc)) rfl | rfl)) ?_
  refine s_gval rfl rfl rfl wT (fun hc => v_cmp rfl (by first | exact gve hc rfl | exact gve (and_l hc) rfl | exact gve (and_l (and_l hc)) rfl | rfl) rfl rfl) ?_
  refine s_gval rfl rfl rfl wT (fun hc => v_move rfl (by first | exact gve hc rfl | exact gve (and_l hc) rfl | exact gve (and_l (and_l hc)) rfl | rfl)) ?_
  refine s_gval rfl rfl rfl wF (fun hc => v_fa fa33_6 rfl (by first | exact gve hc rfl | exact gve (and_l hc) rfl | exact gve (and_l (and_l hc)) rfl | rfl)) ?_
  refine s_gval rfl rfl rfl wF (fun hc => v_load1 rfl (by first | exact gve hc rfl | exact gve (and_l hc) rfl | exact gve (and_l (and_l hc)) rfl | rfl) Try.underlying30 rfl (cx.cell 0 rfl rfl)) ?_
  refine s_gval rfl rfl rfl wF (fun hc => v_lenSlice rfl (by first | exact gve hc rfl | exact gve (and_l hc) rfl | exact gve (and_l (and_l hc)) rfl | rfl) Try.underlying30) ?_
  refine s_gval rfl rfl rfl wF (fun hc => v_cmp rfl (by first | exact gve hc rfl | exact gve (and_l hc) rfl | exact gve (and_l (and_l hc)) rfl | rfl) rfl rfl) ?_
  refine s_gval rfl rfl rfl wT (fun hc => v_or_g hc rfl rfl rfl rfl) ?_
  refine s_val rfl rfl (v_and rfl rfl rfl rfl) ?_
  refine s_val rfl rfl (v_move rfl rfl) ?_
  refine s_gval rfl rfl rfl wT (fun hc => v_move rfl (by first | exact gve hc rfl | exact gve (and_l hc) rfl | exact gve (and_l (and_l hc)) rfl | rfl)) ?_
  refine s_gval rfl rfl rfl wT (fun hc => v_cmp rfl (by first | exact gve hc rfl | exact gve (and_l hc) rfl | exact gve (and_l (and_l hc)) rfl | rfl) rfl rfl) ?_
  refine s_gval rfl rfl rfl wT (fun hc => v_move rfl (by first | exact gve hc rfl | exact gve (and_l hc) rfl | exact gve (and_l (and_l hc)) rfl | rfl)) ?_
  refine s_gval rfl rfl rfl wF (fun hc => v_fa fa33_7 rfl (by first | exact gve hc rfl | exact gve (and_l hc) rfl | exact gve (and_l (and_l hc)) rfl | rfl)) ?_
  refine s_gval rfl rfl rfl wF (fun hc => v_load1 rfl (by first | exact gve hc rfl | exact gve (and_l hc) rfl | exact gve (and_l (and_l hc)) rfl | rfl) Try.underlying31 rfl (cx.cell 0 rfl rfl)) ?_
  refine s_gval rfl rfl rfl wF (fun hc => v_lenSlice rfl (by first | exact gve hc rfl | exact gve (and_l hc) rfl | exact gve (and_l (and_l hc)) rfl | rfl) Try.underlying31) ?_
  refine s_gval rfl rfl rfl wF (fun hc => v_cmp rfl (by first | exact gve hc rfl | exact gve (and_l hc) rfl | exact gve (and_l (and_l hc)) rfl | rfl) rfl rfl) ?_
  refine s_gval rfl rfl rfl wT (fun hc => v_or_g hc rfl rfl rfl rfl) ?_
  refine s_val rfl rfl (v_and rfl rfl rfl rfl) ?_
  refine s_val rfl rfl (v_assign rfl rfl) ?_
  refine wpList_nil ?_
  refine wp_ret ?_
  refine ret_tmp Try.results131 rfl ?_
  refine ⟨cx.ext, _, rfl, ?_⟩
  try simp only [Bool.and_eq_true, Bool.or_eq_true, Bool.not_eq_true', decide_eq_true_eq, beq_iff_eq, Bool.or_eq_false_iff, Bool.and_eq_false_iff, decide_eq_false_iff_not, bne_eq_false_iff_eq, Bool.not_eq_false'] at hc39
  obtain ⟨⟨⟨⟨h1, h2⟩, h3⟩, h4⟩, h5⟩ := hc39
  simp only [Bool.and_eq_true, Bool.or_eq_true, decide_eq_true_eq, beq_iff_eq]
  constructor
  · rintro ⟨⟨⟨h6, h7⟩, h8⟩, h9⟩
    exact ⟨by omega, by omega, fun h => h3.resolve_left h, fun h => h4.resolve_left h, fun h => h5.resolve_left h, fun h => h6.resolve_left h, fun h => by have := h7.resolve_left h; omega, fun h => by have := h8.resolve_left h; omega, fun h => by have := h9.resolve_left h; omega⟩
  · intro h
    refine ⟨⟨⟨?_, ?_⟩, ?_⟩, ?_⟩
    · by_cases hk : s.kind = 4
      · exact .inl hk
      · exact .inr (h.text hk)
    · by_cases hk : s.kind = 5
      · exact .inl hk
      · exact .inr (by have := h.bytes hk; omega)
    · by_cases hk : s.kind = 6
      · exact .inl hk
      · exact .inr (by have := h.list hk; omega)
    · by_cases hk : s.kind = 7
      · exact .inl hk
      · exact .inr (by have := h.fields hk; omega)
end Go.Proofs.Ytmkihcdcgkdilaa
end
section
namespace Go.Proofs.Ytmkihcdcgkdilaa
open Go Go.Dk Go.RowKit
set_option linter.unusedSimpArgs false
set_option linter.unusedVariables false
attribute [local irreducible] Go.wpList Go.Code.wp Go.bodyPost Go.wpStill
theorem keys_ne {l : List (ByteArray × V)} (hn : (keysOf l).Nodup) {i j : Nat} (hi : i < l.length) (hj : j < l.length) (hne : i < j) : l[i].1 ≠ l[j].1 := by
  intro e
  have h := List.pairwise_iff_getElem.1 hn i j (by simpa [keysOf] using hi) (by simpa [keysOf] using hj) hne
  simp only [keysOf, List.getElem_map] at h
  exact h e
set_option maxRecDepth 10000 in
theorem c135x (l : List (ByteArray × V)) (s : Value) (w0 : World) (hv : Fld w0 s l) (hf : FineF l) : Fc Try.prog 135 [s] w0 (IsI fun m => m = 0 ↔ KeysOk l) := by
  obtain ⟨a, c, b, o, rfl, hla, hget⟩ := hv.open
  have hlen := hf.1
  refine ret_enter Try.func135 rfl Try.ntmps135 rfl ?_
  have cx := Ctx.start w0
  refine wp_seq ?_
  refine wp_region_lit ?_
  refine s_val rfl rfl (v_assign rfl rfl) ?_
  refine wpList_nil ?_
  refine wp_seq ?_
  refine wp_seq ?_
  refine wp_region_lit ?_
  refine s_val rfl rfl (v_assign rfl rfl) ?_
  refine wpList_nil ?_
  refine wp_block ?_
  refine w_loop (fun k f w1 => ∃ i : Nat, k + i = l.length ∧ f 0 = .slice a l.length c ∧ f 3 = .int .i64 i ∧ Ctx w0 w1 [] ∧ (∀ (q : Nat) (hq : q < l.length), q < i → VT l[q].1 ∧ l[q].1.size ≤ 1024) ∧ (keysOf (l.take i)).Nodup) (l.length) ?_ ?_
  · skip
    exact ⟨0, by omega, rfl, rfl, cx, fun q hq h => by omega, by simp [keysOf]⟩
  intro gk2 f w hJ
  obtain ⟨i, hk, hs0, hs3, cx, hok, hnd⟩ := hJ
  refine wp_seq ?_
  refine wp_seq ?_
  refine wp_region_lit ?_
  refine s_val rfl rfl (v_move rfl hs3) ?_
  refine s_val rfl rfl (v_move rfl hs0) ?_
  refine s_val rfl rfl (v_lenSlice rfl rfl Try.underlying31) ?_
  refine s_val rfl rfl (v_cmp rfl rfl rfl rfl) ?_
  refine wpList_nil ?_
  refine c_split rfl (fun hc8 => ?_) (fun hc8 => ?_)
  · skip
    try simp only [bsl] at hc8
    obtain rfl := hla (by omega)
    obtain ⟨r, hr, hv⟩ := hget i l[i] (List.getElem?_eq_getElem (by omega))
    have hkz := (hf.2 l[i] (List.getElem_mem _)).1
    refine wp_skip ?_
    refine wp_seq ?_
    refine wp_block ?_
    refine wp_seq ?_
    refine wp_seq ?_
    refine wp_region_lit ?_
    refine s_val rfl rfl (v_move rfl hs0) ?_
    refine s_val rfl rfl (v_move rfl hs3) ?_
    refine s_val rfl rfl (v_ia Try.underlying31 sz77 rfl rfl rfl (by omega) (by omega)) ?_
    refine s_val rfl rfl (v_fa fa77_0 rfl rfl) ?_
    refine s_val rfl rfl (v_load1 rfl rfl Try.underlying9 rfl ((hr.up cx.ext).cell 0 rfl)) ?_
    refine s_fnB cx (c134x _ _ (by omega)) Try.func134 rfl rfl rfl rfl rfl rfl ?_; intro q16 w cx hw16 hp16
    refine s_val rfl rfl (v_not rfl rfl) ?_
    refine wpList_nil ?_
    refine c_split rfl (fun hc17 => ?_) (fun hc17 => ?_)
    · skip
      refine wp_seq ?_
      refine wp_region_lit ?_
      refine s_val rfl rfl (v_assign rfl rfl) ?_
      refine wpList_nil ?_
      refine wp_ret ?_
      refine ret_tmp Try.results135 rfl ?_
      refine ⟨cx.ext, _, rfl, (fun h => by cases h), fun h => ?_⟩
      have h1 := hp16.2 (h.1 _ (List.getElem_mem _)).1
      rw [h1] at hc17; cases hc17
    have hvt : VT l[i].1 := hp16.1 (by simpa using hc17)
    refine wp_skip ?_
    refine wp_seq ?_
    refine wp_seq ?_
    refine wp_region_lit ?_
    refine s_val rfl rfl (v_move rfl hs0) ?_
    refine s_val rfl rfl (v_move rfl hs3) ?_
    refine s_val rfl rfl (v_ia Try.underlying31 sz77 rfl rfl rfl (by omega) (by omega)) ?_
    refine s_val rfl rfl (v_fa fa77_0 rfl rfl) ?_
    refine s_val rfl rfl (v_load1 rfl rfl Try.underlying9 rfl ((hr.up cx.ext).cell 0 rfl)) ?_
    refine s_val rfl rfl (v_lenString rfl rfl Try.underlying9) ?_
    refine s_val rfl rfl (v_cmp rfl rfl rfl rfl) ?_
    refine wpList_nil ?_
    refine c_split rfl (fun hc24 => ?_) (fun hc24 => ?_)
    · skip
      try simp only [bsl] at hc24
      refine wp_seq ?_
      refine wp_region_lit ?_
      refine s_val rfl rfl (v_assign rfl rfl) ?_
      refine wpList_nil ?_
      refine wp_ret ?_
      refine ret_tmp Try.results135 rfl ?_
      refine ⟨cx.ext, _, rfl, (fun h => by cases h), fun h => ?_⟩
      have h1 := (h.1 _ (List.getElem_mem (by omega : i < l.length))).2
      omega
    try simp only [bsl] at hc24
    refine wp_skip ?_
    refine wp_seq ?_
    refine wp_region_lit ?_
    refine s_val rfl rfl (v_assign rfl rfl) ?_
    refine wpList_nil ?_
    refine wp_block ?_
    refine w_loop (fun k f w1 => ∃ j : Nat, k + j = i ∧ f 0 = .slice (some ⟨b, o, none⟩) l.length c ∧ f 3 = .int .i64 i ∧ f 4 = .int .i64 j ∧ Ctx w0 w1 [] ∧ ∀ q (hq : q < l.length), q < j → l[q].1 ≠ (l[i]'(by omega)).1) (i) ?_ ?_
    · skip
      exact ⟨0, by omega, hs0, hs3, rfl, cx, fun q _ h => by omega⟩
    intro gk9 f w hJ
    obtain ⟨j, hkj, hs0, hs3, hs4, cx, hall⟩ := hJ
    refine wp_seq ?_
    refine wp_seq ?_
    refine wp_region_lit ?_
    refine s_val rfl rfl (v_move rfl hs4) ?_
    refine s_val rfl rfl (v_move rfl hs3) ?_
    refine s_val rfl rfl (v_cmp rfl rfl rfl rfl) ?_
    refine wpList_nil ?_
    refine c_split rfl (fun hc27 => ?_) (fun hc27 => ?_)
    · skip
      try simp only [bsl] at hc27
      obtain ⟨r2, hr2, hv2⟩ := hget j l[j] (List.getElem?_eq_getElem (by omega))
      refine wp_skip ?_
      refine wp_seq ?_
      refine wp_block ?_
      refine wp_seq ?_
      refine w_still cx mixed (by kernel_rfl) ?_; intro w cx hwD11
      refine t_val rfl rfl (v_move rfl hs0) ?_
      refine t_val rfl rfl (v_move rfl hs4) ?_
      refine t_val rfl rfl (v_ia Try.underlying31 sz77 rfl rfl rfl (by omega) (by omega)) ?_
      refine t_val rfl rfl (v_fa fa77_0 rfl rfl) ?_
      refine t_val rfl rfl (v_load1 rfl rfl Try.underlying9 rfl ((hr2.up cx.ext).cell 0 rfl)) ?_
      refine t_val rfl rfl (v_move rfl hs0) ?_
      refine t_val rfl rfl (v_move rfl hs3) ?_
      refine t_val rfl rfl (v_ia Try.underlying31 sz77 rfl rfl rfl (by omega) (by omega)) ?_
      refine t_val rfl rfl (v_fa fa77_0 rfl rfl) ?_
      refine t_val rfl rfl (v_load1 rfl rfl Try.underlying9 rfl ((hr.up cx.ext).cell 0 rfl)) ?_
      refine t_val rfl rfl (v_strEq rfl rfl rfl) ?_
      refine t_nil ?_
      refine c_split rfl (fun hc40 => ?_) (fun hc40 => ?_)
      · skip
        try simp only [bsl] at hc40
        refine wp_seq ?_
        refine wp_region_lit ?_
        refine s_val rfl rfl (v_assign rfl rfl) ?_
        refine wpList_nil ?_
        refine wp_ret ?_
        refine ret_tmp Try.results135 rfl ?_
        refine ⟨cx.ext, _, rfl, (fun h => by cases h), fun h => ?_⟩
        exfalso
        exact keys_ne h.2 (show j < l.length by omega) (show i < l.length by omega) (by omega) hc40
      try simp only [bsl] at hc40
      refine wp_skip ?_
      refine wp_region_lit ?_
      refine s_val rfl rfl (v_move rfl hs4) ?_
      refine s_val rfl rfl (v_add rfl rfl rfl (by omega) (by omega)) ?_
      refine s_val rfl rfl (v_assign rfl rfl) ?_
      refine wpList_nil ?_
      refine ⟨gk9 - 1, _, by omega, rfl, j + 1, by omega, hs0, hs3, rfl, cx, fun q hq hqj => ?_⟩
      rcases Nat.lt_or_ge q j with h | h
      · exact hall q hq h
      · have : q = j := by omega
        subst this
        exact hc40
    try simp only [bsl] at hc27
    refine wp_exit ?_
    refine wp_region_lit ?_
    refine s_val rfl rfl (v_move rfl hs3) ?_
    refine s_val rfl rfl (v_add rfl rfl rfl (by omega) (by omega)) ?_
    refine s_val rfl rfl (v_assign rfl rfl) ?_
    refine wpList_nil ?_
    refine ⟨gk2 - 1, _, by omega, rfl, i + 1, by omega, hs0, rfl, cx, fun q hq h => ?_, ?_⟩
    · rcases Nat.lt_or_ge q i with h2 | h2
      · exact hok q hq h2
      · have : q = i := by omega
        subst this
        exact ⟨hvt, by omega⟩
    rw [List.take_succ_eq_append_getElem (by omega)]
    have hj : j = i := by omega
    subst hj
    unfold keysOf at hnd ⊢
    rw [List.map_append]
    refine nodup_snoc hnd fun hm => ?_
    obtain ⟨kv, hkv, he⟩ := List.mem_map.1 hm
    obtain ⟨q, hq, rfl⟩ := List.getElem_of_mem hkv
    simp only [List.length_take] at hq
    exact hall q (by omega) (by omega) (by simpa using he)
  try simp only [bsl] at hc8
  refine wp_exit ?_
  refine wp_seq ?_
  refine wp_region_lit ?_
  refine s_val rfl rfl (v_assign rfl rfl) ?_
  refine wpList_nil ?_
  refine wp_ret ?_
  refine ret_tmp Try.results135 rfl ?_
  refine ⟨cx.ext, _, rfl, fun _ => ?_, fun _ => rfl⟩
  have hi : i = l.length := by omega
  subst hi
  rw [List.take_length] at hnd
  exact ⟨fun kv hk => by
    obtain ⟨q, hq, rfl⟩ := List.getElem_of_mem hk
    exact hok q hq hq, hnd⟩
set_option maxRecDepth 10000 in
theorem c111x (v : V) (l : List Value) (w0 : World) (hv : Val w0 v l) (hf : Fine v) : Fc Try.prog 111 [.agg l.toArray] w0 (IsI fun m => m = 0 ↔ Gd1 v) := by
  obtain ⟨bs, ls, fs, rfl, hbs, hls, hfs⟩ := hv.open
  have hfs0 := hfs
  obtain ⟨ba, bc, bb, bo, rfl, _, _⟩ := hbs.form
  obtain ⟨la, lc, lb, lo, rfl, _, _⟩ := hls.open
  obtain ⟨fa, fc, fb, fo, rfl, _, _⟩ := hfs0.open
  have hz := hf.self
  refine ret_enter Try.func111 rfl Try.ntmps111 rfl ?_
  have cx := Ctx.start w0
  refine wp_seq ?_
  refine wp_region_lit ?_
  refine s_box cx rfl rfl rfl rfl rfl ?_; intro b1 w cx hb1 hw1
  refine s_val rfl rfl (v_assign rfl rfl) ?_
  refine wpList_nil ?_
  refine wp_seq ?_
  refine wp_seq ?_
  refine wp_region_lit ?_
  refine s_val rfl rfl (v_load rfl rfl Try.underlying33 rfl sz33 (cx.row 0 rfl) (by first | rfl | exact hv.len)) ?_
  refine s_fnB cx (c131x _ _ _ _ _ _ _ _ _ _ _) Try.func131 rfl rfl rfl rfl rfl rfl ?_; intro q4 w cx hw4 hp4
  refine s_val rfl rfl (v_not rfl rfl) ?_
  refine wpList_nil ?_
  refine c_split rfl (fun hc5 => ?_) (fun hc5 => ?_)
  · skip
    refine wp_seq ?_
    refine wp_region_lit ?_
    refine s_val rfl rfl (v_assign rfl rfl) ?_
    refine wpList_nil ?_
    refine wp_ret ?_
    refine ret_tmp Try.results111 rfl ?_
    refine ⟨cx.ext, _, rfl, (fun h => by cases h), fun h => ?_⟩
    exfalso
    have h2 := hp4.2 h.1
    rw [h2] at hc5; cases hc5
  refine wp_skip ?_
  refine wp_seq ?_
  refine wp_seq ?_
  refine wp_region_lit ?_
  refine s_val rfl rfl (v_fa fa33_2 rfl rfl) ?_
  refine s_val rfl rfl (v_load rfl rfl Try.underlying26 rfl sz26 ((cx.row 0 rfl).r3 2 rfl rfl rfl) rfl) ?_
  refine s_fnB cx (c132x _ _ _ _ (by omega)) Try.func132 rfl rfl rfl rfl rfl rfl ?_; intro q8 w cx hw8 hp8
  refine s_val rfl rfl (v_not rfl rfl) ?_
  refine s_val rfl rfl (v_move rfl rfl) ?_
  refine s_gval rfl rfl rfl wF (fun hc => v_fa fa33_0 rfl (by first | exact gve hc rfl | exact gve (and_l hc) rfl | exact gve (and_l (and_l hc)) rfl | rfl)) ?_
  refine s_gval rfl rfl rfl wF (fun hc => v_load1 rfl (by first | exact gve hc rfl | exact gve (and_l hc) rfl | exact gve (and_l (and_l hc)) rfl | rfl) Try.underlying3 rfl (cx.cell 0 rfl rfl)) ?_
  refine s_gval rfl rfl rfl wF (fun hc => v_cmp rfl (by first | exact gve hc rfl | exact gve (and_l hc) rfl | exact gve (and_l (and_l hc)) rfl | rfl) rfl rfl) ?_
  refine s_gval rfl rfl rfl wF (fun hc => v_move rfl (by first | exact gve hc rfl | exact gve (and_l hc) rfl | exact gve (and_l (and_l hc)) rfl | rfl)) ?_
  refine s_gval rfl rfl rfl wT (fun hc => v_fa fa33_3 rfl (by first | exact gve hc rfl | exact gve (and_l hc) rfl | exact gve (and_l (and_l hc)) rfl | rfl)) ?_
  refine s_gval rfl rfl rfl wT (fun hc => v_load rfl (by first | exact gve hc rfl | exact gve (and_l hc) rfl | exact gve (and_l (and_l hc)) rfl | rfl) Try.underlying28 rfl sz28 ((cx.row 0 rfl).r4 5 rfl rfl rfl rfl) rfl) ?_
  refine s_gfnB cx rfl rfl rfl wT (fun hc => c133x _ _ _ _ _) Try.func133 rfl rfl rfl (fun hc => cons_eq (gve hc rfl) rfl) ?_; intro q17 w cx hw17 hp17
  refine s_gval rfl rfl rfl wT (fun hc => v_not rfl (by first | exact gve hc rfl | exact gve (and_l hc) rfl | exact gve (and_l (and_l hc)) rfl | rfl)) ?_
  refine s_gval rfl rfl rfl wF (fun hc => v_and_g hc rfl rfl rfl rfl) ?_
  refine s_val rfl rfl (v_or rfl rfl rfl rfl) ?_
  refine wpList_nil ?_
  refine c_split rfl (fun hc20 => ?_) (fun hc20 => ?_)
  · skip
    try simp only [bsl] at hc20
    refine wp_seq ?_
    refine wp_region_lit ?_
    refine s_val rfl rfl (v_assign rfl rfl) ?_
    refine wpList_nil ?_
    refine wp_ret ?_
    refine ret_tmp Try.results111 rfl ?_
    refine ⟨cx.ext, _, rfl, (fun h => by cases h), fun h => ?_⟩
    exfalso
    rcases hc20 with h2 | ⟨h3, h2⟩
    · have h4 := hp8.2 h.2.1
      rw [h4] at h2; cases h2
    · by_cases h9 : q8 = true
      · have h5 := (hp17 (by rw [h9]; simpa using h3)).2 (h.2.2.1 h3)
        rw [h5] at h2; cases h2
      · exact h9 (hp8.2 h.2.1)
  try simp only [bsl] at hc20
  have hq8 : q8 = true := hc20.1
  refine wp_skip ?_
  refine wp_seq ?_
  refine wp_seq ?_
  refine wp_region_lit ?_
  refine s_val rfl rfl (v_fa fa33_4 rfl rfl) ?_
  refine s_val rfl rfl (v_load1 rfl rfl Try.underlying9 rfl (cx.cell 0 rfl rfl)) ?_
  refine s_fnB cx (c134x _ _ (by omega)) Try.func134 rfl rfl rfl rfl rfl rfl ?_; intro q23 w cx hw23 hp23
  refine s_val rfl rfl (v_not rfl rfl) ?_
  refine wpList_nil ?_
  refine c_split rfl (fun hc24 => ?_) (fun hc24 => ?_)
  · skip
    refine wp_seq ?_
    refine wp_region_lit ?_
    refine s_val rfl rfl (v_assign rfl rfl) ?_
    refine wpList_nil ?_
    refine wp_ret ?_
    refine ret_tmp Try.results111 rfl ?_
    refine ⟨cx.ext, _, rfl, (fun h => by cases h), fun h => ?_⟩
    exfalso
    have h2 := hp23.2 h.2.2.2.1
    rw [h2] at hc24; cases hc24
  refine wp_skip ?_
  refine wp_seq ?_
  refine wp_seq ?_
  refine wp_region_lit ?_
  refine s_val rfl rfl (v_fa fa33_4 rfl rfl) ?_
  refine s_val rfl rfl (v_load1 rfl rfl Try.underlying9 rfl (cx.cell 0 rfl rfl)) ?_
  refine s_val rfl rfl (v_lenString rfl rfl Try.underlying9) ?_
  refine s_val rfl rfl (v_cmp rfl rfl rfl rfl) ?_
  refine s_val rfl rfl (v_move rfl rfl) ?_
  refine s_gval rfl rfl rfl wF (fun hc => v_fa fa33_5 rfl (by first | exact gve hc rfl | exact gve (and_l hc) rfl | exact gve (and_l (and_l hc)) rfl | rfl)) ?_
  refine s_gval rfl rfl rfl wF (fun hc => v_load1 rfl (by first | exact gve hc rfl | exact gve (and_l hc) rfl | exact gve (and_l (and_l hc)) rfl | rfl) Try.underlying29 rfl (cx.cell 0 rfl rfl)) ?_
  refine s_gval rfl rfl rfl wF (fun hc => v_lenSlice rfl (by first | exact gve hc rfl | exact gve (and_l hc) rfl | exact gve (and_l (and_l hc)) rfl | rfl) Try.underlying29) ?_
  refine s_gval rfl rfl rfl wF (fun hc => v_cmp rfl (by first | exact gve hc rfl | exact gve (and_l hc) rfl | exact gve (and_l (and_l hc)) rfl | rfl) rfl rfl) ?_
  refine s_val rfl rfl (v_or rfl rfl rfl rfl) ?_
  refine wpList_nil ?_
  refine c_split rfl (fun hc34 => ?_) (fun hc34 => ?_)
  · skip
    try simp only [bsl] at hc34
    refine wp_seq ?_
    refine wp_region_lit ?_
    refine s_val rfl rfl (v_assign rfl rfl) ?_
    refine wpList_nil ?_
    refine wp_ret ?_
    refine ret_tmp Try.results111 rfl ?_
    refine ⟨cx.ext, _, rfl, (fun h => by cases h), fun h => ?_⟩
    exfalso
    have h2 := h.2.2.2.2.1
    have h3 := h.2.2.2.2.2.1
    omega
  try simp only [bsl] at hc34
  refine wp_skip ?_
  refine wp_seq ?_
  refine wp_region_lit ?_
  refine s_val rfl rfl (v_fa fa33_7 rfl rfl) ?_
  refine s_val rfl rfl (v_load1 rfl rfl Try.underlying31 rfl (cx.cell 0 rfl rfl)) ?_
  refine s_fnI cx (c135x _ _ _ (hfs.up cx.ext) hf.f) Try.func135 rfl rfl rfl rfl rfl rfl ?_; intro q37 w cx hw37 hp37
  refine s_val rfl rfl (v_assign rfl rfl) ?_
  refine wpList_nil ?_
  refine wp_ret ?_
  refine ret_tmp Try.results111 rfl ?_
  refine ⟨cx.ext, _, rfl, fun h => ⟨hp4.1 (by simpa using hc5), hp8.1 hq8, fun hk3 => ?_, hp23.1 (by simpa using hc24), by omega, by omega, hp37.1 h⟩, fun h => hp37.2 h.2.2.2.2.2.2⟩
  have h1 : (!q8) = false := by rw [hq8]; rfl
  refine (hp17 (by rw [h1]; simpa using hk3)).1 ?_
  have h2 := hc20.2
  rcases h2 with h2 | h2
  · exact absurd hk3 h2
  · exact h2
set_option maxRecDepth 10000 in
theorem c74x : ∀ (d : Nat) (dd seen : Int) (v : V) (l : List Value) (w0 : World), dd + d = 49 → 1 ≤ dd → 0 ≤ seen → seen ≤ 65536 → Val w0 v l → Fine v →
    Fc Try.prog 74 [.agg l.toArray, .int .i64 dd, .int .i64 seen] w0 (fun r _ => ∃ s e : Int, r = .tuple #[.int .i64 s, .int .i64 e] ∧ 0 ≤ s ∧ s ≤ 65536 ∧ (e = 0 → Gok d v ∧ s = seen + tsz d v) ∧ (Gok d v → seen + tsz d v ≤ 65536 → e = 0)) := by
  intro d
  induction d using Nat.strongRecOn with
  | _ d ih =>
  intro dd seen v l w0 hd1 hd2 hs1' hs2' hv hf
  have hkf : ∀ x ∈ kidsR v, Fine x := by
    intro x hx
    unfold kidsR at hx
    split at hx
    · obtain ⟨kv, hkv, rfl⟩ := List.mem_map.1 hx; exact (hf.field hkv).2
    · exact hf.elem hx
  have hkl : (kidsR v).length ≤ 1048576 := by
    have := hf.self
    unfold kidsR
    split
    · simpa using this.2.2.2.2
    · exact this.2.2.2.1
  refine ret_enter Try.func74 rfl Try.ntmps74 rfl ?_
  have cx := Ctx.start w0
  refine wp_seq ?_
  refine wp_region_lit ?_
  refine s_box cx rfl rfl rfl rfl rfl ?_; intro b3 w cx hb3 hw3
  refine s_val rfl rfl (v_assign rfl rfl) ?_
  refine s_val rfl rfl (v_assign rfl rfl) ?_
  refine wpList_nil ?_
  refine wp_seq ?_
  refine wp_seq ?_
  refine wp_region_lit ?_
  refine s_val rfl rfl (v_move rfl rfl) ?_
  refine s_val rfl rfl (v_cmp rfl rfl rfl rfl) ?_
  refine wpList_nil ?_
  refine c_split rfl (fun hc13 => ?_) (fun hc13 => ?_)
  · skip
    try simp only [bsl] at hc13
    refine wp_seq ?_
    refine wp_region_lit ?_
    refine s_val rfl rfl (v_move rfl rfl) ?_
    refine s_val rfl rfl (v_assign rfl rfl) ?_
    refine s_val rfl rfl (v_assign rfl rfl) ?_
    refine wpList_nil ?_
    refine wp_ret ?_
    refine ret_tmp2 Try.results74 rfl rfl ?_
    refine ⟨cx.ext, _, _, rfl, by omega, by omega, (fun h => by cases h), fun h => ?_⟩
    have : d = 0 := by omega
    subst this
    exact h.elim
  try simp only [bsl] at hc13
  refine wp_skip ?_
  refine wp_seq ?_
  refine wp_seq ?_
  refine wp_region_lit ?_
  refine s_val rfl rfl (v_move rfl rfl) ?_
  refine s_val rfl rfl (v_cmp rfl rfl rfl rfl) ?_
  refine wpList_nil ?_
  refine c_split rfl (fun hc16 => ?_) (fun hc16 => ?_)
  · skip
    try simp only [bsl] at hc16
    refine wp_seq ?_
    refine wp_region_lit ?_
    refine s_val rfl rfl (v_move rfl rfl) ?_
    refine s_val rfl rfl (v_assign rfl rfl) ?_
    refine s_val rfl rfl (v_assign rfl rfl) ?_
    refine wpList_nil ?_
    refine wp_ret ?_
    refine ret_tmp2 Try.results74 rfl rfl ?_
    refine ⟨cx.ext, _, _, rfl, by omega, by omega, (fun h => by cases h), fun h h2 => ?_⟩
    have := tsz_pos d v
    omega
  try simp only [bsl] at hc16
  refine wp_skip ?_
  refine wp_seq ?_
  refine wp_seq ?_
  refine wp_region_lit ?_
  refine s_val rfl rfl (v_load rfl rfl Try.underlying33 rfl sz33 (cx.row 0 rfl) hv.len) ?_
  refine s_fnI cx (c111x _ _ _ (hv.up cx.ext) hf) Try.func111 rfl rfl rfl rfl rfl rfl ?_; intro q19 w cx hw19 hp19
  refine s_val rfl rfl (v_assign rfl rfl) ?_
  refine wpList_nil ?_
  refine wp_seq ?_
  refine wp_region_lit ?_
  refine s_val rfl rfl (v_move rfl rfl) ?_
  refine s_val rfl rfl (v_cmp rfl rfl rfl rfl) ?_
  refine wpList_nil ?_
  refine c_split rfl (fun hc21 => ?_) (fun hc21 => ?_)
  · skip
    try simp only [bsl] at hc21
    refine wp_seq ?_
    refine wp_region_lit ?_
    refine s_val rfl rfl (v_move rfl rfl) ?_
    refine s_val rfl rfl (v_move rfl rfl) ?_
    refine s_val rfl rfl (v_assign rfl rfl) ?_
    refine s_val rfl rfl (v_assign rfl rfl) ?_
    refine wpList_nil ?_
    refine wp_ret ?_
    refine ret_tmp2 Try.results74 rfl rfl ?_
    refine ⟨cx.ext, _, _, rfl, by omega, by omega, (fun h => absurd h hc21), fun h h2 => ?_⟩
    exfalso
    obtain ⟨e, rfl⟩ : ∃ e, d = e + 1 := ⟨d - 1, by omega⟩
    exact hc21 (hp19.2 h.1)
  try simp only [bsl] at hc21
  refine wp_skip ?_
  refine wp_seq ?_
  refine wp_region_lit ?_
  refine s_val rfl rfl (v_move rfl rfl) ?_
  refine s_val rfl rfl (v_add rfl rfl rfl (by omega) (by omega)) ?_
  refine s_val rfl rfl (v_assign rfl rfl) ?_
  refine wpList_nil ?_
  refine wp_seq ?_
  refine wp_region_lit ?_
  refine s_val rfl rfl (v_load rfl rfl Try.underlying33 rfl sz33 (cx.row 0 rfl) hv.len) ?_
  refine s_fn cx (c76 _ _ _ (hv.up cx.ext) hf) Try.func76 rfl rfl rfl rfl rfl rfl ?_; intro q27 wk cx hw27 hp27
  obtain ⟨ka, kc, kb, ko, rfl, hka, hkget⟩ := hp27.open
  replace cx := cx.drop 1
  refine s_val rfl rfl (v_assign rfl rfl) ?_
  refine wpList_nil ?_
  refine wp_seq ?_
  refine wp_seq ?_
  refine wp_region_lit ?_
  refine s_val rfl rfl (v_assign rfl rfl) ?_
  refine wpList_nil ?_
  refine wp_block ?_
  refine w_loop (fun k f w1 => ∃ (i : Nat) (s : Int), k + i = (kidsR v).length ∧ 0 ≤ s ∧ s ≤ 65536 ∧ f 1 = .int .i64 dd ∧ f 2 = .int .i64 s ∧ f 9 = .slice ka (kidsR v).length kc ∧ f 10 = .int .i64 i ∧ Ctx w0 w1 [] ∧ Below wk.heap.size wk w1 ∧ (∀ x ∈ (kidsR v).take i, Gok (d - 1) x) ∧ s = seen + 1 + (((kidsR v).take i).map (tsz (d - 1))).sum) ((kidsR v).length) ?_ ?_
  · skip
    exact ⟨0, _, by omega, by omega, by omega, rfl, rfl, rfl, rfl, cx, Below.refl _ _, by simp, by simp⟩
  intro gk11 f w hJ
  obtain ⟨i, s, hk, hs00, hs01, hs1, hs2, hs9, hs10, cx, hbk, hall, hsum⟩ := hJ
  refine wp_seq ?_
  refine wp_seq ?_
  refine wp_region_lit ?_
  refine s_val rfl rfl (v_move rfl hs10) ?_
  refine s_val rfl rfl (v_move rfl hs9) ?_
  refine s_val rfl rfl (v_lenSlice rfl rfl Try.underlying30) ?_
  refine s_val rfl rfl (v_cmp rfl rfl rfl rfl) ?_
  refine wpList_nil ?_
  refine c_split rfl (fun hc31 => ?_) (fun hc31 => ?_)
  · skip
    try simp only [bsl] at hc31
    obtain rfl := hka (by omega)
    obtain ⟨r, hr, hrv⟩ := hkget i (kidsR v)[i] (List.getElem?_eq_getElem (by omega))
    refine wp_skip ?_
    refine wp_seq ?_
    refine wp_block ?_
    refine wp_seq ?_
    refine wp_region_lit ?_
    refine s_val rfl rfl (v_assign rfl rfl) ?_
    refine wpList_nil ?_
    refine wp_seq ?_
    refine wp_region_lit ?_
    refine s_val rfl rfl (v_move rfl hs9) ?_
    refine s_val rfl rfl (v_move rfl hs10) ?_
    refine s_val rfl rfl (v_ia Try.underlying30 sz33 rfl rfl rfl (by omega) (by omega)) ?_
    refine s_val rfl rfl (v_load rfl rfl Try.underlying33 rfl sz33 (hr.up hbk) hrv.len) ?_
    refine s_val rfl rfl (v_move rfl hs1) ?_
    refine s_val rfl rfl (v_add rfl rfl rfl (by omega) (by omega)) ?_
    refine s_val rfl rfl (v_move rfl hs2) ?_
    refine s_fn cx (ih (d - 1) (by omega) _ _ _ _ _ (by omega) (by omega) (by omega) (by omega) (hrv.up hbk) (hkf _ (List.getElem_mem _))) Try.func74 rfl rfl rfl rfl rfl rfl ?_; intro q42 w cx hw42 hp42
    obtain ⟨s2, e2, rfl, h20, h21, h22, h23⟩ := hp42
    refine s_val rfl rfl (v_move rfl rfl) ?_
    refine s_val rfl rfl (v_extract rfl rfl rfl) ?_
    refine s_val rfl rfl (v_extract rfl rfl rfl) ?_
    refine s_val rfl rfl (v_assign rfl rfl) ?_
    refine s_val rfl rfl (v_assign rfl rfl) ?_
    refine wpList_nil ?_
    refine wp_seq ?_
    refine wp_region_lit ?_
    refine s_val rfl rfl (v_move rfl rfl) ?_
    refine s_val rfl rfl (v_cmp rfl rfl rfl rfl) ?_
    refine wpList_nil ?_
    refine c_split rfl (fun hc46 => ?_) (fun hc46 => ?_)
    · skip
      try simp only [bsl] at hc46
      refine wp_seq ?_
      refine wp_region_lit ?_
      refine s_val rfl rfl (v_move rfl rfl) ?_
      refine s_val rfl rfl (v_move rfl rfl) ?_
      refine s_val rfl rfl (v_assign rfl rfl) ?_
      refine s_val rfl rfl (v_assign rfl rfl) ?_
      refine wpList_nil ?_
      refine wp_ret ?_
      refine ret_tmp2 Try.results74 rfl rfl ?_
      refine ⟨cx.ext, _, _, rfl, by omega, by omega, (fun h => absurd h hc46), fun h h2 => ?_⟩
      exfalso
      obtain ⟨e, rfl⟩ : ∃ e, d = e + 1 := ⟨d - 1, by omega⟩
      rw [kids_tsz h.1.1] at h2
      have hst := sum_takeN (tsz e) (kidsR v) (show i < (kidsR v).length by omega)
      exact hc46 (h23 (h.kid (List.getElem_mem _)) (by simp only [Nat.add_sub_cancel] at *; omega))
    try simp only [bsl] at hc46
    refine wp_skip ?_
    refine wp_region_lit ?_
    refine s_val rfl rfl (v_move rfl hs10) ?_
    refine s_val rfl rfl (v_add rfl rfl rfl (by omega) (by omega)) ?_
    refine s_val rfl rfl (v_assign rfl rfl) ?_
    refine wpList_nil ?_
    have hst := sum_takeN (tsz (d - 1)) (kidsR v) (show i < (kidsR v).length by omega)
    refine ⟨gk11 - 1, _, by omega, rfl, i + 1, s2, by omega, by omega, by omega, hs1, rfl, hs9, rfl, cx, hbk.trans (hw42.mono hbk.size), ?_, by have := (h22 hc46).2; omega⟩
    intro x hx
    rw [List.take_succ_eq_append_getElem (by omega)] at hx
    rcases List.mem_append.1 hx with hx | hx
    · exact hall x hx
    · simp at hx; subst hx; exact (h22 hc46).1
  try simp only [bsl] at hc31
  refine wp_exit ?_
  refine wp_seq ?_
  refine wp_region_lit ?_
  refine s_val rfl rfl (v_move rfl hs2) ?_
  refine s_val rfl rfl (v_assign rfl rfl) ?_
  refine s_val rfl rfl (v_assign rfl rfl) ?_
  refine wpList_nil ?_
  refine wp_ret ?_
  refine ret_tmp2 Try.results74 rfl rfl ?_
  have hi : i = (kidsR v).length := by omega
  subst hi
  rw [List.take_length] at hall hsum
  obtain ⟨e, rfl⟩ : ∃ e, d = e + 1 := ⟨d - 1, by omega⟩
  have hg := gok_of_kids (hp19.1 hc21) hall
  refine ⟨cx.ext, _, _, rfl, by omega, by omega, fun _ => ⟨hg, ?_⟩, fun _ _ => rfl⟩
  rw [kids_tsz hg.1.1]
  simp only [Nat.add_sub_cancel] at hsum
  omega
set_option maxRecDepth 10000 in
theorem c47x (v : V) (l : List Value) (w0 : World) (hv : Val w0 v l) (hf : Fine v) : Fc Try.prog 47 [.agg l.toArray] w0 (IsI fun m => (m = 0 → Gok 48 v ∧ tsz 48 v ≤ 65536) ∧ (Gok 48 v → tsz 48 v ≤ 65536 → m = 0)) := by
  refine ret_enter Try.func47 rfl Try.ntmps47 rfl ?_
  have cx := Ctx.start w0
  refine wp_seq ?_
  refine wp_region_lit ?_
  refine s_box cx rfl rfl rfl rfl rfl ?_; intro b1 w cx hb1 hw1
  refine s_val rfl rfl (v_assign rfl rfl) ?_
  refine wpList_nil ?_
  refine wp_seq ?_
  refine wp_region_lit ?_
  refine s_val rfl rfl (v_load rfl rfl Try.underlying33 rfl sz33 (cx.row 0 rfl) hv.len) ?_
  refine s_fn cx (c74x 48 _ _ _ _ _ (by omega) (by omega) (by omega) (by omega) (hv.up cx.ext) hf) Try.func74 rfl rfl rfl rfl rfl rfl ?_; intro q7 w cx hw7 hp7
  obtain ⟨es7, ee7, rfl, h70, h71, he⟩ := hp7
  refine s_val rfl rfl (v_move rfl rfl) ?_
  refine s_val rfl rfl (v_extract rfl rfl rfl) ?_
  refine s_val rfl rfl (v_extract rfl rfl rfl) ?_
  refine s_val rfl rfl (v_assign rfl rfl) ?_
  refine s_val rfl rfl (v_assign rfl rfl) ?_
  refine wpList_nil ?_
  refine wp_seq ?_
  refine wp_region_lit ?_
  refine s_val rfl rfl (v_move rfl rfl) ?_
  refine s_val rfl rfl (v_assign rfl rfl) ?_
  refine wpList_nil ?_
  refine wp_ret ?_
  refine ret_tmp Try.results47 rfl ?_
  exact ⟨cx.ext, _, rfl, fun h => ⟨(he.1 h).1, by have := (he.1 h).2; omega⟩, fun h h2 => he.2 h (by omega)⟩
end Go.Proofs.Ytmkihcdcgkdilaa
end
section
set_option linter.unusedVariables false
namespace Go.Dk
open Go Go.RowKit
section
variable {P : Program} {ops : Array Oper} {Q : Exit → Act → World → Prop} {rest : List Oper} {o : Oper} {n : Nat} {f : Nat → Value} {w w0 : World} {L : List (Nat × Obj)} {R : List Row}
theorem s_storeMid {t T : TypeId} {x y : Operand} {b j : Nat} {l cs : List Value} (cx : Cxr w0 w L R) (i : Nat) (hg : o.guard = none) (hd : o.dst = none) (ho : o.op = .store t x y) (hx : ev n f x = .pointer (some ⟨b, j, none⟩)) (hy : ev n f y = .agg l.toArray)
    (hi : L[i]? = some (b, .cells cs.toArray T)) (hs : (P.info? t).map (·.size) = some l.length) (hj : j + l.length ≤ cs.length) (h1 : l.all (·.oneCell') = true)
    (h : ∀ w', Cxr w0 w' (L.set i (b, .cells (cs.take j ++ l ++ cs.drop (j + l.length)).toArray T)) R → w.grownBy w' (some b) → wpList P ops Q rest (St n f) w') : wpList P ops Q (o :: rest) (St n f) w := by
  have hb := cx.at i hi
  have hrun := run_storeCells_at P b j T l 0 cs.toArray w hb (by simpa using hj) (fun v hv => List.all_eq_true.1 h1 v hv)
  simp only [Nat.add_zero] at hrun
  refine s_put (w' := w.setRow b (cs.take j ++ l ++ cs.drop (j + l.length)).toArray) hg hd ?_ (h _ (setRow_ctx cx i hi) ⟨rfl, rfl, rfl, by simp, fun k _ hne => setRow_other w b k _ fun e => hne (by rw [e])⟩)
  unfold execOp; rw [ho]
  cases hq : P.info? t with
  | none => simp [hq] at hs
  | some i =>
    have hs' : l.length = i.size := by simp [hq] at hs; omega
    simp [hx, hy, Instr.storeAt, Instr.sureAddr, storeVar, sizeOf, typeInfo, hq, Value.cells, hs', hrun]
end
theorem lstJ_of_row {B : Nat} {w0 w : World} {v : Value} {n : Nat} {e : Nat} {vs : List V} {rs : List (List Value)} {A : Nat → Prop} (row : w.ownsRow B e 13 v n rs.flatten) (hn : n = vs.length) (hr : RowsV A w0 vs rs) (hk : Keeps A w0 w) : RepL (fun b => A b ∨ v.ownBlock = some b) w v vs := by
  subst hn
  rcases row.2 with ⟨rfl, h0⟩ | ⟨g, cap, cur, rfl, hb, hg, hle, _, hcs, htake⟩
  · have : vs = [] := List.eq_nil_of_length_eq_zero h0
    subst this
    exact ⟨0, 0, .inl ⟨rfl, rfl⟩, trivial⟩
  · have hrow : RowAt w g 0 rs.flatten := by
      intro j x hj
      rw [cell_of_row w g (0 + j) cur _ _ hg]
      rw [← htake] at hj
      rw [List.getElem?_take] at hj
      split at hj
      · simpa using hj
      · cases hj
    exact ⟨g, 0, .inr ⟨_, cap, rfl, hle, fun _ => ⟨rfl, .inr rfl⟩⟩, (RowsV.reps (fun b h => .inl h) hk vs rs 0 hr hrow).1⟩
section
variable {w0 w : World} {L : List (Nat × Obj)} {R : List Row} {v : Value} {n : Nat} {e : Nat} {rs : List (List Value)} {A : Nat → Prop}
theorem Cxr.lstA {vs : List V} (cx : Cxr w0 w L (⟨e, 13, v, n, rs.flatten⟩ :: R)) (hA : ∀ b, A b → b < w0.heap.size) (hn : n = vs.length) (hr : RowsV A w0 vs rs) : RepL (fun b => A b ∨ Fr w0 w b) w v vs :=
  (lstJ_of_row (cx.rows _ (List.mem_cons_self ..)) hn hr (fun b hb => cx.ext.block b (hA b hb))).mono (fun b hb => hb.imp id fun h => (cx.rows _ (List.mem_cons_self ..)).lt b h) (fun _ _ => rfl)
theorem Cxr.fldA {vs : List (ByteArray × V)} (cx : Cxr w0 w L (⟨e, 14, v, n, rs.flatten⟩ :: R)) (hA : ∀ b, A b → b < w0.heap.size) (hn : n = vs.length) (hr : RowsF A w0 vs rs) : RepF (fun b => A b ∨ Fr w0 w b) w v vs :=
  RepF.mono (fun b hb => hb.imp id fun h => (cx.rows _ (List.mem_cons_self ..)).lt b h) (fun _ _ => rfl) (fld_of_row (cx.rows _ (List.mem_cons_self ..)) hn hr (fun b hb => cx.ext.block b (hA b hb)))
theorem valLF {k : Int} {l : List V} {fs : List (ByteArray × V)} {x y : Value} (h1 : RepL A w x l) (h2 : RepF A w y fs) : RepV A w (.mk (zk k) [] l fs) (vrow (zk k) (.slice none 0 0) x y) := RepV.mk (v := .mk (zk k) [] l fs) repB_nil h1 h2
theorem RepL.openA {s : Value} {l : List V} (h : RepL A w s l) : ∃ a c b o, s = .slice a l.length c ∧ (0 < l.length → a = some ⟨b, o, none⟩) ∧ ∀ i v, l[i]? = some v → ∃ r, RowAt w b (o + i * 13) r ∧ RepV A w v r := by
  obtain ⟨b, o, hs, hr⟩ := h
  obtain ⟨a, c, e, h⟩ := hs.form
  exact ⟨a, c, b, o, e, h, fun i x hx => RepLs.get l o i x hr hx⟩
theorem RepF.openA {s : Value} {l : List (ByteArray × V)} (h : RepF A w s l) : ∃ a c b o, s = .slice a l.length c ∧ (0 < l.length → a = some ⟨b, o, none⟩) ∧ ∀ i kv, l[i]? = some kv → ∃ r, RowAt w b (o + i * 14) (.string kv.1 :: r) ∧ RepV A w kv.2 r := by
  obtain ⟨b, o, hs, hr⟩ := h
  obtain ⟨a, c, e, h⟩ := hs.form
  exact ⟨a, c, b, o, e, h, fun i x hx => RepFs.get l o i x hr hx⟩
end
end Go.Dk
end
section
namespace Go.Proofs.Ytmkihcdcgkdilaa
open Go Go.Dk Go.RowKit
set_option linter.unusedSimpArgs false
set_option linter.unusedVariables false
attribute [local irreducible] Go.wpList Go.Code.wp Go.bodyPost Go.wpStill
def Fnd (v : V) (s : Stp) (k e : Int) : Prop :=
  (s.byIndex = true → (v.sc.kind ≠ 6 ∧ e = 6) ∨ (v.sc.kind = 6 ∧ 0 ≤ s.index ∧ s.index < v.list.length ∧ k = s.index ∧ e = 0) ∨ (v.sc.kind = 6 ∧ ¬ (0 ≤ s.index ∧ s.index < v.list.length) ∧ e = 7)) ∧
  (s.byIndex = false → (v.sc.kind ≠ 7 ∧ e = 6) ∨ (v.sc.kind = 7 ∧ ∃ t : Nat, k = t ∧ e = 0 ∧ ∃ h : t < v.fields.length, v.fields[t].1 = s.key) ∨ (v.sc.kind = 7 ∧ e = 7 ∧ ∀ (q : Nat) (h : q < v.fields.length), v.fields[q].1 ≠ s.key))
set_option maxRecDepth 10000 in
theorem c105 (v : V) (l : List Value) (s : Stp) (w0 : World) (hv : Val w0 v l) (hf : Fine v) : Fc Try.prog 105 [.agg l.toArray, .agg (srow s).toArray] w0 (fun x _ => ∃ k e : Int, x = .tuple #[.int .i64 k, .int .i64 e] ∧ Fnd v s k e) := by
  obtain ⟨bs, ls, fs, rfl, hbs, hls, hfs⟩ := hv.open
  have hls0 := hls
  have hfs0 := hfs
  obtain ⟨la, lc, lb, lo, rfl, hla, hlget⟩ := hls0.open
  obtain ⟨fa, fc, fb, fo, rfl, hfa, hfget⟩ := hfs0.open
  have hz := hf.self
  refine ret_enter Try.func105 rfl Try.ntmps105 rfl ?_
  have cx := Ctx.start w0
  refine wp_seq ?_
  refine wp_region_lit ?_
  refine s_box cx rfl rfl rfl rfl rfl ?_; intro b2 w cx hb2 hw2
  refine s_box cx rfl rfl rfl rfl rfl ?_; intro b3 w cx hb3 hw3
  refine s_val rfl rfl (v_assign rfl rfl) ?_
  refine s_val rfl rfl (v_assign rfl rfl) ?_
  refine wpList_nil ?_
  refine wp_seq ?_
  refine wp_seq ?_
  refine wp_region_lit ?_
  refine s_val rfl rfl (v_fa fa112_0 rfl rfl) ?_
  refine s_val rfl rfl (v_load1 rfl rfl Try.underlying4 rfl (cx.cell 0 rfl rfl)) ?_
  refine wpList_nil ?_
  refine c_split rfl (fun hc8 => ?_) (fun hc8 => ?_)
  · skip
    refine wp_seq ?_
    refine wp_seq ?_
    refine wp_region_lit ?_
    refine s_val rfl rfl (v_fa fa33_0 rfl rfl) ?_
    refine s_val rfl rfl (v_load1 rfl rfl Try.underlying3 rfl (cx.cell 1 rfl rfl)) ?_
    refine s_val rfl rfl (v_cmp rfl rfl rfl rfl) ?_
    refine wpList_nil ?_
    refine c_split rfl (fun hc11 => ?_) (fun hc11 => ?_)
    · skip
      try simp only [bsl] at hc11
      refine wp_seq ?_
      refine wp_region_lit ?_
      refine s_val rfl rfl (v_assign rfl rfl) ?_
      refine s_val rfl rfl (v_assign rfl rfl) ?_
      refine wpList_nil ?_
      refine wp_ret ?_
      refine ret_tmp2 Try.results105 rfl rfl ?_
      exact ⟨cx.ext, _, _, rfl, fun _ => .inl ⟨hc11, rfl⟩, fun h => absurd (hc8.symm.trans h) (by decide)⟩
    try simp only [bsl] at hc11
    refine wp_skip ?_
    refine wp_seq ?_
    refine wp_seq ?_
    refine wp_region_lit ?_
    refine s_val rfl rfl (v_fa fa112_2 rfl rfl) ?_
    refine s_val rfl rfl (v_load1 rfl rfl Try.underlying3 rfl (cx.cell 0 rfl rfl)) ?_
    refine s_val rfl rfl (v_cmp rfl rfl rfl rfl) ?_
    refine s_val rfl rfl (v_move rfl rfl) ?_
    refine s_gval rfl rfl rfl wF (fun hc => v_fa fa112_2 rfl (by first | exact gve hc rfl | exact gve (and_l hc) rfl | exact gve (and_l (and_l hc)) rfl | rfl)) ?_
    refine s_gval rfl rfl rfl wF (fun hc => v_load1 rfl (by first | exact gve hc rfl | exact gve (and_l hc) rfl | exact gve (and_l (and_l hc)) rfl | rfl) Try.underlying3 rfl (cx.cell 0 rfl rfl)) ?_
    refine s_gval rfl rfl rfl wF (fun hc => v_fa fa33_6 rfl (by first | exact gve hc rfl | exact gve (and_l hc) rfl | exact gve (and_l (and_l hc)) rfl | rfl)) ?_
    refine s_gval rfl rfl rfl wF (fun hc => v_load1 rfl (by first | exact gve hc rfl | exact gve (and_l hc) rfl | exact gve (and_l (and_l hc)) rfl | rfl) Try.underlying30 rfl (cx.cell 1 rfl rfl)) ?_
    refine s_gval rfl rfl rfl wF (fun hc => v_lenSlice rfl (by first | exact gve hc rfl | exact gve (and_l hc) rfl | exact gve (and_l (and_l hc)) rfl | rfl) Try.underlying30) ?_
    refine s_gval rfl rfl rfl wF (fun hc => v_cmp rfl (by first | exact gve hc rfl | exact gve (and_l hc) rfl | exact gve (and_l (and_l hc)) rfl | rfl) (by first | exact gve hc rfl | exact gve (and_l hc) rfl | exact gve (and_l (and_l hc)) rfl | rfl) rfl) ?_
    refine s_val rfl rfl (v_or rfl rfl rfl rfl) ?_
    refine wpList_nil ?_
    refine c_split rfl (fun hc22 => ?_) (fun hc22 => ?_)
    · skip
      try simp only [bsl] at hc22
      refine wp_seq ?_
      refine wp_region_lit ?_
      refine s_val rfl rfl (v_assign rfl rfl) ?_
      refine s_val rfl rfl (v_assign rfl rfl) ?_
      refine wpList_nil ?_
      refine wp_ret ?_
      refine ret_tmp2 Try.results105 rfl rfl ?_
      exact ⟨cx.ext, _, _, rfl, fun _ => .inr (.inr ⟨hc11, by omega, rfl⟩), fun h => absurd (hc8.symm.trans h) (by decide)⟩
    try simp only [bsl] at hc22
    refine wp_skip ?_
    refine wp_seq ?_
    refine wp_region_lit ?_
    refine s_val rfl rfl (v_fa fa112_2 rfl rfl) ?_
    refine s_val rfl rfl (v_load1 rfl rfl Try.underlying3 rfl (cx.cell 0 rfl rfl)) ?_
    refine s_val rfl rfl (v_assign rfl rfl) ?_
    refine s_val rfl rfl (v_assign rfl rfl) ?_
    refine wpList_nil ?_
    refine wp_ret ?_
    refine ret_tmp2 Try.results105 rfl rfl ?_
    exact ⟨cx.ext, _, _, rfl, fun _ => .inr (.inl ⟨hc11, by omega, by omega, rfl, rfl⟩), fun h => absurd (hc8.symm.trans h) (by decide)⟩
  refine wp_skip ?_
  refine wp_seq ?_
  refine wp_seq ?_
  refine wp_region_lit ?_
  refine s_val rfl rfl (v_fa fa33_0 rfl rfl) ?_
  refine s_val rfl rfl (v_load1 rfl rfl Try.underlying3 rfl (cx.cell 1 rfl rfl)) ?_
  refine s_val rfl rfl (v_cmp rfl rfl rfl rfl) ?_
  refine wpList_nil ?_
  refine c_split rfl (fun hc27 => ?_) (fun hc27 => ?_)
  · skip
    try simp only [bsl] at hc27
    refine wp_seq ?_
    refine wp_region_lit ?_
    refine s_val rfl rfl (v_assign rfl rfl) ?_
    refine s_val rfl rfl (v_assign rfl rfl) ?_
    refine wpList_nil ?_
    refine wp_ret ?_
    refine ret_tmp2 Try.results105 rfl rfl ?_
    exact ⟨cx.ext, _, _, rfl, fun h => absurd (hc8.symm.trans h) (by decide), fun _ => .inl ⟨hc27, rfl⟩⟩
  try simp only [bsl] at hc27
  refine wp_skip ?_
  refine wp_seq ?_
  refine wp_seq ?_
  refine wp_region_lit ?_
  refine s_val rfl rfl (v_assign rfl rfl) ?_
  refine wpList_nil ?_
  refine wp_block ?_
  refine w_loop (fun k f w1 => ∃ i : Nat, k + i = v.fields.length ∧ f 2 = .pointer (some ⟨b2, 0, none⟩) ∧ f 3 = .pointer (some ⟨b3, 0, none⟩) ∧ f 6 = .int .i64 (i : Nat) ∧ (∀ (q : Nat) (h : q < v.fields.length), q < i → v.fields[q].1 ≠ s.key) ∧ Cxr w0 w1 [(b3, .cells (srow s).toArray 112), (b2, .cells (vrow v.sc bs (.slice la v.list.length lc) (.slice fa v.fields.length fc)).toArray 33)] []) (v.fields.length) ?_ ?_
  · skip
    exact ⟨0, by omega, rfl, rfl, rfl, fun q hq h => by omega, cx⟩
  intro gk10 f w hJ
  obtain ⟨i, hk, hs2, hs3, hs6, hno, cx⟩ := hJ
  refine wp_seq ?_
  refine wp_seq ?_
  refine wp_region_lit ?_
  refine s_val rfl rfl (v_move rfl hs6) ?_
  refine s_val rfl rfl (v_fa fa33_7 rfl hs2) ?_
  refine s_val rfl rfl (v_load1 rfl rfl Try.underlying31 rfl (cx.cell 1 rfl rfl)) ?_
  refine s_val rfl rfl (v_lenSlice rfl rfl Try.underlying31) ?_
  refine s_val rfl rfl (v_cmp rfl rfl rfl rfl) ?_
  refine wpList_nil ?_
  refine c_split rfl (fun hc32 => ?_) (fun hc32 => ?_)
  · skip
    try simp only [bsl] at hc32
    obtain rfl := hfa (by omega)
    obtain ⟨r, hr, hrv⟩ := hfget i v.fields[i] (List.getElem?_eq_getElem (by omega))
    refine wp_skip ?_
    refine wp_seq ?_
    refine wp_block ?_
    refine wp_seq ?_
    refine w_quiet cx mixed (by kernel_rfl) ?_
    refine q_val rfl rfl (fun w cx hwQ => v_fa fa33_7 rfl hs2) ?_
    refine q_val rfl rfl (fun w cx hwQ => v_load1 rfl rfl Try.underlying31 rfl (cx.cell 1 rfl rfl)) ?_
    refine q_val rfl rfl (fun w cx hwQ => v_move rfl hs6) ?_
    refine q_val rfl rfl (fun w cx hwQ => v_ia Try.underlying31 sz77 rfl rfl rfl (by omega) (by omega)) ?_
    refine q_val rfl rfl (fun w cx hwQ => v_fa fa77_0 rfl rfl) ?_
    refine q_val rfl rfl (fun w cx hwQ => v_load1 rfl rfl Try.underlying9 rfl ((hr.up cx.ext).cell 0 rfl)) ?_
    refine q_val rfl rfl (fun w cx hwQ => v_fa fa112_1 rfl hs3) ?_
    refine q_val rfl rfl (fun w cx hwQ => v_load1 rfl rfl Try.underlying9 rfl (cx.cell 0 rfl rfl)) ?_
    refine q_val rfl rfl (fun w cx hwQ => v_strEq rfl rfl rfl) ?_
    refine q_nil ?_; rintro w ⟨cx, hwQ12⟩
    refine c_split rfl (fun hc43 => ?_) (fun hc43 => ?_)
    · skip
      try simp only [bsl] at hc43
      refine wp_seq ?_
      refine wp_region_lit ?_
      refine s_val rfl rfl (v_move rfl hs6) ?_
      refine s_val rfl rfl (v_assign rfl rfl) ?_
      refine s_val rfl rfl (v_assign rfl rfl) ?_
      refine wpList_nil ?_
      refine wp_ret ?_
      refine ret_tmp2 Try.results105 rfl rfl ?_
      exact ⟨cx.ext, _, _, rfl, fun h => absurd (hc8.symm.trans h) (by decide), fun _ => .inr (.inl ⟨hc27, i, rfl, rfl, by omega, hc43⟩)⟩
    try simp only [bsl] at hc43
    refine wp_skip ?_
    refine wp_region_lit ?_
    refine s_val rfl rfl (v_move rfl hs6) ?_
    refine s_val rfl rfl (v_add rfl rfl rfl (by omega) (by omega)) ?_
    refine s_val rfl rfl (v_assign rfl rfl) ?_
    refine wpList_nil ?_
    refine ⟨gk10 - 1, _, by omega, rfl, i + 1, by omega, hs2, hs3, rfl, fun q hq h => ?_, cx⟩
    rcases Nat.lt_or_ge q i with h2 | h2
    · exact hno q hq h2
    · have : q = i := by omega
      subst this
      exact hc43
  try simp only [bsl] at hc32
  refine wp_exit ?_
  refine wp_seq ?_
  refine wp_region_lit ?_
  refine s_val rfl rfl (v_assign rfl rfl) ?_
  refine s_val rfl rfl (v_assign rfl rfl) ?_
  refine wpList_nil ?_
  refine wp_ret ?_
  refine ret_tmp2 Try.results105 rfl rfl ?_
  exact ⟨cx.ext, _, _, rfl, fun h => absurd (hc8.symm.trans h) (by decide), fun _ => .inr (.inr ⟨hc27, rfl, fun q hq => hno q hq (by omega)⟩)⟩
set_option maxRecDepth 10000 in
theorem c129l (A : Nat → Prop) (v : V) (l : List Value) (i : Nat) (w0 : World) (hA : ∀ b, A b → b < w0.heap.size) (hv : RepV A w0 v l) (hf : Fine v) (hk : v.sc.kind = 6) (hi : i < v.list.length) : Fc Try.prog 129 [.agg l.toArray, .int .i64 (i : Nat)] w0 (fun x w' => ∃ r, x = .agg r.toArray ∧ RepV A w' v.list[i] r) := by
  obtain ⟨bs, ls, fs, rfl, hbs, hls, hfs⟩ := RepV.open hv
  have hls0 := hls
  have hfs0 := hfs
  obtain ⟨la, lc, lb, lo, rfl, hla, hlget⟩ := RepL.openA hls0
  obtain ⟨fa, fc, fb, fo, rfl, hfa, hfget⟩ := RepF.openA hfs0
  have hz := hf.self
  refine ret_enter Try.func129 rfl Try.ntmps129 rfl ?_
  have cx := Ctx.start w0
  refine wp_seq ?_
  refine wp_region_lit ?_
  refine s_box cx rfl rfl rfl rfl rfl ?_; intro b2 w cx hb2 hw2
  refine s_alloc cx z33 rfl rfl rfl ?_; intro b4 w cx hb4 hw4
  refine wpList_nil ?_
  refine wp_seq ?_
  refine wp_seq ?_
  refine wp_region_lit ?_
  refine s_val rfl rfl (v_fa fa33_0 rfl rfl) ?_
  refine s_val rfl rfl (v_load1 rfl rfl Try.underlying3 rfl (cx.cell 1 rfl rfl)) ?_
  refine s_val rfl rfl (v_cmp rfl rfl rfl rfl) ?_
  refine wpList_nil ?_
  refine c_split rfl (fun hc7 => ?_) (fun hc7 => ?_)
  · skip
    try simp only [bsl] at hc7
    obtain rfl := hla (by omega)
    obtain ⟨r, hr, hrv⟩ := hlget i v.list[i] (List.getElem?_eq_getElem hi)
    refine wp_seq ?_
    refine wp_region_lit ?_
    refine s_val rfl rfl (v_fa fa33_6 rfl rfl) ?_
    refine s_val rfl rfl (v_load1 rfl rfl Try.underlying30 rfl (cx.cell 1 rfl rfl)) ?_
    refine s_val rfl rfl (v_move rfl rfl) ?_
    refine s_val rfl rfl (v_ia Try.underlying30 sz33 rfl rfl rfl (by omega) (by omega)) ?_
    refine s_val rfl rfl (v_load rfl rfl Try.underlying33 rfl sz33 (hr.up cx.ext) hrv.len) ?_
    refine s_storeAllG cx 0 rfl rfl rfl rfl rfl rfl (by rw [hrv.len]; exact sz33) (by rw [hrv.len]; rfl) hrv.one ?_; intro w cx hg2
    refine wpList_nil ?_
    refine wp_ret ?_
    exact ret_cell Try.results129 rfl (cx.at 0 rfl) Try.underlying33 rfl (by rw [hrv.len]; exact sz33) ⟨cx.ext, r, rfl, RepV.mono (fun _ h => h) (fun b hb => cx.ext.block b (hA b hb)) _ _ hrv⟩
  try simp only [bsl] at hc7
  exact absurd hk hc7
set_option maxRecDepth 10000 in
theorem c129f (A : Nat → Prop) (v : V) (l : List Value) (i : Nat) (w0 : World) (hA : ∀ b, A b → b < w0.heap.size) (hv : RepV A w0 v l) (hf : Fine v) (hk : v.sc.kind = 7) (hi : i < v.fields.length) : Fc Try.prog 129 [.agg l.toArray, .int .i64 (i : Nat)] w0 (fun x w' => ∃ r, x = .agg r.toArray ∧ RepV A w' v.fields[i].2 r) := by
  obtain ⟨bs, ls, fs, rfl, hbs, hls, hfs⟩ := RepV.open hv
  have hls0 := hls
  have hfs0 := hfs
  obtain ⟨la, lc, lb, lo, rfl, hla, hlget⟩ := RepL.openA hls0
  obtain ⟨fa, fc, fb, fo, rfl, hfa, hfget⟩ := RepF.openA hfs0
  have hz := hf.self
  refine ret_enter Try.func129 rfl Try.ntmps129 rfl ?_
  have cx := Ctx.start w0
  refine wp_seq ?_
  refine wp_region_lit ?_
  refine s_box cx rfl rfl rfl rfl rfl ?_; intro b2 w cx hb2 hw2
  refine s_alloc cx z33 rfl rfl rfl ?_; intro b4 w cx hb4 hw4
  refine wpList_nil ?_
  refine wp_seq ?_
  refine wp_seq ?_
  refine wp_region_lit ?_
  refine s_val rfl rfl (v_fa fa33_0 rfl rfl) ?_
  refine s_val rfl rfl (v_load1 rfl rfl Try.underlying3 rfl (cx.cell 1 rfl rfl)) ?_
  refine s_val rfl rfl (v_cmp rfl rfl rfl rfl) ?_
  refine wpList_nil ?_
  refine c_split rfl (fun hc7 => ?_) (fun hc7 => ?_)
  · skip
    try simp only [bsl] at hc7
    exfalso
    rw [hk] at hc7
    exact absurd hc7 (by decide)
  try simp only [bsl] at hc7
  obtain rfl := hfa (by omega)
  obtain ⟨r, hr, hrv⟩ := hfget i v.fields[i] (List.getElem?_eq_getElem hi)
  refine wp_skip ?_
  refine wp_seq ?_
  refine wp_region_lit ?_
  refine s_val rfl rfl (v_fa fa33_7 rfl rfl) ?_
  refine s_val rfl rfl (v_load1 rfl rfl Try.underlying31 rfl (cx.cell 1 rfl rfl)) ?_
  refine s_val rfl rfl (v_move rfl rfl) ?_
  refine s_val rfl rfl (v_ia Try.underlying31 sz77 rfl rfl rfl (by omega) (by omega)) ?_
  refine s_val rfl rfl (v_fa fa77_1 rfl rfl) ?_
  refine s_val rfl rfl (v_load rfl rfl Try.underlying33 rfl sz33 (hr.tail.up cx.ext) hrv.len) ?_
  refine s_storeAllG cx 0 rfl rfl rfl rfl rfl rfl (by rw [hrv.len]; exact sz33) (by rw [hrv.len]; rfl) hrv.one ?_; intro w cx hg3
  refine wpList_nil ?_
  refine wp_ret ?_
  exact ret_cell Try.results129 rfl (cx.at 0 rfl) Try.underlying33 rfl (by rw [hrv.len]; exact sz33) ⟨cx.ext, r, rfl, RepV.mono (fun _ h => h) (fun b hb => cx.ext.block b (hA b hb)) _ _ hrv⟩
end Go.Proofs.Ytmkihcdcgkdilaa
end
section
namespace Go.Proofs.Ytmkihcdcgkdilaa
open Go Go.Dk Go.RowKit
set_option linter.unusedSimpArgs false
set_option linter.unusedVariables false
attribute [local irreducible] Go.wpList Go.Code.wp Go.bodyPost Go.wpStill
theorem rowF_one0 {k : ByteArray} {r : List Value} (h : r.all (·.oneCell') = true) : (Value.string k :: r).all (·.oneCell') = true := by rw [List.all_cons, h]; rfl
theorem bd33z (k : Int) (w : World) : (Instr.build 33 ([(0, .int .i64 k)] : List (Nat × Value)).toArray).run Try.prog w = .ok (.agg (vrow (zk k) (.slice none 0 0) (.slice none 0 0) (.slice none 0 0)).toArray) w := by
  unfold vrow zk
  go_simp
  rfl
theorem mid_field (k : ByteArray) (r x : List Value) (hr : r.length = 13) (hx : x.length = 13) : (Value.string k :: r).take 1 ++ x ++ (Value.string k :: r).drop (1 + x.length) = .string k :: x := by
  rw [show (Value.string k :: r).take 1 = [.string k] by simp, List.drop_eq_nil_of_le (by simp; omega)]
  simp
set_option maxRecDepth 10000 in
set_option maxHeartbeats 6400000 in
theorem c130 (v x : V) (l rx : List Value) (k0 : Nat) (L' : List V) (F' : List (ByteArray × V)) (A : Nat → Prop) (w0 : World) (hA : ∀ b, A b → b < w0.heap.size) (hv : RepV A w0 v l) (hvx : RepV A w0 x rx) (hf : Fine v) (hL : L'.length = v.list.length) (hLi : ∀ (i : Nat) (h : i < L'.length) (h' : i < v.list.length), L'[i] = if i = k0 then x else v.list[i]) (hF : F'.length = v.fields.length) (hFi : ∀ (i : Nat) (h : i < F'.length) (h' : i < v.fields.length), F'[i] = if i = k0 then (v.fields[i].1, x) else v.fields[i]) :
    Fc Try.prog 130 [.agg l.toArray, .int .i64 (k0 : Nat), .agg rx.toArray] w0 (fun y w' => ∃ r, y = .agg r.toArray ∧ RepV (fun b => A b ∨ Fr w0 w' b) w' (.mk (zk v.sc.kind) [] L' F') r) := by
  obtain ⟨bs, ls, fs, rfl, hbs, hls, hfs⟩ := RepV.open hv
  have hls0 := hls
  have hfs0 := hfs
  obtain ⟨la, lc, lb, lo, rfl, hla, hlget⟩ := RepL.openA hls0
  obtain ⟨fa, fc, fb, fo, rfl, hfa, hfget⟩ := RepF.openA hfs0
  have hz := hf.self
  refine ret_enter Try.func130 rfl Try.ntmps130 rfl ?_
  have cx := Ctx.start w0
  refine wp_seq ?_
  refine wp_region_lit ?_
  refine s_box cx rfl rfl rfl rfl rfl ?_; intro b3 w cx hb3 hw3
  refine s_box cx rfl rfl rfl rfl rfl ?_; intro b5 w cx hb5 hw5
  refine s_alloc cx z33 rfl rfl rfl ?_; intro b6 w cx hb6 hw6
  refine wpList_nil ?_
  refine wp_seq ?_
  refine wp_region_lit ?_
  refine s_val rfl rfl (v_fa fa33_0 rfl rfl) ?_
  refine s_val rfl rfl (v_load1 rfl rfl Try.underlying3 rfl (cx.cell 2 rfl rfl)) ?_
  refine s_val rfl rfl (v_build (bd33z _) rfl rfl) ?_
  refine s_alloc cx z33 rfl rfl rfl ?_; intro b7 w cx hb7 hw7
  refine s_storeAllG cx 0 rfl rfl rfl rfl rfl rfl sz33 rfl rfl ?_; intro w cx hg1
  refine wpList_nil ?_
  refine wp_seq ?_
  refine wp_seq ?_
  refine wp_region_lit ?_
  replace cx := cx.nilRow 33 13
  refine s_val rfl rfl (v_assign rfl rfl) ?_
  refine wpList_nil ?_
  refine wp_block ?_
  refine w_loop (fun k f w1 => ∃ (i : Nat) (y : Value) (rs : List (List Value)), k + i = v.list.length ∧ f 1 = .int .i64 (k0 : Nat) ∧ f 3 = .pointer (some ⟨b3, 0, none⟩) ∧ f 5 = .pointer (some ⟨b5, 0, none⟩) ∧ f 6 = .pointer (some ⟨b6, 0, none⟩) ∧ f 7 = .pointer (some ⟨b7, 0, none⟩) ∧ f 8 = .int .i64 (i : Nat) ∧ Cxr w0 w1 [(b7, .cells (vrow (zk v.sc.kind) (.slice none 0 0) y (.slice none 0 0)).toArray 33), (b6, .cells ([.int .i64 0, .bool false, .bool false, .string ByteArray.empty, .int .i64 0, .int .i64 0, .int .i64 0, .int .i64 0, .int .i64 0, .string ByteArray.empty, .slice none 0 0, .slice none 0 0, .slice none 0 0] : List Value).toArray 33), (b5, .cells rx.toArray 33), (b3, .cells (vrow v.sc bs (.slice la v.list.length lc) (.slice fa v.fields.length fc)).toArray 33)] [⟨33, 13, y, i, rs.flatten⟩] ∧ RowsV A w0 (L'.take i) rs) (v.list.length) ?_ ?_
  · skip
    exact ⟨0, .slice none 0 0, [], by omega, rfl, rfl, rfl, rfl, rfl, rfl, cx, trivial⟩
  intro gk3 f w hJ
  obtain ⟨i, y, rs, hk, hs1, hs3, hs5, hs6, hs7, hs8, cx, hrl⟩ := hJ
  refine wp_seq ?_
  refine wp_seq ?_
  refine wp_region_lit ?_
  refine s_val rfl rfl (v_move rfl hs8) ?_
  refine s_val rfl rfl (v_fa fa33_6 rfl hs3) ?_
  refine s_val rfl rfl (v_load1 rfl rfl Try.underlying30 rfl (cx.cell 3 rfl rfl)) ?_
  refine s_val rfl rfl (v_lenSlice rfl rfl Try.underlying30) ?_
  refine s_val rfl rfl (v_cmp rfl rfl rfl rfl) ?_
  refine wpList_nil ?_
  refine c_split rfl (fun hc19 => ?_) (fun hc19 => ?_)
  · skip
    try simp only [bsl] at hc19
    obtain rfl := hla (by omega)
    obtain ⟨r, hr, hrv⟩ := hlget i v.list[i] (List.getElem?_eq_getElem (by omega))
    have hLi' := hLi i (by omega) (by omega)
    have hrl9 := hrv.len
    refine wp_skip ?_
    refine wp_seq ?_
    refine wp_block ?_
    refine wp_seq ?_
    refine wp_region_lit ?_
    refine s_val rfl rfl (v_fa fa33_6 rfl hs3) ?_
    refine s_val rfl rfl (v_load1 rfl rfl Try.underlying30 rfl (cx.cell 3 rfl rfl)) ?_
    refine s_val rfl rfl (v_move rfl hs8) ?_
    refine s_val rfl rfl (v_ia Try.underlying30 sz33 rfl rfl rfl (by omega) (by omega)) ?_
    refine s_val rfl rfl (v_load rfl rfl Try.underlying33 rfl sz33 (hr.up cx.ext) hrv.len) ?_
    refine s_alloc cx z33 rfl rfl rfl ?_; intro b9 w cx hb9 hw9
    refine s_storeAllG cx 0 rfl rfl rfl rfl rfl rfl (by rw [hrv.len]; exact sz33) (by rw [hrv.len]; rfl) hrv.one ?_; intro w cx hg5
    refine wpList_nil ?_
    refine wp_seq ?_
    refine wp_seq ?_
    refine wp_region_lit ?_
    refine s_val rfl rfl (v_move rfl hs8) ?_
    refine s_val rfl rfl (v_move rfl hs1) ?_
    refine s_val rfl rfl (v_cmp rfl rfl rfl rfl) ?_
    refine wpList_nil ?_
    refine c_split rfl (fun hc29 => ?_) (fun hc29 => ?_)
    · skip
      try simp only [bsl] at hc29
      have hik : i = k0 := by omega
      rw [if_pos hik] at hLi'
      refine wp_region_lit ?_
      refine s_val rfl rfl (v_load rfl hs5 Try.underlying33 rfl sz33 (cx.row 3 rfl) hvx.len) ?_
      refine s_storeAllG cx 0 rfl rfl rfl rfl rfl rfl (by rw [hvx.len]; exact sz33) (by rw [hvx.len]; exact hrv.len) hvx.one ?_; intro w cx hg7r
      refine wpList_nil ?_
      refine wp_region_lit ?_
      refine s_val rfl rfl (v_fa fa33_6 rfl hs7) ?_
      refine s_val rfl rfl (v_load1 rfl rfl Try.underlying30 rfl (cx.cell 1 rfl rfl)) ?_
      refine s_val rfl rfl (v_load rfl rfl Try.underlying33 rfl sz33 (cx.row 0 rfl) (by first | exact hvx.len | exact hrv.len)) ?_
      refine s_bsl1 cx Try.underlying30 sz33 z33 rfl rfl rfl rfl rfl rfl rfl (by first | exact hvx.len | exact hrv.len) ?_; intro b34 w cx hb34 hw34
      have hrn := cx.row 0 rfl
      replace cx := cx.tl
      refine s_appendG (m := 1) cx ei33 Try.underlying30 rfl rfl rfl rfl rfl hrn (by first | exact hvx.len | exact hrv.len) (by first | exact hvx.one | exact hrv.one) (by omega) ?_; intro v35 w cx hgr hnw
      refine s_val rfl rfl (v_fa fa33_6 rfl hs7) ?_
      refine s_store1G (v := v35) cx 1 rfl rfl rfl rfl rfl (own_one cx.head) rfl rfl rfl ?_; intro w cx hgs
      refine wpList_nil ?_
      refine wp_region_lit ?_
      refine s_val rfl rfl (v_move rfl hs8) ?_
      refine s_val rfl rfl (v_add rfl rfl rfl (by omega) (by omega)) ?_
      refine s_val rfl rfl (v_assign rfl rfl) ?_
      refine wpList_nil ?_
      refine ⟨gk3 - 1, _, by omega, rfl, i + 1, v35, rs ++ [rx], by omega, hs1, hs3, hs5, hs6, hs7, rfl, (by rw [show (rs ++ [rx]).flatten = rs.flatten ++ (rx) by simp]; exact cx.tl), ?_⟩
      rw [List.take_succ_eq_append_getElem (by omega), hLi']
      exact RowsV.snoc _ _ hrl hvx
    try simp only [bsl] at hc29
    have hik : ¬ i = k0 := by omega
    rw [if_neg hik] at hLi'
    refine wp_skip ?_
    refine wp_region_lit ?_
    refine s_val rfl rfl (v_fa fa33_6 rfl hs7) ?_
    refine s_val rfl rfl (v_load1 rfl rfl Try.underlying30 rfl (cx.cell 1 rfl rfl)) ?_
    refine s_val rfl rfl (v_load rfl rfl Try.underlying33 rfl sz33 (cx.row 0 rfl) (by first | exact hvx.len | exact hrv.len)) ?_
    refine s_bsl1 cx Try.underlying30 sz33 z33 rfl rfl rfl rfl rfl rfl rfl (by first | exact hvx.len | exact hrv.len) ?_; intro b34 w cx hb34 hw34
    have hrn := cx.row 0 rfl
    replace cx := cx.tl
    refine s_appendG (m := 1) cx ei33 Try.underlying30 rfl rfl rfl rfl rfl hrn (by first | exact hvx.len | exact hrv.len) (by first | exact hvx.one | exact hrv.one) (by omega) ?_; intro v35 w cx hgr hnw
    refine s_val rfl rfl (v_fa fa33_6 rfl hs7) ?_
    refine s_store1G (v := v35) cx 1 rfl rfl rfl rfl rfl (own_one cx.head) rfl rfl rfl ?_; intro w cx hgs
    refine wpList_nil ?_
    refine wp_region_lit ?_
    refine s_val rfl rfl (v_move rfl hs8) ?_
    refine s_val rfl rfl (v_add rfl rfl rfl (by omega) (by omega)) ?_
    refine s_val rfl rfl (v_assign rfl rfl) ?_
    refine wpList_nil ?_
    refine ⟨gk3 - 1, _, by omega, rfl, i + 1, v35, rs ++ [r], by omega, hs1, hs3, hs5, hs6, hs7, rfl, (by rw [show (rs ++ [r]).flatten = rs.flatten ++ (r) by simp]; exact cx.tl), ?_⟩
    rw [List.take_succ_eq_append_getElem (by omega), hLi']
    exact RowsV.snoc _ _ hrl hrv
  try simp only [bsl] at hc19
  refine wp_exit ?_
  refine wp_seq ?_
  refine wp_seq ?_
  refine wp_region_lit ?_
  replace cx := cx.nilRow 77 14
  refine s_val rfl rfl (v_assign rfl rfl) ?_
  refine wpList_nil ?_
  refine wp_block ?_
  have hiL : i = L'.length := by omega
  subst hiL
  rw [List.take_length] at hrl
  obtain ⟨rl, hrl0⟩ : ∃ rl, rl = rs := ⟨_, rfl⟩
  subst hrl0
  refine w_loop (fun k f w1 => ∃ (i : Nat) (z : Value) (rs : List (List Value)), k + i = v.fields.length ∧ f 1 = .int .i64 (k0 : Nat) ∧ f 3 = .pointer (some ⟨b3, 0, none⟩) ∧ f 5 = .pointer (some ⟨b5, 0, none⟩) ∧ f 6 = .pointer (some ⟨b6, 0, none⟩) ∧ f 7 = .pointer (some ⟨b7, 0, none⟩) ∧ f 10 = .int .i64 (i : Nat) ∧ Cxr w0 w1 [(b7, .cells (vrow (zk v.sc.kind) (.slice none 0 0) y z).toArray 33), (b6, .cells ([.int .i64 0, .bool false, .bool false, .string ByteArray.empty, .int .i64 0, .int .i64 0, .int .i64 0, .int .i64 0, .int .i64 0, .string ByteArray.empty, .slice none 0 0, .slice none 0 0, .slice none 0 0] : List Value).toArray 33), (b5, .cells rx.toArray 33), (b3, .cells (vrow v.sc bs (.slice la v.list.length lc) (.slice fa v.fields.length fc)).toArray 33)] [⟨77, 14, z, i, rs.flatten⟩, ⟨33, 13, y, L'.length, rl.flatten⟩] ∧ RowsF A w0 (F'.take i) rs) (v.fields.length) ?_ ?_
  · skip
    exact ⟨0, .slice none 0 0, [], by omega, hs1, hs3, hs5, hs6, hs7, rfl, cx, trivial⟩
  intro gk10 f w hJ
  obtain ⟨i, z, rs, hk, hs1, hs3, hs5, hs6, hs7, hs10, cx, hrf⟩ := hJ
  refine wp_seq ?_
  refine wp_seq ?_
  refine wp_region_lit ?_
  refine s_val rfl rfl (v_move rfl hs10) ?_
  refine s_val rfl rfl (v_fa fa33_7 rfl hs3) ?_
  refine s_val rfl rfl (v_load1 rfl rfl Try.underlying31 rfl (cx.cell 3 rfl rfl)) ?_
  refine s_val rfl rfl (v_lenSlice rfl rfl Try.underlying31) ?_
  refine s_val rfl rfl (v_cmp rfl rfl rfl rfl) ?_
  refine wpList_nil ?_
  refine c_split rfl (fun hc41 => ?_) (fun hc41 => ?_)
  · skip
    try simp only [bsl] at hc41
    obtain rfl := hfa (by omega)
    obtain ⟨r, hr, hrv⟩ := hfget i v.fields[i] (List.getElem?_eq_getElem (by omega))
    have hFi' := hFi i (by omega) (by omega)
    refine wp_skip ?_
    refine wp_seq ?_
    refine wp_block ?_
    refine wp_seq ?_
    refine wp_region_lit ?_
    refine s_val rfl rfl (v_fa fa33_7 rfl hs3) ?_
    refine s_val rfl rfl (v_load1 rfl rfl Try.underlying31 rfl (cx.cell 3 rfl rfl)) ?_
    refine s_val rfl rfl (v_move rfl hs10) ?_
    refine s_val rfl rfl (v_ia Try.underlying31 sz77 rfl rfl rfl (by omega) (by omega)) ?_
    refine s_val rfl rfl (v_load rfl rfl Try.underlying77 rfl sz77 (hr.up cx.ext) (congrArg (· + 1) hrv.len)) ?_
    refine s_alloc cx z77 rfl rfl rfl ?_; intro b11 w cx hb11 hw11
    refine s_storeAllG cx 0 rfl rfl rfl rfl rfl rfl (by rw [List.length_cons, hrv.len]; exact sz77) (by show _ = r.length + 1; rw [hrv.len]; rfl) (rowF_one0 hrv.one) ?_; intro w cx hg12
    refine wpList_nil ?_
    refine wp_seq ?_
    refine wp_seq ?_
    refine wp_region_lit ?_
    refine s_val rfl rfl (v_move rfl hs10) ?_
    refine s_val rfl rfl (v_move rfl hs1) ?_
    refine s_val rfl rfl (v_cmp rfl rfl rfl rfl) ?_
    refine wpList_nil ?_
    refine c_split rfl (fun hc51 => ?_) (fun hc51 => ?_)
    · skip
      try simp only [bsl] at hc51
      have hik : i = k0 := by omega
      rw [if_pos hik] at hFi'
      refine wp_region_lit ?_
      refine s_val rfl rfl (v_load rfl hs5 Try.underlying33 rfl sz33 (cx.row 3 rfl) hvx.len) ?_
      refine s_val rfl rfl (v_fa fa77_1 rfl rfl) ?_
      refine s_storeMid cx 0 rfl rfl rfl rfl rfl rfl (by rw [hvx.len]; exact sz33) (by rw [List.length_cons, hrv.len, hvx.len]; decide) hvx.one ?_; intro w cx hg14
      rw [mid_field _ _ _ hrv.len hvx.len] at cx
      refine wpList_nil ?_
      refine wp_region_lit ?_
      refine s_val rfl rfl (v_fa fa33_7 rfl hs7) ?_
      refine s_val rfl rfl (v_load1 rfl rfl Try.underlying31 rfl (cx.cell 1 rfl rfl)) ?_
      refine s_val rfl rfl (v_load rfl rfl Try.underlying77 rfl sz77 (cx.row 0 rfl) (congrArg (· + 1) (by first | exact hvx.len | exact hrv.len))) ?_
      refine s_bsl1 cx Try.underlying31 sz77 z77 rfl rfl rfl rfl rfl rfl rfl (congrArg (· + 1) (by first | exact hvx.len | exact hrv.len)) ?_; intro b57 w cx hb57 hw57
      have hrn := cx.row 0 rfl
      replace cx := cx.tl
      refine s_appendG (m := 1) cx ei77 Try.underlying31 rfl rfl rfl rfl rfl hrn (congrArg (· + 1) (by first | exact hvx.len | exact hrv.len)) (rowF_one0 (by first | exact hvx.one | exact hrv.one)) (by omega) ?_; intro v58 w cx hgr hnw
      refine s_val rfl rfl (v_fa fa33_7 rfl hs7) ?_
      refine s_store1G (v := v58) cx 1 rfl rfl rfl rfl rfl (own_one cx.head) rfl rfl rfl ?_; intro w cx hgs
      refine wpList_nil ?_
      refine wp_region_lit ?_
      refine s_val rfl rfl (v_move rfl hs10) ?_
      refine s_val rfl rfl (v_add rfl rfl rfl (by omega) (by omega)) ?_
      refine s_val rfl rfl (v_assign rfl rfl) ?_
      refine wpList_nil ?_
      refine ⟨gk10 - 1, _, by omega, rfl, i + 1, v58, rs ++ [.string v.fields[i].1 :: rx], by omega, hs1, hs3, hs5, hs6, hs7, rfl, (by rw [show (rs ++ [.string v.fields[i].1 :: rx]).flatten = rs.flatten ++ (.string v.fields[i].1 :: rx) by simp]; exact cx.tl), ?_⟩
      rw [List.take_succ_eq_append_getElem (by omega), hFi']
      exact RowsF.snoc _ _ hrf hvx
    try simp only [bsl] at hc51
    have hik : ¬ i = k0 := by omega
    rw [if_neg hik] at hFi'
    refine wp_skip ?_
    refine wp_region_lit ?_
    refine s_val rfl rfl (v_fa fa33_7 rfl hs7) ?_
    refine s_val rfl rfl (v_load1 rfl rfl Try.underlying31 rfl (cx.cell 1 rfl rfl)) ?_
    refine s_val rfl rfl (v_load rfl rfl Try.underlying77 rfl sz77 (cx.row 0 rfl) (congrArg (· + 1) (by first | exact hvx.len | exact hrv.len))) ?_
    refine s_bsl1 cx Try.underlying31 sz77 z77 rfl rfl rfl rfl rfl rfl rfl (congrArg (· + 1) (by first | exact hvx.len | exact hrv.len)) ?_; intro b57 w cx hb57 hw57
    have hrn := cx.row 0 rfl
    replace cx := cx.tl
    refine s_appendG (m := 1) cx ei77 Try.underlying31 rfl rfl rfl rfl rfl hrn (congrArg (· + 1) (by first | exact hvx.len | exact hrv.len)) (rowF_one0 (by first | exact hvx.one | exact hrv.one)) (by omega) ?_; intro v58 w cx hgr hnw
    refine s_val rfl rfl (v_fa fa33_7 rfl hs7) ?_
    refine s_store1G (v := v58) cx 1 rfl rfl rfl rfl rfl (own_one cx.head) rfl rfl rfl ?_; intro w cx hgs
    refine wpList_nil ?_
    refine wp_region_lit ?_
    refine s_val rfl rfl (v_move rfl hs10) ?_
    refine s_val rfl rfl (v_add rfl rfl rfl (by omega) (by omega)) ?_
    refine s_val rfl rfl (v_assign rfl rfl) ?_
    refine wpList_nil ?_
    refine ⟨gk10 - 1, _, by omega, rfl, i + 1, v58, rs ++ [.string v.fields[i].1 :: r], by omega, hs1, hs3, hs5, hs6, hs7, rfl, (by rw [show (rs ++ [.string v.fields[i].1 :: r]).flatten = rs.flatten ++ (.string v.fields[i].1 :: r) by simp]; exact cx.tl), ?_⟩
    rw [List.take_succ_eq_append_getElem (by omega), hFi']
    exact RowsF.snoc _ _ hrf hrv
  try simp only [bsl] at hc41
  refine wp_exit ?_
  refine wp_seq ?_
  refine wp_region_lit ?_
  refine s_val rfl rfl (v_load rfl hs7 Try.underlying33 rfl sz33 (cx.row 0 rfl) rfl) ?_
  refine s_storeAllG cx 1 rfl rfl rfl hs6 rfl rfl sz33 rfl (vrow_one rfl (own_one cx.row2) (own_one cx.head)) ?_; intro w cx hg16
  refine wpList_nil ?_
  refine wp_ret ?_
  have hiF : i = F'.length := by omega
  subst hiF
  rw [List.take_length] at hrf
  exact ret_cell Try.results130 hs6 (cx.at 1 rfl) Try.underlying33 rfl sz33 ⟨cx.ext, _, rfl, valLF (cx.swap.lstA hA rfl hrl) (cx.fldA hA rfl hrf)⟩
end Go.Proofs.Ytmkihcdcgkdilaa
end
section
set_option linter.unusedVariables false
namespace Go.Dk
section
variable {α : Type}
def insK (i : Nat) (x : α) (l : List α) (k : Nat) : List α := if k ≤ i then l.take k else l.take i ++ x :: (l.take k).drop i
theorem insK_zero (i : Nat) (x : α) (l : List α) : insK i x l 0 = [] := by unfold insK; rw [if_pos (Nat.zero_le _)]; rfl
theorem take_drop_snoc {l : List α} {i k : Nat} (hk : k < l.length) (h : i ≤ k) : (l.take (k + 1)).drop i = (l.take k).drop i ++ [l[k]] := by
  rw [List.take_add_one, List.getElem?_eq_getElem hk, List.drop_append_of_le_length (by rw [List.length_take]; omega)]; rfl
theorem insK_at {i k : Nat} {x : α} {l : List α} (h : k = i) (hk : k < l.length) : insK i x l (k + 1) = insK i x l k ++ [x] ++ [l[k]] := by
  subst h
  unfold insK
  rw [if_neg (by omega), if_pos (Nat.le_refl _), take_drop_snoc hk (Nat.le_refl _), List.drop_eq_nil_of_le (by rw [List.length_take]; omega)]
  simp
theorem insK_last {i k : Nat} {x : α} {l : List α} (h : k = i) (hk : k = l.length) : insK i x l (k + 1) = insK i x l k ++ [x] := by
  subst h
  unfold insK
  rw [if_neg (by omega), if_pos (Nat.le_refl _), List.drop_eq_nil_of_le (by rw [List.length_take]; omega)]
theorem insK_go {i k : Nat} {x : α} {l : List α} (h : k ≠ i) (hk : k < l.length) : insK i x l (k + 1) = insK i x l k ++ [l[k]] := by
  unfold insK
  by_cases hi : k ≤ i
  · rw [if_pos hi, if_pos (by omega), List.take_add_one, List.getElem?_eq_getElem hk]; rfl
  · rw [if_neg hi, if_neg (by omega), take_drop_snoc hk (by omega)]; simp
theorem insK_end {i k : Nat} {x : α} {l : List α} (h : k ≠ i) (hk : k = l.length) : insK i x l (k + 1) = insK i x l k := by
  subst hk
  unfold insK
  by_cases hi : l.length ≤ i
  · rw [if_pos hi, if_pos (by omega), List.take_of_length_le (by omega), List.take_of_length_le (by omega)]
  · rw [if_neg hi, if_neg (by omega), List.take_of_length_le (by omega : l.length ≤ l.length + 1), List.take_of_length_le (Nat.le_refl _)]
theorem insK_all {i k : Nat} {x : α} {l : List α} (hi : i ≤ l.length) (hk : k = l.length + 1) : insK i x l k = l.take i ++ x :: l.drop i := by
  subst hk
  unfold insK
  rw [if_neg (by omega), List.take_of_length_le (by omega : l.length ≤ l.length + 1)]
theorem insK_len {i k : Nat} {x : α} {l : List α} (hk : k ≤ l.length + 1) : (insK i x l k).length ≤ l.length + 1 := by
  unfold insK
  split
  · rw [List.length_take]; omega
  · rw [List.length_append, List.length_cons, List.length_drop, List.length_take, List.length_take]; omega
theorem outK_at {i k : Nat} {l : List α} (h : k = i) (hk : k < l.length) : (l.take (k + 1)).eraseIdx i = (l.take k).eraseIdx i := by
  subst h
  rw [List.take_add_one, List.getElem?_eq_getElem hk]
  have e : (l.take k).length = k := by rw [List.length_take]; omega
  have h1 : (l.take k ++ [l[k]]).eraseIdx (l.take k).length = l.take k := by have := midX_erase (l.take k) l[k] []; rwa [List.append_nil] at this
  rw [e] at h1
  show (l.take k ++ [l[k]]).eraseIdx k = _
  rw [h1, List.eraseIdx_of_length_le (by omega)]
theorem outK_go {i k : Nat} {l : List α} (h : k ≠ i) (hk : k < l.length) : (l.take (k + 1)).eraseIdx i = (l.take k).eraseIdx i ++ [l[k]] := by
  rw [List.take_add_one, List.getElem?_eq_getElem hk]
  have e : (l.take k).length = k := by rw [List.length_take]; omega
  show (l.take k ++ [l[k]]).eraseIdx i = _
  by_cases hi : i < k
  · rw [List.eraseIdx_append_of_lt_length (by omega)]
  · rw [List.eraseIdx_append_of_length_le (by omega), List.eraseIdx_of_length_le (l := l.take k) (by omega), List.eraseIdx_of_length_le (by simp; omega)]
theorem outK_len {i k : Nat} {l : List α} (hk : k ≤ l.length) : ((l.take k).eraseIdx i).length ≤ l.length := by
  have h1 : ((l.take k).eraseIdx i).length ≤ (l.take k).length := (List.eraseIdx_sublist ..).length_le
  rw [List.length_take] at h1
  omega
end
end Go.Dk
end
section
namespace Go.Proofs.Ytmkihcdcgkdilaa
open Go Go.Dk Go.RowKit
set_option linter.unusedSimpArgs false
set_option linter.unusedVariables false
attribute [local irreducible] Go.wpList Go.Code.wp Go.bodyPost Go.wpStill
set_option maxRecDepth 10000 in
set_option maxHeartbeats 6400000 in
theorem c106 (v x : V) (l rx : List Value) (k0 : Nat) (A : Nat → Prop) (w0 : World) (hA : ∀ b, A b → b < w0.heap.size) (hv : RepV A w0 v l) (hvx : RepV A w0 x rx) (hf : Fine v) (hk0 : k0 ≤ v.list.length) :
    Fc Try.prog 106 [.agg l.toArray, .int .i64 (k0 : Nat), .agg (rx : List Value).toArray] w0 (fun y w' => ∃ r, y = .agg r.toArray ∧ RepV (fun b => A b ∨ Fr w0 w' b) w' (.mk (zk 6) [] (v.list.take k0 ++ x :: v.list.drop k0) []) r) := by
  obtain ⟨bs, ls, fs, rfl, hbs, hls, hfs⟩ := RepV.open hv
  have hls0 := hls
  have hfs0 := hfs
  obtain ⟨la, lc, lb, lo, rfl, hla, hlget⟩ := RepL.openA hls0
  obtain ⟨fa, fc, fb, fo, rfl, hfa, hfget⟩ := RepF.openA hfs0
  have hz := hf.self
  refine ret_enter Try.func106 rfl Try.ntmps106 rfl ?_
  have cx := Ctx.start w0
  refine wp_seq ?_
  refine wp_region_lit ?_
  refine s_box cx rfl rfl rfl rfl rfl ?_; intro b3 w cx hb3 hw3
  refine s_box cx rfl rfl rfl rfl rfl ?_; intro b5 w cx hb5 hw5
  refine s_alloc cx z33 rfl rfl rfl ?_; intro b6 w cx hb6 hw6
  refine wpList_nil ?_
  refine wp_seq ?_
  refine wp_region_lit ?_
  refine s_val rfl rfl (v_build (bd33z _) rfl rfl) ?_
  refine s_alloc cx z33 rfl rfl rfl ?_; intro b7 w cx hb7 hw7
  refine s_storeAllG cx 0 rfl rfl rfl rfl rfl rfl sz33 rfl rfl ?_; intro w cx hg1
  refine wpList_nil ?_
  refine wp_seq ?_
  refine wp_seq ?_
  refine wp_region_lit ?_
  replace cx := cx.nilRow 33 13
  refine s_val rfl rfl (v_assign rfl rfl) ?_
  refine wpList_nil ?_
  refine wp_block ?_
  refine w_loop (fun k f w1 => ∃ (i : Nat) (y : Value) (rs : List (List Value)), k + i = v.list.length + 1 ∧ i ≤ v.list.length + 1 ∧ f 1 = .int .i64 (k0 : Nat) ∧ f 3 = .pointer (some ⟨b3, 0, none⟩) ∧ f 5 = .pointer (some ⟨b5, 0, none⟩) ∧ f 6 = .pointer (some ⟨b6, 0, none⟩) ∧ f 7 = .pointer (some ⟨b7, 0, none⟩) ∧ f 8 = .int .i64 (i : Nat) ∧ Cxr w0 w1 [(b7, .cells (vrow (zk 6) (.slice none 0 0) y (.slice none 0 0)).toArray 33), (b6, .cells ([.int .i64 0, .bool false, .bool false, .string ByteArray.empty, .int .i64 0, .int .i64 0, .int .i64 0, .int .i64 0, .int .i64 0, .string ByteArray.empty, .slice none 0 0, .slice none 0 0, .slice none 0 0] : List Value).toArray 33), (b5, .cells (rx : List Value).toArray 33), (b3, .cells (vrow v.sc bs (.slice la v.list.length lc) (.slice fa v.fields.length fc)).toArray 33)] [⟨33, 13, y, (insK k0 x v.list i).length, rs.flatten⟩] ∧ RowsV A w0 (insK k0 x v.list i) rs) (v.list.length + 1) ?_ ?_
  · skip
    exact ⟨0, .slice none 0 0, [], by omega, by omega, rfl, rfl, rfl, rfl, rfl, rfl, by rw [insK_zero]; exact cx, by rw [insK_zero]; trivial⟩
  intro gk3 f w hJ
  obtain ⟨i, y, rs, hk, hki, hs1, hs3, hs5, hs6, hs7, hs8, cx, hrl⟩ := hJ
  refine wp_seq ?_
  refine wp_seq ?_
  refine wp_region_lit ?_
  refine s_val rfl rfl (v_move rfl hs8) ?_
  refine s_val rfl rfl (v_fa fa33_6 rfl hs3) ?_
  refine s_val rfl rfl (v_load1 rfl rfl Try.underlying30 rfl (cx.cell 3 rfl rfl)) ?_
  refine s_val rfl rfl (v_lenSlice rfl rfl Try.underlying30) ?_
  refine s_val rfl rfl (v_cmp rfl rfl rfl rfl) ?_
  refine wpList_nil ?_
  refine c_split rfl (fun hc14 => ?_) (fun hc14 => ?_)
  · skip
    try simp only [bsl] at hc14
    have hin := insK_len (i := k0) (x := x) (l := v.list) (show i ≤ v.list.length + 1 by omega)
    refine wp_skip ?_
    refine wp_seq ?_
    refine wp_block ?_
    refine wp_seq ?_
    refine wp_seq ?_
    refine wp_region_lit ?_
    refine s_val rfl rfl (v_move rfl hs8) ?_
    refine s_val rfl rfl (v_move rfl hs1) ?_
    refine s_val rfl rfl (v_cmp rfl rfl rfl rfl) ?_
    refine wpList_nil ?_
    refine c_split rfl (fun hc19 => ?_) (fun hc19 => ?_)
    · skip
      try simp only [bsl] at hc19
      have hik : i = k0 := by omega
      refine wp_region_lit ?_
      refine s_val rfl rfl (v_fa fa33_6 rfl hs7) ?_
      refine s_val rfl rfl (v_load1 rfl rfl Try.underlying30 rfl (cx.cell 0 rfl rfl)) ?_
      refine s_val rfl rfl (v_load rfl hs5 Try.underlying33 rfl sz33 (cx.row 2 rfl) hvx.len) ?_
      refine s_bsl1 cx Try.underlying30 sz33 z33 rfl rfl rfl rfl rfl rfl rfl hvx.len ?_; intro b23 w cx hb23 hw23
      have hrn := cx.row 0 rfl
      replace cx := cx.tl
      refine s_appendG (m := 1) cx ei33 Try.underlying30 rfl rfl rfl rfl rfl hrn hvx.len hvx.one (by omega) ?_; intro v24 w cx hgr hnw
      refine s_val rfl rfl (v_fa fa33_6 rfl hs7) ?_
      refine s_store1G (v := v24) cx 0 rfl rfl rfl rfl rfl (own_one cx.head) rfl rfl rfl ?_; intro w cx hgs
      refine wpList_nil ?_
      refine wp_seq ?_
      refine wp_region_lit ?_
      refine s_val rfl rfl (v_move rfl hs8) ?_
      refine s_val rfl rfl (v_fa fa33_6 rfl hs3) ?_
      refine s_val rfl rfl (v_load1 rfl rfl Try.underlying30 rfl (cx.cell 3 rfl rfl)) ?_
      refine s_val rfl rfl (v_lenSlice rfl rfl Try.underlying30) ?_
      refine s_val rfl rfl (v_cmp rfl rfl rfl rfl) ?_
      refine wpList_nil ?_
      refine c_split rfl (fun hc30 => ?_) (fun hc30 => ?_)
      · skip
        try simp only [bsl] at hc30
        have hil : i < v.list.length := by omega
        obtain rfl := hla (by omega)
        obtain ⟨r, hr, hrv⟩ := hlget i v.list[i] (List.getElem?_eq_getElem hil)
        refine w_ord cx (cx.pick2 0 3 rfl rfl rfl) mixed [(0, 31), (1, 32), (2, 33), (3, 34), (4, 35), (5, 36), (6, 37)] #[true, true, true, true, true, true, true, false, false, false, false] (by kernel_rfl) (by kernel_rfl) (by kernel_rfl) (by kernel_rfl) ?_
        refine pu_one rfl (wnt_none rfl) (fun w cx => v_fa fa33_6 rfl hs7) ?_
        refine pu_one rfl (wnt_none rfl) (fun w cx => v_load1 rfl rfl Try.underlying30 rfl (cx.cell 0 rfl rfl)) ?_
        refine pu_one rfl (wnt_none rfl) (fun w cx => v_fa fa33_6 rfl hs3) ?_
        refine pu_one rfl (wnt_none rfl) (fun w cx => v_load1 rfl rfl Try.underlying30 rfl (cx.cell 1 rfl rfl)) ?_
        refine pu_one rfl (wnt_none rfl) (fun w cx => v_move rfl hs8) ?_
        refine pu_one rfl (wnt_none rfl) (fun w cx => v_ia Try.underlying30 sz33 rfl rfl rfl (by omega) (by omega)) ?_
        refine pu_one rfl (wnt_none rfl) (fun w cx => v_load rfl rfl Try.underlying33 rfl sz33 (hr.up cx.ext) hrv.len) ?_
        refine pu_nil ?_; intro w cx hwD8
        refine x_one (i := 7) (by kernel_rfl) rfl ?_
        refine s_bsl1 cx Try.underlying30 sz33 z33 rfl rfl rfl rfl rfl rfl rfl hrv.len ?_; intro b38 w cx hb38 hw38
        have hrn := cx.row 0 rfl
        replace cx := cx.tl
        refine x_next ⟨.inl (cx.pick2 0 3 rfl rfl rfl), ?_⟩
        refine x_one (i := 8) (by kernel_rfl) rfl ?_
        refine s_appendG (m := 1) cx ei33 Try.underlying30 rfl rfl rfl rfl rfl hrn hrv.len hrv.one (by omega) ?_; intro v39 w cx hgr hnw
        refine x_next ⟨.inr (by kernel_rfl), ?_⟩
        refine x_one (i := 9) (by kernel_rfl) rfl ?_
        refine s_val rfl rfl (v_fa fa33_6 rfl hs7) ?_
        refine x_next ⟨.inr (by kernel_rfl), ?_⟩
        refine x_one (i := 10) (by kernel_rfl) rfl ?_
        refine s_store1G (v := v39) cx 0 rfl rfl rfl rfl rfl (own_one cx.head) rfl rfl rfl ?_; intro w cx hgs
        refine x_next ⟨.inr (by kernel_rfl), ?_⟩
        refine x_done (by kernel_rfl) ?_
        refine wp_region_lit ?_
        refine s_val rfl rfl (v_move rfl hs8) ?_
        refine s_val rfl rfl (v_add rfl rfl rfl (by omega) (by omega)) ?_
        refine s_val rfl rfl (v_assign rfl rfl) ?_
        refine wpList_nil ?_
        have e := insK_at (x := x) hik hil
        refine ⟨gk3 - 1, _, by omega, rfl, i + 1, v39, rs ++ [rx] ++ [r], by omega, by omega, hs1, hs3, hs5, hs6, hs7, rfl, (by rw [e, show (rs ++ [rx] ++ [r]).flatten = rs.flatten ++ (rx) ++ (r) by simp, show (insK k0 x v.list i ++ [x] ++ [v.list[i]]).length = (insK k0 x v.list i).length + 2 by simp]; exact cx), ?_⟩
        rw [e]
        exact RowsV.snoc _ _ (RowsV.snoc _ _ hrl hvx) hrv
      try simp only [bsl] at hc30
      have hil : i = v.list.length := by omega
      refine wp_skip ?_
      refine wp_region_lit ?_
      refine s_val rfl rfl (v_move rfl hs8) ?_
      refine s_val rfl rfl (v_add rfl rfl rfl (by omega) (by omega)) ?_
      refine s_val rfl rfl (v_assign rfl rfl) ?_
      refine wpList_nil ?_
      have e := insK_last (x := x) hik hil
      refine ⟨gk3 - 1, _, by omega, rfl, i + 1, v24, rs ++ [rx], by omega, by omega, hs1, hs3, hs5, hs6, hs7, rfl, (by rw [e, show (rs ++ [rx]).flatten = rs.flatten ++ (rx) by simp, show (insK k0 x v.list i ++ [x]).length = (insK k0 x v.list i).length + 1 by simp]; exact cx), ?_⟩
      rw [e]
      exact RowsV.snoc _ _ hrl hvx
    try simp only [bsl] at hc19
    have hik : i ≠ k0 := by omega
    refine wp_skip ?_
    refine wp_seq ?_
    refine wp_region_lit ?_
    refine s_val rfl rfl (v_move rfl hs8) ?_
    refine s_val rfl rfl (v_fa fa33_6 rfl hs3) ?_
    refine s_val rfl rfl (v_load1 rfl rfl Try.underlying30 rfl (cx.cell 3 rfl rfl)) ?_
    refine s_val rfl rfl (v_lenSlice rfl rfl Try.underlying30) ?_
    refine s_val rfl rfl (v_cmp rfl rfl rfl rfl) ?_
    refine wpList_nil ?_
    refine c_split rfl (fun hc30 => ?_) (fun hc30 => ?_)
    · skip
      try simp only [bsl] at hc30
      have hil : i < v.list.length := by omega
      obtain rfl := hla (by omega)
      obtain ⟨r, hr, hrv⟩ := hlget i v.list[i] (List.getElem?_eq_getElem hil)
      refine w_ord cx (cx.pick2 0 3 rfl rfl rfl) mixed [(0, 31), (1, 32), (2, 33), (3, 34), (4, 35), (5, 36), (6, 37)] #[true, true, true, true, true, true, true, false, false, false, false] (by kernel_rfl) (by kernel_rfl) (by kernel_rfl) (by kernel_rfl) ?_
      refine pu_one rfl (wnt_none rfl) (fun w cx => v_fa fa33_6 rfl hs7) ?_
      refine pu_one rfl (wnt_none rfl) (fun w cx => v_load1 rfl rfl Try.underlying30 rfl (cx.cell 0 rfl rfl)) ?_
      refine pu_one rfl (wnt_none rfl) (fun w cx => v_fa fa33_6 rfl hs3) ?_
      refine pu_one rfl (wnt_none rfl) (fun w cx => v_load1 rfl rfl Try.underlying30 rfl (cx.cell 1 rfl rfl)) ?_
      refine pu_one rfl (wnt_none rfl) (fun w cx => v_move rfl hs8) ?_
      refine pu_one rfl (wnt_none rfl) (fun w cx => v_ia Try.underlying30 sz33 rfl rfl rfl (by omega) (by omega)) ?_
      refine pu_one rfl (wnt_none rfl) (fun w cx => v_load rfl rfl Try.underlying33 rfl sz33 (hr.up cx.ext) hrv.len) ?_
      refine pu_nil ?_; intro w cx hwD8
      refine x_one (i := 7) (by kernel_rfl) rfl ?_
      refine s_bsl1 cx Try.underlying30 sz33 z33 rfl rfl rfl rfl rfl rfl rfl hrv.len ?_; intro b38 w cx hb38 hw38
      have hrn := cx.row 0 rfl
      replace cx := cx.tl
      refine x_next ⟨.inl (cx.pick2 0 3 rfl rfl rfl), ?_⟩
      refine x_one (i := 8) (by kernel_rfl) rfl ?_
      refine s_appendG (m := 1) cx ei33 Try.underlying30 rfl rfl rfl rfl rfl hrn hrv.len hrv.one (by omega) ?_; intro v39 w cx hgr hnw
      refine x_next ⟨.inr (by kernel_rfl), ?_⟩
      refine x_one (i := 9) (by kernel_rfl) rfl ?_
      refine s_val rfl rfl (v_fa fa33_6 rfl hs7) ?_
      refine x_next ⟨.inr (by kernel_rfl), ?_⟩
      refine x_one (i := 10) (by kernel_rfl) rfl ?_
      refine s_store1G (v := v39) cx 0 rfl rfl rfl rfl rfl (own_one cx.head) rfl rfl rfl ?_; intro w cx hgs
      refine x_next ⟨.inr (by kernel_rfl), ?_⟩
      refine x_done (by kernel_rfl) ?_
      refine wp_region_lit ?_
      refine s_val rfl rfl (v_move rfl hs8) ?_
      refine s_val rfl rfl (v_add rfl rfl rfl (by omega) (by omega)) ?_
      refine s_val rfl rfl (v_assign rfl rfl) ?_
      refine wpList_nil ?_
      have e := insK_go (x := x) hik hil
      refine ⟨gk3 - 1, _, by omega, rfl, i + 1, v39, rs ++ [r], by omega, by omega, hs1, hs3, hs5, hs6, hs7, rfl, (by rw [e, show (rs ++ [r]).flatten = rs.flatten ++ (r) by simp, show (insK k0 x v.list i ++ [v.list[i]]).length = (insK k0 x v.list i).length + 1 by simp]; exact cx), ?_⟩
      rw [e]
      exact RowsV.snoc _ _ hrl hrv
    try simp only [bsl] at hc30
    have hil : i = v.list.length := by omega
    refine wp_skip ?_
    refine wp_region_lit ?_
    refine s_val rfl rfl (v_move rfl hs8) ?_
    refine s_val rfl rfl (v_add rfl rfl rfl (by omega) (by omega)) ?_
    refine s_val rfl rfl (v_assign rfl rfl) ?_
    refine wpList_nil ?_
    have e := insK_end (x := x) hik hil
    refine ⟨gk3 - 1, _, by omega, rfl, i + 1, y, rs, by omega, by omega, hs1, hs3, hs5, hs6, hs7, rfl, (by rw [e]; exact cx), ?_⟩
    rw [e]
    exact hrl
  try simp only [bsl] at hc14
  refine wp_exit ?_
  refine wp_seq ?_
  refine wp_region_lit ?_
  refine s_val rfl rfl (v_load rfl hs7 Try.underlying33 rfl sz33 (cx.row 0 rfl) rfl) ?_
  refine s_storeAllG cx 1 rfl rfl rfl hs6 rfl rfl sz33 rfl (vrow_one rfl (own_one cx.head) rfl) ?_; intro w cx hg9
  refine wpList_nil ?_
  refine wp_ret ?_
  rw [insK_all hk0 (by omega)] at cx hrl
  exact ret_cell Try.results106 hs6 (cx.at 1 rfl) Try.underlying33 rfl sz33 ⟨cx.ext, _, rfl, valLF (cx.lstA hA rfl hrl) ⟨0, 0, .inl ⟨rfl, rfl⟩, trivial⟩⟩
set_option maxRecDepth 10000 in
set_option maxHeartbeats 6400000 in
theorem c107 (kx : ByteArray) (v x : V) (l rx : List Value) (k0 : Nat) (A : Nat → Prop) (w0 : World) (hA : ∀ b, A b → b < w0.heap.size) (hv : RepV A w0 v l) (hvx : RepV A w0 x rx) (hf : Fine v) (hk0 : k0 ≤ v.fields.length) :
    Fc Try.prog 107 [.agg l.toArray, .int .i64 (k0 : Nat), .agg ((.string kx :: rx) : List Value).toArray] w0 (fun y w' => ∃ r, y = .agg r.toArray ∧ RepV (fun b => A b ∨ Fr w0 w' b) w' (.mk (zk 7) [] [] (v.fields.take k0 ++ (kx, x) :: v.fields.drop k0)) r) := by
  obtain ⟨bs, ls, fs, rfl, hbs, hls, hfs⟩ := RepV.open hv
  have hls0 := hls
  have hfs0 := hfs
  obtain ⟨la, lc, lb, lo, rfl, hla, hlget⟩ := RepL.openA hls0
  obtain ⟨fa, fc, fb, fo, rfl, hfa, hfget⟩ := RepF.openA hfs0
  have hz := hf.self
  refine ret_enter Try.func107 rfl Try.ntmps107 rfl ?_
  have cx := Ctx.start w0
  refine wp_seq ?_
  refine wp_region_lit ?_
  refine s_box cx rfl rfl rfl rfl rfl ?_; intro b3 w cx hb3 hw3
  refine s_box (cs := ((.string kx :: rx) : List Value)) cx rfl rfl rfl rfl rfl ?_; intro b5 w cx hb5 hw5
  refine s_alloc cx z33 rfl rfl rfl ?_; intro b6 w cx hb6 hw6
  refine wpList_nil ?_
  refine wp_seq ?_
  refine wp_region_lit ?_
  refine s_val rfl rfl (v_build (bd33z _) rfl rfl) ?_
  refine s_alloc cx z33 rfl rfl rfl ?_; intro b7 w cx hb7 hw7
  refine s_storeAllG cx 0 rfl rfl rfl rfl rfl rfl sz33 rfl rfl ?_; intro w cx hg1
  refine wpList_nil ?_
  refine wp_seq ?_
  refine wp_seq ?_
  refine wp_region_lit ?_
  replace cx := cx.nilRow 77 14
  refine s_val rfl rfl (v_assign rfl rfl) ?_
  refine wpList_nil ?_
  refine wp_block ?_
  refine w_loop (fun k f w1 => ∃ (i : Nat) (y : Value) (rs : List (List Value)), k + i = v.fields.length + 1 ∧ i ≤ v.fields.length + 1 ∧ f 1 = .int .i64 (k0 : Nat) ∧ f 3 = .pointer (some ⟨b3, 0, none⟩) ∧ f 5 = .pointer (some ⟨b5, 0, none⟩) ∧ f 6 = .pointer (some ⟨b6, 0, none⟩) ∧ f 7 = .pointer (some ⟨b7, 0, none⟩) ∧ f 8 = .int .i64 (i : Nat) ∧ Cxr w0 w1 [(b7, .cells (vrow (zk 7) (.slice none 0 0) (.slice none 0 0) y).toArray 33), (b6, .cells ([.int .i64 0, .bool false, .bool false, .string ByteArray.empty, .int .i64 0, .int .i64 0, .int .i64 0, .int .i64 0, .int .i64 0, .string ByteArray.empty, .slice none 0 0, .slice none 0 0, .slice none 0 0] : List Value).toArray 33), (b5, .cells ((.string kx :: rx) : List Value).toArray 77), (b3, .cells (vrow v.sc bs (.slice la v.list.length lc) (.slice fa v.fields.length fc)).toArray 33)] [⟨77, 14, y, (insK k0 (kx, x) v.fields i).length, rs.flatten⟩] ∧ RowsF A w0 (insK k0 (kx, x) v.fields i) rs) (v.fields.length + 1) ?_ ?_
  · skip
    exact ⟨0, .slice none 0 0, [], by omega, by omega, rfl, rfl, rfl, rfl, rfl, rfl, by rw [insK_zero]; exact cx, by rw [insK_zero]; trivial⟩
  intro gk3 f w hJ
  obtain ⟨i, y, rs, hk, hki, hs1, hs3, hs5, hs6, hs7, hs8, cx, hrl⟩ := hJ
  refine wp_seq ?_
  refine wp_seq ?_
  refine wp_region_lit ?_
  refine s_val rfl rfl (v_move rfl hs8) ?_
  refine s_val rfl rfl (v_fa fa33_7 rfl hs3) ?_
  refine s_val rfl rfl (v_load1 rfl rfl Try.underlying31 rfl (cx.cell 3 rfl rfl)) ?_
  refine s_val rfl rfl (v_lenSlice rfl rfl Try.underlying31) ?_
  refine s_val rfl rfl (v_cmp rfl rfl rfl rfl) ?_
  refine wpList_nil ?_
  refine c_split rfl (fun hc14 => ?_) (fun hc14 => ?_)
  · skip
    try simp only [bsl] at hc14
    have hin := insK_len (i := k0) (x := (kx, x)) (l := v.fields) (show i ≤ v.fields.length + 1 by omega)
    refine wp_skip ?_
    refine wp_seq ?_
    refine wp_block ?_
    refine wp_seq ?_
    refine wp_seq ?_
    refine wp_region_lit ?_
    refine s_val rfl rfl (v_move rfl hs8) ?_
    refine s_val rfl rfl (v_move rfl hs1) ?_
    refine s_val rfl rfl (v_cmp rfl rfl rfl rfl) ?_
    refine wpList_nil ?_
    refine c_split rfl (fun hc19 => ?_) (fun hc19 => ?_)
    · skip
      try simp only [bsl] at hc19
      have hik : i = k0 := by omega
      refine wp_region_lit ?_
      refine s_val rfl rfl (v_fa fa33_7 rfl hs7) ?_
      refine s_val rfl rfl (v_load1 rfl rfl Try.underlying31 rfl (cx.cell 0 rfl rfl)) ?_
      refine s_val rfl rfl (v_load rfl hs5 Try.underlying77 rfl sz77 (cx.row 2 rfl) (congrArg (· + 1) hvx.len)) ?_
      refine s_bsl1 cx Try.underlying31 sz77 z77 rfl rfl rfl rfl rfl rfl rfl (congrArg (· + 1) hvx.len) ?_; intro b23 w cx hb23 hw23
      have hrn := cx.row 0 rfl
      replace cx := cx.tl
      refine s_appendG (m := 1) cx ei77 Try.underlying31 rfl rfl rfl rfl rfl hrn (congrArg (· + 1) hvx.len) (rowF_one0 hvx.one) (by omega) ?_; intro v24 w cx hgr hnw
      refine s_val rfl rfl (v_fa fa33_7 rfl hs7) ?_
      refine s_store1G (v := v24) cx 0 rfl rfl rfl rfl rfl (own_one cx.head) rfl rfl rfl ?_; intro w cx hgs
      refine wpList_nil ?_
      refine wp_seq ?_
      refine wp_region_lit ?_
      refine s_val rfl rfl (v_move rfl hs8) ?_
      refine s_val rfl rfl (v_fa fa33_7 rfl hs3) ?_
      refine s_val rfl rfl (v_load1 rfl rfl Try.underlying31 rfl (cx.cell 3 rfl rfl)) ?_
      refine s_val rfl rfl (v_lenSlice rfl rfl Try.underlying31) ?_
      refine s_val rfl rfl (v_cmp rfl rfl rfl rfl) ?_
      refine wpList_nil ?_
      refine c_split rfl (fun hc30 => ?_) (fun hc30 => ?_)
      · skip
        try simp only [bsl] at hc30
        have hil : i < v.fields.length := by omega
        obtain rfl := hfa (by omega)
        obtain ⟨r, hr, hrv⟩ := hfget i v.fields[i] (List.getElem?_eq_getElem hil)
        refine w_ord cx (cx.pick2 0 3 rfl rfl rfl) mixed [(0, 31), (1, 32), (2, 33), (3, 34), (4, 35), (5, 36), (6, 37)] #[true, true, true, true, true, true, true, false, false, false, false] (by kernel_rfl) (by kernel_rfl) (by kernel_rfl) (by kernel_rfl) ?_
        refine pu_one rfl (wnt_none rfl) (fun w cx => v_fa fa33_7 rfl hs7) ?_
        refine pu_one rfl (wnt_none rfl) (fun w cx => v_load1 rfl rfl Try.underlying31 rfl (cx.cell 0 rfl rfl)) ?_
        refine pu_one rfl (wnt_none rfl) (fun w cx => v_fa fa33_7 rfl hs3) ?_
        refine pu_one rfl (wnt_none rfl) (fun w cx => v_load1 rfl rfl Try.underlying31 rfl (cx.cell 1 rfl rfl)) ?_
        refine pu_one rfl (wnt_none rfl) (fun w cx => v_move rfl hs8) ?_
        refine pu_one rfl (wnt_none rfl) (fun w cx => v_ia Try.underlying31 sz77 rfl rfl rfl (by omega) (by omega)) ?_
        refine pu_one rfl (wnt_none rfl) (fun w cx => v_load rfl rfl Try.underlying77 rfl sz77 (hr.up cx.ext) (congrArg (· + 1) hrv.len)) ?_
        refine pu_nil ?_; intro w cx hwD8
        refine x_one (i := 7) (by kernel_rfl) rfl ?_
        refine s_bsl1 cx Try.underlying31 sz77 z77 rfl rfl rfl rfl rfl rfl rfl (congrArg (· + 1) hrv.len) ?_; intro b38 w cx hb38 hw38
        have hrn := cx.row 0 rfl
        replace cx := cx.tl
        refine x_next ⟨.inl (cx.pick2 0 3 rfl rfl rfl), ?_⟩
        refine x_one (i := 8) (by kernel_rfl) rfl ?_
        refine s_appendG (m := 1) cx ei77 Try.underlying31 rfl rfl rfl rfl rfl hrn (congrArg (· + 1) hrv.len) (rowF_one0 hrv.one) (by omega) ?_; intro v39 w cx hgr hnw
        refine x_next ⟨.inr (by kernel_rfl), ?_⟩
        refine x_one (i := 9) (by kernel_rfl) rfl ?_
        refine s_val rfl rfl (v_fa fa33_7 rfl hs7) ?_
        refine x_next ⟨.inr (by kernel_rfl), ?_⟩
        refine x_one (i := 10) (by kernel_rfl) rfl ?_
        refine s_store1G (v := v39) cx 0 rfl rfl rfl rfl rfl (own_one cx.head) rfl rfl rfl ?_; intro w cx hgs
        refine x_next ⟨.inr (by kernel_rfl), ?_⟩
        refine x_done (by kernel_rfl) ?_
        refine wp_region_lit ?_
        refine s_val rfl rfl (v_move rfl hs8) ?_
        refine s_val rfl rfl (v_add rfl rfl rfl (by omega) (by omega)) ?_
        refine s_val rfl rfl (v_assign rfl rfl) ?_
        refine wpList_nil ?_
        have e := insK_at (x := (kx, x)) hik hil
        refine ⟨gk3 - 1, _, by omega, rfl, i + 1, v39, rs ++ [(.string kx :: rx)] ++ [.string v.fields[i].1 :: r], by omega, by omega, hs1, hs3, hs5, hs6, hs7, rfl, (by rw [e, show (rs ++ [(.string kx :: rx)] ++ [.string v.fields[i].1 :: r]).flatten = rs.flatten ++ ((.string kx :: rx)) ++ (.string v.fields[i].1 :: r) by simp, show (insK k0 (kx, x) v.fields i ++ [(kx, x)] ++ [v.fields[i]]).length = (insK k0 (kx, x) v.fields i).length + 2 by simp]; exact cx), ?_⟩
        rw [e]
        exact RowsF.snoc _ _ (RowsF.snoc _ _ hrl hvx) hrv
      try simp only [bsl] at hc30
      have hil : i = v.fields.length := by omega
      refine wp_skip ?_
      refine wp_region_lit ?_
      refine s_val rfl rfl (v_move rfl hs8) ?_
      refine s_val rfl rfl (v_add rfl rfl rfl (by omega) (by omega)) ?_
      refine s_val rfl rfl (v_assign rfl rfl) ?_
      refine wpList_nil ?_
      have e := insK_last (x := (kx, x)) hik hil
      refine ⟨gk3 - 1, _, by omega, rfl, i + 1, v24, rs ++ [(.string kx :: rx)], by omega, by omega, hs1, hs3, hs5, hs6, hs7, rfl, (by rw [e, show (rs ++ [(.string kx :: rx)]).flatten = rs.flatten ++ ((.string kx :: rx)) by simp, show (insK k0 (kx, x) v.fields i ++ [(kx, x)]).length = (insK k0 (kx, x) v.fields i).length + 1 by simp]; exact cx), ?_⟩
      rw [e]
      exact RowsF.snoc _ _ hrl hvx
    try simp only [bsl] at hc19
    have hik : i ≠ k0 := by omega
    refine wp_skip ?_
    refine wp_seq ?_
    refine wp_region_lit ?_
    refine s_val rfl rfl (v_move rfl hs8) ?_
    refine s_val rfl rfl (v_fa fa33_7 rfl hs3) ?_
    refine s_val rfl rfl (v_load1 rfl rfl Try.underlying31 rfl (cx.cell 3 rfl rfl)) ?_
    refine s_val rfl rfl (v_lenSlice rfl rfl Try.underlying31) ?_
    refine s_val rfl rfl (v_cmp rfl rfl rfl rfl) ?_
    refine wpList_nil ?_
    refine c_split rfl (fun hc30 => ?_) (fun hc30 => ?_)
    · skip
      try simp only [bsl] at hc30
      have hil : i < v.fields.length := by omega
      obtain rfl := hfa (by omega)
      obtain ⟨r, hr, hrv⟩ := hfget i v.fields[i] (List.getElem?_eq_getElem hil)
      refine w_ord cx (cx.pick2 0 3 rfl rfl rfl) mixed [(0, 31), (1, 32), (2, 33), (3, 34), (4, 35), (5, 36), (6, 37)] #[true, true, true, true, true, true, true, false, false, false, false] (by kernel_rfl) (by kernel_rfl) (by kernel_rfl) (by kernel_rfl) ?_
      refine pu_one rfl (wnt_none rfl) (fun w cx => v_fa fa33_7 rfl hs7) ?_
      refine pu_one rfl (wnt_none rfl) (fun w cx => v_load1 rfl rfl Try.underlying31 rfl (cx.cell 0 rfl rfl)) ?_
      refine pu_one rfl (wnt_none rfl) (fun w cx => v_fa fa33_7 rfl hs3) ?_
      refine pu_one rfl (wnt_none rfl) (fun w cx => v_load1 rfl rfl Try.underlying31 rfl (cx.cell 1 rfl rfl)) ?_
      refine pu_one rfl (wnt_none rfl) (fun w cx => v_move rfl hs8) ?_
      refine pu_one rfl (wnt_none rfl) (fun w cx => v_ia Try.underlying31 sz77 rfl rfl rfl (by omega) (by omega)) ?_
      refine pu_one rfl (wnt_none rfl) (fun w cx => v_load rfl rfl Try.underlying77 rfl sz77 (hr.up cx.ext) (congrArg (· + 1) hrv.len)) ?_
      refine pu_nil ?_; intro w cx hwD8
      refine x_one (i := 7) (by kernel_rfl) rfl ?_
      refine s_bsl1 cx Try.underlying31 sz77 z77 rfl rfl rfl rfl rfl rfl rfl (congrArg (· + 1) hrv.len) ?_; intro b38 w cx hb38 hw38
      have hrn := cx.row 0 rfl
      replace cx := cx.tl
      refine x_next ⟨.inl (cx.pick2 0 3 rfl rfl rfl), ?_⟩
      refine x_one (i := 8) (by kernel_rfl) rfl ?_
      refine s_appendG (m := 1) cx ei77 Try.underlying31 rfl rfl rfl rfl rfl hrn (congrArg (· + 1) hrv.len) (rowF_one0 hrv.one) (by omega) ?_; intro v39 w cx hgr hnw
      refine x_next ⟨.inr (by kernel_rfl), ?_⟩
      refine x_one (i := 9) (by kernel_rfl) rfl ?_
      refine s_val rfl rfl (v_fa fa33_7 rfl hs7) ?_
      refine x_next ⟨.inr (by kernel_rfl), ?_⟩
      refine x_one (i := 10) (by kernel_rfl) rfl ?_
      refine s_store1G (v := v39) cx 0 rfl rfl rfl rfl rfl (own_one cx.head) rfl rfl rfl ?_; intro w cx hgs
      refine x_next ⟨.inr (by kernel_rfl), ?_⟩
      refine x_done (by kernel_rfl) ?_
      refine wp_region_lit ?_
      refine s_val rfl rfl (v_move rfl hs8) ?_
      refine s_val rfl rfl (v_add rfl rfl rfl (by omega) (by omega)) ?_
      refine s_val rfl rfl (v_assign rfl rfl) ?_
      refine wpList_nil ?_
      have e := insK_go (x := (kx, x)) hik hil
      refine ⟨gk3 - 1, _, by omega, rfl, i + 1, v39, rs ++ [.string v.fields[i].1 :: r], by omega, by omega, hs1, hs3, hs5, hs6, hs7, rfl, (by rw [e, show (rs ++ [.string v.fields[i].1 :: r]).flatten = rs.flatten ++ (.string v.fields[i].1 :: r) by simp, show (insK k0 (kx, x) v.fields i ++ [v.fields[i]]).length = (insK k0 (kx, x) v.fields i).length + 1 by simp]; exact cx), ?_⟩
      rw [e]
      exact RowsF.snoc _ _ hrl hrv
    try simp only [bsl] at hc30
    have hil : i = v.fields.length := by omega
    refine wp_skip ?_
    refine wp_region_lit ?_
    refine s_val rfl rfl (v_move rfl hs8) ?_
    refine s_val rfl rfl (v_add rfl rfl rfl (by omega) (by omega)) ?_
    refine s_val rfl rfl (v_assign rfl rfl) ?_
    refine wpList_nil ?_
    have e := insK_end (x := (kx, x)) hik hil
    refine ⟨gk3 - 1, _, by omega, rfl, i + 1, y, rs, by omega, by omega, hs1, hs3, hs5, hs6, hs7, rfl, (by rw [e]; exact cx), ?_⟩
    rw [e]
    exact hrl
  try simp only [bsl] at hc14
  refine wp_exit ?_
  refine wp_seq ?_
  refine wp_region_lit ?_
  refine s_val rfl rfl (v_load rfl hs7 Try.underlying33 rfl sz33 (cx.row 0 rfl) rfl) ?_
  refine s_storeAllG cx 1 rfl rfl rfl hs6 rfl rfl sz33 rfl (vrow_one rfl rfl (own_one cx.head)) ?_; intro w cx hg9
  refine wpList_nil ?_
  refine wp_ret ?_
  rw [insK_all hk0 (by omega)] at cx hrl
  exact ret_cell Try.results107 hs6 (cx.at 1 rfl) Try.underlying33 rfl sz33 ⟨cx.ext, _, rfl, valLF repL_nil (cx.fldA hA rfl hrl)⟩
end Go.Proofs.Ytmkihcdcgkdilaa
end
section
namespace Go.Proofs.Ytmkihcdcgkdilaa
open Go Go.Dk Go.RowKit
set_option linter.unusedSimpArgs false
set_option linter.unusedVariables false
attribute [local irreducible] Go.wpList Go.Code.wp Go.bodyPost Go.wpStill
set_option maxRecDepth 10000 in
set_option maxHeartbeats 6400000 in
theorem c110 (v : V) (l : List Value) (k0 : Nat) (A : Nat → Prop) (w0 : World) (hA : ∀ b, A b → b < w0.heap.size) (hv : RepV A w0 v l) (hf : Fine v) :
    Fc Try.prog 110 [.agg l.toArray, .int .i64 (k0 : Nat)] w0 (fun y w' => ∃ r, y = .agg r.toArray ∧ RepV (fun b => A b ∨ Fr w0 w' b) w' (.mk (zk v.sc.kind) [] (v.list.eraseIdx k0) (v.fields.eraseIdx k0)) r) := by
  obtain ⟨bs, ls, fs, rfl, hbs, hls, hfs⟩ := RepV.open hv
  have hls0 := hls
  have hfs0 := hfs
  obtain ⟨la, lc, lb, lo, rfl, hla, hlget⟩ := RepL.openA hls0
  obtain ⟨fa, fc, fb, fo, rfl, hfa, hfget⟩ := RepF.openA hfs0
  have hz := hf.self
  refine ret_enter Try.func110 rfl Try.ntmps110 rfl ?_
  have cx := Ctx.start w0
  refine wp_seq ?_
  refine wp_region_lit ?_
  refine s_box cx rfl rfl rfl rfl rfl ?_; intro b2 w cx hb2 hw2
  refine s_alloc cx z33 rfl rfl rfl ?_; intro b4 w cx hb4 hw4
  refine wpList_nil ?_
  refine wp_seq ?_
  refine wp_region_lit ?_
  refine s_val rfl rfl (v_fa fa33_0 rfl rfl) ?_
  refine s_val rfl rfl (v_load1 rfl rfl Try.underlying3 rfl (cx.cell 1 rfl rfl)) ?_
  refine s_val rfl rfl (v_build (bd33z _) rfl rfl) ?_
  refine s_alloc cx z33 rfl rfl rfl ?_; intro b5 w cx hb5 hw5
  refine s_storeAllG cx 0 rfl rfl rfl rfl rfl rfl sz33 rfl rfl ?_; intro w cx hg1
  refine wpList_nil ?_
  refine wp_seq ?_
  refine wp_seq ?_
  refine wp_region_lit ?_
  replace cx := cx.nilRow 33 13
  refine s_val rfl rfl (v_assign rfl rfl) ?_
  refine wpList_nil ?_
  refine wp_block ?_
  refine w_loop (fun k f w1 => ∃ (i : Nat) (y : Value) (rs : List (List Value)), k + i = v.list.length ∧ f 1 = .int .i64 (k0 : Nat) ∧ f 2 = .pointer (some ⟨b2, 0, none⟩) ∧ f 4 = .pointer (some ⟨b4, 0, none⟩) ∧ f 5 = .pointer (some ⟨b5, 0, none⟩) ∧ f 6 = .int .i64 (i : Nat) ∧ Cxr w0 w1 [(b5, .cells (vrow (zk v.sc.kind) (.slice none 0 0) y (.slice none 0 0)).toArray 33), (b4, .cells ([.int .i64 0, .bool false, .bool false, .string ByteArray.empty, .int .i64 0, .int .i64 0, .int .i64 0, .int .i64 0, .int .i64 0, .string ByteArray.empty, .slice none 0 0, .slice none 0 0, .slice none 0 0] : List Value).toArray 33), (b2, .cells (vrow v.sc bs (.slice la v.list.length lc) (.slice fa v.fields.length fc)).toArray 33)] [⟨33, 13, y, ((v.list.take i).eraseIdx k0).length, rs.flatten⟩] ∧ RowsV A w0 ((v.list.take i).eraseIdx k0) rs) (v.list.length) ?_ ?_
  · skip
    exact ⟨0, .slice none 0 0, [], by omega, rfl, rfl, rfl, rfl, rfl, cx, trivial⟩
  intro gk3 f w hJ
  obtain ⟨i, y, rs, hk, hs1, hs2, hs4, hs5, hs6, cx, hrl⟩ := hJ
  refine wp_seq ?_
  refine wp_seq ?_
  refine wp_region_lit ?_
  refine s_val rfl rfl (v_move rfl hs6) ?_
  refine s_val rfl rfl (v_fa fa33_6 rfl hs2) ?_
  refine s_val rfl rfl (v_load1 rfl rfl Try.underlying30 rfl (cx.cell 2 rfl rfl)) ?_
  refine s_val rfl rfl (v_lenSlice rfl rfl Try.underlying30) ?_
  refine s_val rfl rfl (v_cmp rfl rfl rfl rfl) ?_
  refine wpList_nil ?_
  refine c_split rfl (fun hc15 => ?_) (fun hc15 => ?_)
  · skip
    try simp only [bsl] at hc15
    have hil : i < v.list.length := by omega
    have hin := outK_len (i := k0) (l := v.list) (show i ≤ v.list.length by omega)
    obtain rfl := hla (by omega)
    obtain ⟨r, hr, hrv⟩ := hlget i v.list[i] (List.getElem?_eq_getElem hil)
    refine wp_skip ?_
    refine wp_seq ?_
    refine wp_block ?_
    refine wp_seq ?_
    refine wp_region_lit ?_
    refine s_val rfl rfl (v_move rfl hs6) ?_
    refine s_val rfl rfl (v_move rfl hs1) ?_
    refine s_val rfl rfl (v_cmp rfl rfl rfl rfl) ?_
    refine wpList_nil ?_
    refine c_split rfl (fun hc20 => ?_) (fun hc20 => ?_)
    · skip
      try simp only [bsl] at hc20
      have hik : i ≠ k0 := by omega
      refine w_ord cx (cx.pick2 0 2 rfl rfl rfl) mixed [(0, 21), (1, 22), (2, 23), (3, 24), (4, 25), (5, 26), (6, 27)] #[true, true, true, true, true, true, true, false, false, false, false] (by kernel_rfl) (by kernel_rfl) (by kernel_rfl) (by kernel_rfl) ?_
      refine pu_one rfl (wnt_none rfl) (fun w cx => v_fa fa33_6 rfl hs5) ?_
      refine pu_one rfl (wnt_none rfl) (fun w cx => v_load1 rfl rfl Try.underlying30 rfl (cx.cell 0 rfl rfl)) ?_
      refine pu_one rfl (wnt_none rfl) (fun w cx => v_fa fa33_6 rfl hs2) ?_
      refine pu_one rfl (wnt_none rfl) (fun w cx => v_load1 rfl rfl Try.underlying30 rfl (cx.cell 1 rfl rfl)) ?_
      refine pu_one rfl (wnt_none rfl) (fun w cx => v_move rfl hs6) ?_
      refine pu_one rfl (wnt_none rfl) (fun w cx => v_ia Try.underlying30 sz33 rfl rfl rfl (by omega) (by omega)) ?_
      refine pu_one rfl (wnt_none rfl) (fun w cx => v_load rfl rfl Try.underlying33 rfl sz33 (hr.up cx.ext) hrv.len) ?_
      refine pu_nil ?_; intro w cx hwD6
      refine x_one (i := 7) (by kernel_rfl) rfl ?_
      refine s_bsl1 cx Try.underlying30 sz33 z33 rfl rfl rfl rfl rfl rfl rfl hrv.len ?_; intro b28 w cx hb28 hw28
      have hrn := cx.row 0 rfl
      replace cx := cx.tl
      refine x_next ⟨.inl (cx.pick2 0 2 rfl rfl rfl), ?_⟩
      refine x_one (i := 8) (by kernel_rfl) rfl ?_
      refine s_appendG (m := 1) cx ei33 Try.underlying30 rfl rfl rfl rfl rfl hrn hrv.len hrv.one (by omega) ?_; intro v29 w cx hgr hnw
      refine x_next ⟨.inr (by kernel_rfl), ?_⟩
      refine x_one (i := 9) (by kernel_rfl) rfl ?_
      refine s_val rfl rfl (v_fa fa33_6 rfl hs5) ?_
      refine x_next ⟨.inr (by kernel_rfl), ?_⟩
      refine x_one (i := 10) (by kernel_rfl) rfl ?_
      refine s_store1G (v := v29) cx 0 rfl rfl rfl rfl rfl (own_one cx.head) rfl rfl rfl ?_; intro w cx hgs
      refine x_next ⟨.inr (by kernel_rfl), ?_⟩
      refine x_done (by kernel_rfl) ?_
      refine wp_region_lit ?_
      refine s_val rfl rfl (v_move rfl hs6) ?_
      refine s_val rfl rfl (v_add rfl rfl rfl (by omega) (by omega)) ?_
      refine s_val rfl rfl (v_assign rfl rfl) ?_
      refine wpList_nil ?_
      have e := outK_go hik hil
      refine ⟨gk3 - 1, _, by omega, rfl, i + 1, v29, rs ++ [r], by omega, hs1, hs2, hs4, hs5, rfl, (by rw [e, show (rs ++ [r]).flatten = rs.flatten ++ (r) by simp, show ((v.list.take i).eraseIdx k0 ++ [v.list[i]]).length = ((v.list.take i).eraseIdx k0).length + 1 by simp]; exact cx), ?_⟩
      rw [e]
      exact RowsV.snoc _ _ hrl hrv
    try simp only [bsl] at hc20
    have hik : i = k0 := by omega
    refine wp_skip ?_
    refine wp_region_lit ?_
    refine s_val rfl rfl (v_move rfl hs6) ?_
    refine s_val rfl rfl (v_add rfl rfl rfl (by omega) (by omega)) ?_
    refine s_val rfl rfl (v_assign rfl rfl) ?_
    refine wpList_nil ?_
    have e := outK_at hik hil
    refine ⟨gk3 - 1, _, by omega, rfl, i + 1, y, rs, by omega, hs1, hs2, hs4, hs5, rfl, (by rw [e]; exact cx), ?_⟩
    rw [e]
    exact hrl
  try simp only [bsl] at hc15
  refine wp_exit ?_
  refine wp_seq ?_
  refine wp_seq ?_
  refine wp_region_lit ?_
  replace cx := cx.nilRow 77 14
  refine s_val rfl rfl (v_assign rfl rfl) ?_
  refine wpList_nil ?_
  refine wp_block ?_
  have hiL : i = v.list.length := by omega
  subst hiL
  rw [List.take_length] at hrl cx
  obtain ⟨rl, hrl0⟩ : ∃ rl, rl = rs := ⟨_, rfl⟩
  subst hrl0
  have hrlL := hrl
  clear hrl
  refine w_loop (fun k f w1 => ∃ (i : Nat) (z : Value) (rs : List (List Value)), k + i = v.fields.length ∧ f 1 = .int .i64 (k0 : Nat) ∧ f 2 = .pointer (some ⟨b2, 0, none⟩) ∧ f 4 = .pointer (some ⟨b4, 0, none⟩) ∧ f 5 = .pointer (some ⟨b5, 0, none⟩) ∧ f 7 = .int .i64 (i : Nat) ∧ Cxr w0 w1 [(b5, .cells (vrow (zk v.sc.kind) (.slice none 0 0) y z).toArray 33), (b4, .cells ([.int .i64 0, .bool false, .bool false, .string ByteArray.empty, .int .i64 0, .int .i64 0, .int .i64 0, .int .i64 0, .int .i64 0, .string ByteArray.empty, .slice none 0 0, .slice none 0 0, .slice none 0 0] : List Value).toArray 33), (b2, .cells (vrow v.sc bs (.slice la v.list.length lc) (.slice fa v.fields.length fc)).toArray 33)] [⟨77, 14, z, ((v.fields.take i).eraseIdx k0).length, rs.flatten⟩, ⟨33, 13, y, (v.list.eraseIdx k0).length, rl.flatten⟩] ∧ RowsF A w0 ((v.fields.take i).eraseIdx k0) rs) (v.fields.length) ?_ ?_
  · skip
    exact ⟨0, .slice none 0 0, [], by omega, hs1, hs2, hs4, hs5, rfl, cx, trivial⟩
  intro gk8 f w hJ
  obtain ⟨i, z, rs, hk, hs1, hs2, hs4, hs5, hs7, cx, hrl⟩ := hJ
  refine wp_seq ?_
  refine wp_seq ?_
  refine wp_region_lit ?_
  refine s_val rfl rfl (v_move rfl hs7) ?_
  refine s_val rfl rfl (v_fa fa33_7 rfl hs2) ?_
  refine s_val rfl rfl (v_load1 rfl rfl Try.underlying31 rfl (cx.cell 2 rfl rfl)) ?_
  refine s_val rfl rfl (v_lenSlice rfl rfl Try.underlying31) ?_
  refine s_val rfl rfl (v_cmp rfl rfl rfl rfl) ?_
  refine wpList_nil ?_
  refine c_split rfl (fun hc35 => ?_) (fun hc35 => ?_)
  · skip
    try simp only [bsl] at hc35
    have hil : i < v.fields.length := by omega
    have hin := outK_len (i := k0) (l := v.fields) (show i ≤ v.fields.length by omega)
    obtain rfl := hfa (by omega)
    obtain ⟨r, hr, hrv⟩ := hfget i v.fields[i] (List.getElem?_eq_getElem hil)
    refine wp_skip ?_
    refine wp_seq ?_
    refine wp_block ?_
    refine wp_seq ?_
    refine wp_region_lit ?_
    refine s_val rfl rfl (v_move rfl hs7) ?_
    refine s_val rfl rfl (v_move rfl hs1) ?_
    refine s_val rfl rfl (v_cmp rfl rfl rfl rfl) ?_
    refine wpList_nil ?_
    refine c_split rfl (fun hc40 => ?_) (fun hc40 => ?_)
    · skip
      try simp only [bsl] at hc40
      have hik : i ≠ k0 := by omega
      refine w_ord cx (cx.pick2 0 2 rfl rfl rfl) mixed [(0, 41), (1, 42), (2, 43), (3, 44), (4, 45), (5, 46), (6, 47)] #[true, true, true, true, true, true, true, false, false, false, false] (by kernel_rfl) (by kernel_rfl) (by kernel_rfl) (by kernel_rfl) ?_
      refine pu_one rfl (wnt_none rfl) (fun w cx => v_fa fa33_7 rfl hs5) ?_
      refine pu_one rfl (wnt_none rfl) (fun w cx => v_load1 rfl rfl Try.underlying31 rfl (cx.cell 0 rfl rfl)) ?_
      refine pu_one rfl (wnt_none rfl) (fun w cx => v_fa fa33_7 rfl hs2) ?_
      refine pu_one rfl (wnt_none rfl) (fun w cx => v_load1 rfl rfl Try.underlying31 rfl (cx.cell 1 rfl rfl)) ?_
      refine pu_one rfl (wnt_none rfl) (fun w cx => v_move rfl hs7) ?_
      refine pu_one rfl (wnt_none rfl) (fun w cx => v_ia Try.underlying31 sz77 rfl rfl rfl (by omega) (by omega)) ?_
      refine pu_one rfl (wnt_none rfl) (fun w cx => v_load rfl rfl Try.underlying77 rfl sz77 (hr.up cx.ext) (congrArg (· + 1) hrv.len)) ?_
      refine pu_nil ?_; intro w cx hwD11
      refine x_one (i := 7) (by kernel_rfl) rfl ?_
      refine s_bsl1 cx Try.underlying31 sz77 z77 rfl rfl rfl rfl rfl rfl rfl (congrArg (· + 1) hrv.len) ?_; intro b48 w cx hb48 hw48
      have hrn := cx.row 0 rfl
      replace cx := cx.tl
      refine x_next ⟨.inl (cx.pick2 0 2 rfl rfl rfl), ?_⟩
      refine x_one (i := 8) (by kernel_rfl) rfl ?_
      refine s_appendG (m := 1) cx ei77 Try.underlying31 rfl rfl rfl rfl rfl hrn (congrArg (· + 1) hrv.len) (rowF_one0 hrv.one) (by omega) ?_; intro v49 w cx hgr hnw
      refine x_next ⟨.inr (by kernel_rfl), ?_⟩
      refine x_one (i := 9) (by kernel_rfl) rfl ?_
      refine s_val rfl rfl (v_fa fa33_7 rfl hs5) ?_
      refine x_next ⟨.inr (by kernel_rfl), ?_⟩
      refine x_one (i := 10) (by kernel_rfl) rfl ?_
      refine s_store1G (v := v49) cx 0 rfl rfl rfl rfl rfl (own_one cx.head) rfl rfl rfl ?_; intro w cx hgs
      refine x_next ⟨.inr (by kernel_rfl), ?_⟩
      refine x_done (by kernel_rfl) ?_
      refine wp_region_lit ?_
      refine s_val rfl rfl (v_move rfl hs7) ?_
      refine s_val rfl rfl (v_add rfl rfl rfl (by omega) (by omega)) ?_
      refine s_val rfl rfl (v_assign rfl rfl) ?_
      refine wpList_nil ?_
      have e := outK_go hik hil
      refine ⟨gk8 - 1, _, by omega, rfl, i + 1, v49, rs ++ [.string v.fields[i].1 :: r], by omega, hs1, hs2, hs4, hs5, rfl, (by rw [e, show (rs ++ [.string v.fields[i].1 :: r]).flatten = rs.flatten ++ (.string v.fields[i].1 :: r) by simp, show ((v.fields.take i).eraseIdx k0 ++ [v.fields[i]]).length = ((v.fields.take i).eraseIdx k0).length + 1 by simp]; exact cx), ?_⟩
      rw [e]
      exact RowsF.snoc _ _ hrl hrv
    try simp only [bsl] at hc40
    have hik : i = k0 := by omega
    refine wp_skip ?_
    refine wp_region_lit ?_
    refine s_val rfl rfl (v_move rfl hs7) ?_
    refine s_val rfl rfl (v_add rfl rfl rfl (by omega) (by omega)) ?_
    refine s_val rfl rfl (v_assign rfl rfl) ?_
    refine wpList_nil ?_
    have e := outK_at hik hil
    refine ⟨gk8 - 1, _, by omega, rfl, i + 1, z, rs, by omega, hs1, hs2, hs4, hs5, rfl, (by rw [e]; exact cx), ?_⟩
    rw [e]
    exact hrl
  try simp only [bsl] at hc35
  refine wp_exit ?_
  refine wp_seq ?_
  refine wp_region_lit ?_
  refine s_val rfl rfl (v_load rfl hs5 Try.underlying33 rfl sz33 (cx.row 0 rfl) rfl) ?_
  refine s_storeAllG cx 1 rfl rfl rfl hs4 rfl rfl sz33 rfl (vrow_one rfl (own_one cx.row2) (own_one cx.head)) ?_; intro w cx hg12
  refine wpList_nil ?_
  refine wp_ret ?_
  have hiF : i = v.fields.length := by omega
  subst hiF
  rw [List.take_length] at hrl cx
  exact ret_cell Try.results110 hs4 (cx.at 1 rfl) Try.underlying33 rfl sz33 ⟨cx.ext, _, rfl, valLF (cx.swap.lstA hA rfl hrlL) (cx.fldA hA rfl hrl)⟩
end Go.Proofs.Ytmkihcdcgkdilaa
end
