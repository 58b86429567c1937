/-
  Parts of rows of fields.
-/
import Derived.Test.YtmkihcdcgkdilaaVi
set_option linter.unusedVariables false
set_option linter.unusedSimpArgs false
namespace Go.Dk
open Go Go.RowKit
theorem RowsF.append {A : Nat → Prop} {w : World} : ∀ (fs fs' : List (ByteArray × V)) (rs rs' : List (List Value)), RowsF A w fs rs → RowsF A w fs' rs' → RowsF A w (fs ++ fs') (rs ++ rs')
  | [], fs', [], rs', _, h => h
  | _ :: fs, fs', _ :: rs, rs', h, h' => ⟨h.1, RowsF.append fs fs' rs rs' h.2 h'⟩
  | [], _, _ :: _, _, h, _ => h.elim
  | _ :: _, _, [], _, h, _ => h.elim
theorem RowsF.take {A : Nat → Prop} {w : World} : ∀ (fs : List (ByteArray × V)) (rs : List (List Value)) (k : Nat), RowsF A w fs rs → RowsF A w (fs.take k) (rs.take k)
  | [], [], k, _ => by simp [RowsF]
  | _ :: fs, _ :: rs, 0, h => by simp [RowsF]
  | _ :: fs, _ :: rs, k + 1, h => ⟨h.1, RowsF.take fs rs k h.2⟩
  | [], _ :: _, _, h => h.elim
  | _ :: _, [], _, h => h.elim
theorem RowsF.drop {A : Nat → Prop} {w : World} : ∀ (fs : List (ByteArray × V)) (rs : List (List Value)) (k : Nat), RowsF A w fs rs → RowsF A w (fs.drop k) (rs.drop k)
  | [], [], k, _ => by simp [RowsF]
  | _ :: fs, _ :: rs, 0, h => h
  | _ :: fs, _ :: rs, k + 1, h => RowsF.drop fs rs k h.2
  | [], _ :: _, _, h => h.elim
  | _ :: _, [], _, h => h.elim
theorem RowsF.one {A : Nat → Prop} {w : World} : ∀ (fs : List (ByteArray × V)) (rs : List (List Value)), RowsF A w fs rs → rs.flatten.all (·.oneCell') = true
  | [], [], _ => rfl
  | kv :: fs, r :: rs, ⟨⟨l, e, h⟩, hr⟩ => by
    subst e
    rw [List.flatten_cons, List.all_append, RowsF.one fs rs hr, List.all_cons, h.one]; rfl
  | [], _ :: _, h => h.elim
  | _ :: _, [], h => h.elim
theorem flat_take {rs : List (List Value)} {k j : Nat} {u : Value} (h : (rs.take k).flatten[j]? = some u) : rs.flatten[j]? = some u := by
  have e : rs.flatten = (rs.take k).flatten ++ (rs.drop k).flatten := by rw [← List.flatten_append, List.take_append_drop]
  rw [e, List.getElem?_append_left (List.getElem?_eq_some_iff.1 h).1]
  exact h
theorem flat_drop {rs : List (List Value)} {k j n : Nat} {u : Value} (hn : (rs.take k).flatten.length = n) (h : (rs.drop k).flatten[j]? = some u) : rs.flatten[n + j]? = some u := by
  have e : rs.flatten = (rs.take k).flatten ++ (rs.drop k).flatten := by rw [← List.flatten_append, List.take_append_drop]
  rw [e, List.getElem?_append_right (by omega), hn, Nat.add_sub_cancel_left]
  exact h
/-- the elements of a slice from h on: an address that leads to them -/
theorem sliced_lo {w : World} {b o len cap h : Nat} {rs : List (List Value)} (hr : RowAt w b o rs.flatten) (hl : (rs.take h).flatten.length = h * 14) : ∃ ad, sliced (some ⟨b, o, none⟩) h len cap 14 = .slice (some ad) (len - h) (cap - h) ∧ ∀ j u, (rs.drop h).flatten[j]? = some u → cap ≠ h → w.cell? (ad.add j) = some u := by
  unfold sliced
  by_cases hc : cap = h
  · rw [if_pos hc]
    exact ⟨_, rfl, fun j u _ hne => absurd hc hne⟩
  · rw [if_neg hc]
    refine ⟨⟨b, o + h * 14, none⟩, ?_, fun j u hj _ => ?_⟩
    · simp [add_addr]
    · rw [add_addr, Nat.add_assoc]
      exact hr _ _ (flat_drop hl hj)
theorem sliced_hi {b o cap h : Nat} (hc : 0 < cap) : sliced (some ⟨b, o, none⟩) 0 h cap 14 = .slice (some ⟨b, o, none⟩) h cap := by
  unfold sliced
  rw [if_neg (by omega)]
  simp [add_addr]
theorem V.ind2 {p : V → Prop} (h : ∀ v, (∀ x ∈ v.list, p x) → (∀ kv ∈ v.fields, p kv.2) → p v) : ∀ v, p v := V.ind fun s b l f hl hf => h (.mk s b l f) hl hf
def strB (l : List UInt8) : ByteArray := strOf (l.map fun u => (u.toNat : Int))
section
variable {P : Program} {o : Oper} {w : World} {ρ : Operand → Value}
/-- bytes as a string -/
theorem v_b2sR {s t e : TypeId} {x : Operand} {A : Nat → Prop} {v : Value} {l : List UInt8} (ho : o.op = .convert s t x) (hs : P.underlying s = some (.slice e)) (he : P.underlying e = some (.int .u8)) (ht : P.underlying t = some .string) (hr : RepB A w v l) (hx : ρ x = v) : (execOp ρ o).run P w = .ok (.value (.string (strB l))) w := by
  obtain ⟨a, c, rfl, hc⟩ := repB_cells hr
  unfold execOp; rw [ho]
  cases a with
  | none =>
    have h0 : l = [] := by
      obtain ⟨b, o, hsl, _⟩ := hr
      rcases hsl with ⟨h0, _⟩ | ⟨ad, cap, e, _⟩
      · exact List.eq_nil_of_length_eq_zero h0
      · cases e
    subst h0
    simp [hx, run_convert_bytes_string w s t e _ _ _ hs he ht, Conv.bytesToString, strB, strOf]
  | some ad =>
    have e1 : (l.map fun u => (u.toNat : Int)).map (Value.int .u8) = l.map byteVal := by rw [List.map_map]; rfl
    have hl := run_loadCells_list (P := P) w ad (l.map byteVal) (fun j v hv => hc ad rfl j v hv)
    rw [List.length_map, ← e1] at hl
    have := run_bytesToString (P := P) w ad l.length c _ hl
    simp [hx, run_convert_bytes_string w s t e _ _ _ hs he ht, this, strB, strOf]
theorem v_boolSame {t t' : TypeId} {x y : Operand} {a : Bool} (ho : o.op = .binOp .neq t x y t') (hx : ρ x = .bool a) (hy : ρ y = .bool a) (hu : P.underlying t = some .bool) : (execOp ρ o).run P w = .ok (.value (.bool false)) w := by
  unfold execOp; rw [ho]
  have := run_neq_bool (w := w) t a a hu
  simp [hx, hy, eqGuard, this]
theorem v_strSame {t t' : TypeId} {x y : Operand} {s : ByteArray} (ho : o.op = .binOp .neq t x y t') (hx : ρ x = .string s) (hy : ρ y = .string s) : (execOp ρ o).run P w = .ok (.value (.bool false)) w := by
  have := v_strNe (P := P) (w := w) ho hx hy
  simpa using this
end
end Go.Dk
namespace Go.Proofs.Ytmkihcdcgkdilaa
open Go Go.Dk Go.RowKit
set_option maxRecDepth 100000 in
theorem el31 : Try.prog.underlying 31 = some (.slice (Try.prog.elem 31)) := Try.underlying31
set_option maxRecDepth 100000 in
theorem es31 : (Try.prog.info? (Try.prog.elem 31)).map (·.size) = some 14 := sz77
end Go.Proofs.Ytmkihcdcgkdilaa
