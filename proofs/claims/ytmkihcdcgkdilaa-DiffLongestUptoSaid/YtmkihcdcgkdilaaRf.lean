/-
  What the form reads of a list of values.
-/
import Derived.Test.YtmkihcdcgkdilaaRd
import Derived.Test.YtmkihcdcgkdilaaQe
namespace Go.Proofs.Ytmkihcdcgkdilaa
open Go Go.Dk Go.RowKit Go.ChangeShapes Go.WideShapes Go.ChangeAt Rows
set_option linter.unusedVariables false
section
variable {H : Type} {enc : TypeId × Value → H} {w : World} {base : Nat} {spare : Nat → Bool} {held : Bool}
/-- a list of values -/
theorem rd30 {n : Nat} {cs : List Value} {x : DataW H × List MemPlace} (h : DataW.trod enc Try.prog w base spare held n 30 cs = some x) (hN : uptoBulk x.1 ≤ 1048576) :
    ∃ s l, cs = [s] ∧ Lst w s l ∧ l.length ≤ 1048576 ∧ ∀ v ∈ l, Fine v := by
  cases n with
  | zero => simp [DataW.trod] at h
  | succ n =>
  obtain ⟨s, len, b, o, rfl, hs, hb, hel⟩ := rd_slice Try.underlying30 (cellsOf_of sz33) (by omega) h
  obtain ⟨l, hl, hp⟩ := list_of (p := fun i (v : V) => (∃ r, RowAt w b (o + i * 13) r ∧ Val w v r) ∧ Fine v) len fun i hi => by
    obtain ⟨r, y, hr, h1, h2, h3⟩ := hel i hi
    obtain ⟨v, hv, hz⟩ := rd33 _ _ _ h2
    exact ⟨v, ⟨r, h1, hv⟩, fun d => szd_mono (by omega) d _ (hz d)⟩
  subst hl
  exact ⟨s, l, rfl, ⟨b, o, hs, RepLs_of l o fun i v hv => (hp i v hv).1⟩, by omega, fun v hv => by
    obtain ⟨i, hi⟩ := List.getElem?_of_mem hv
    exact (hp i v hi).2⟩
end
end Go.Proofs.Ytmkihcdcgkdilaa
