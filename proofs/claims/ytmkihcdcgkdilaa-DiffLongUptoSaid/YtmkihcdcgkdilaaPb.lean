/-
  Regions that draw their order, beside blocks that are kept since the call began.
-/
import Derived.Test.YtmkihcdcgkdilaaPa
set_option linter.unusedVariables false
namespace Go.Dk
open Go Go.RowKit
section
variable {P : Program} {Q : Exit → Act → World → Prop} {w w0 wk : World} {L : List (Nat × Obj)} {R : List Row} {n : Nat} {f : Nat → Value}
/-- as w_ord, with the blocks of C as they were in wk -/
theorem w_ordK {id : Nat} {l : List Oper} {Ls : List (Nat × Obj)} {C : Nat → Prop} (cx : Cxr w0 w L R) (cxS : Cxr w0 w Ls []) (hK : Keeps C wk w) (hm : P.follows .mixedOrders = true) (pu : List (Nat × Nat)) (m : Array Bool)
    (hch : chkOrd l.toArray pu = true) (hmk : mskOrd l.toArray pu m = true) (hn : pu.all (fun p => Nat.blt p.2 n) = true) (hi : incr pu = true)
    (h : wpPu P l.toArray n (fun w' => Cxr w0 w' Ls [] ∧ Keeps C wk w') (fun g => ∀ w', Cxr w0 w' L R → Below w.heap.size w w' → Keeps C wk w' → wpX P l.toArray pu Q (fun w' => Cxr w0 w' Ls [] ∧ Keeps C wk w') (l.length + 1) m (St n g) w') pu f) : (Code.region id l.toArray true).wp P Q (St n f) w := by
  obtain ⟨g, hF, hag, hall⟩ := wpPu_spec hch pu f (fun _ h => h) hi h
  refine w_orders cx hm pu m (fun w' => Cxr w0 w' Ls [] ∧ Keeps C wk w') g hch hmk (fun p hp => by have := List.all_eq_true.1 hn p hp; simpa using this) hag (fun p hp => ?_) (fun w' hS p hp => ?_) fun w' hc hb he => ?_
  · obtain ⟨o, h1, h2, _⟩ := hall p hp; exact ⟨o, by simpa using h1, h2⟩
  · obtain ⟨o, h1, _, h2⟩ := hall p hp; exact ⟨o, by simpa using h1, h2 w' hS⟩
  · have hk : Keeps C wk w' := fun b hb => by rw [he]; exact hK b hb
    exact ⟨⟨cxS.call hb, hk⟩, hF w' hc hb hk⟩
end
end Go.Dk
