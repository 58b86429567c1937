/-
  What the form reads as a value lies in memory as one; valid values are good.
-/
import Derived.Test.YtmkihcdcgkdilaaRd
import Derived.Test.YtmkihcdcgkdilaaVh
set_option linter.unusedVariables false
namespace Go.Proofs.Ytmkihcdcgkdilaa
open Go Go.Dk Go.RowKit
theorem agg13 {x : Value} (h : x.cells.toList.length = 13) : x = .agg (x.cells.toList).toArray := by
  cases x <;> first | rfl | (simp [Value.cells] at h)
theorem len_sum {α : Type} {f : α → Nat} (hf : ∀ x, 1 ≤ f x) : ∀ l : List α, l.length ≤ (l.map f).sum
  | [] => by simp
  | x :: l => by have := hf x; have := len_sum hf l; simp only [List.map_cons, List.sum_cons, List.length_cons]; omega
theorem mem_sum {α : Type} {f : α → Nat} : ∀ (l : List α) (x : α), x ∈ l → f x ≤ (l.map f).sum
  | y :: l, x, h => by
    simp only [List.map_cons, List.sum_cons]
    rcases List.mem_cons.1 h with rfl | h
    · omega
    · have := mem_sum (f := f) l x h; omega
theorem nw_tsz (m : Nat) : ∀ (d : Nat) (v : V), deep d v → tsz d v ≤ m → ∀ k, nw m k v
  | 0, _, h, _, _ => h.elim
  | d + 1, v, h, ht, 0 => trivial
  | d + 1, v, h, ht, k + 1 => by
    simp only [tsz] at ht
    refine ⟨?_, fun kv hk => nw_tsz m d kv.2 (h.2 kv hk) ?_ k⟩
    · have := len_sum (f := fun kv : ByteArray × V => tsz d kv.2) (fun kv => tsz_pos d kv.2) v.fields
      omega
    · have := mem_sum (f := fun kv : ByteArray × V => tsz d kv.2) v.fields kv hk
      omega
theorem good_valid (v : V) (h1 : okd 48 v) (h2 : deep 60 v) (h3 : tsz 60 v ≤ 100) (h4 : Fine v) : Gd 48 100 v := ⟨h1, h4, nw_tsz 100 60 v h2 h3⟩
end Go.Proofs.Ytmkihcdcgkdilaa
