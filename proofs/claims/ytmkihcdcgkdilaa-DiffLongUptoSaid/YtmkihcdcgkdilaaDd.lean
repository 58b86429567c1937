/-
  Delta's value is of bounded size.
-/
import Derived.Test.YtmkihcdcgkdilaaDa
set_option linter.unusedVariables false
set_option linter.unusedSimpArgs false
namespace Go.Dk
open Go Go.RowKit
theorem fine_mapl {l : Fs} (hl : l.length ≤ 1048576) (h : ∀ kv ∈ l, kv.1.size ≤ 1048576 ∧ Fine kv.2) : Fine (mapV l) := by
  intro d
  cases d with
  | zero => trivial
  | succ d => exact ⟨by simp [mapV, V.sc, zk], by simp [mapV, V.sc, zk], by simp [mapV, V.bytes], by simp [mapV, V.list], by simpa [mapV, V.fields] using hl, fun x hx => by simp [mapV, V.list] at hx, fun kv hk => ⟨(h kv hk).1, (h kv hk).2 d⟩⟩
theorem Nw.field {m : Nat} {v : V} (h : Nw m v) {kv : ByteArray × V} (hk : kv ∈ v.fields) : Nw m kv.2 := fun d => (h (d + 1)).2 kv hk
theorem nw_nul (m : Nat) : Nw m nulV := (gd_nul 0 m).nw
theorem dlStep_all {E : V → V → Bool} {f : V → V → Option V} {af : Fs} {p : ByteArray × V → Prop} : ∀ (l : Fs) (o : Fs) (r : Fs), (∀ kv ∈ o, p kv) → (∀ kv ∈ l, ∀ x, f ((hasF kv.1 af).getD nulV) kv.2 = some x → p (kv.1, x)) → l.foldl (dlStep E f af) (some o) = some r → ∀ kv ∈ r, p kv
  | [], o, r, ho, _, h => by simp at h; subst h; exact ho
  | kv :: l, o, r, ho, hl, h => by
    rw [List.foldl_cons] at h
    cases h1 : dlStep E f af (some o) kv with
    | none => rw [h1, dlStep_none] at h; cases h
    | some o' =>
      rw [h1] at h
      refine dlStep_all l o' r ?_ (fun kv' hk => hl kv' (List.mem_cons_of_mem _ hk)) h
      unfold dlStep at h1
      simp only at h1
      split at h1
      · cases h1; exact ho
      · split at h1
        · cases h1
        · rename_i x hx
          split at h1
          · cases h1
          · cases h1
            intro kv' hk
            rcases List.mem_append.1 hk with hk | hk
            · exact ho kv' hk
            · obtain rfl : kv' = (kv.1, x) := by simpa using hk
              exact hl kv (by simp) x hx
theorem dl_fine {E : V → V → Bool} {m m' : Nat} (hm : m + m' ≤ 1048576) : ∀ (d : Nat) (a b u : V), dl E d a b = some u → Fine a → Fine b → Nw m a → Nw m' b → Fine u
  | 0, _, _, _, h, _, _, _, _ => by simp [dl] at h
  | d + 1, a, b, u, h, hfa, hfb, hna, hnb => by
    by_cases h7 : b.sc.kind = 7
    · rw [dl_map h7] at h
      obtain ⟨l, hl, rfl⟩ := Option.map_eq_some_iff.1 h
      have h1 := dlStep_length _ _ _ hl
      have h2 := dlG_length a.fields b.fields
      have h3 := (hna 1).1
      have h4 := (hnb 1).1
      refine fine_mapl (by omega) (dlStep_all (p := fun kv => kv.1.size ≤ 1048576 ∧ Fine kv.2) b.fields _ l ?_ ?_ hl)
      · intro kv hk
        unfold dlG at hk
        obtain ⟨kv', hk', rfl⟩ := List.mem_map.1 hk
        exact ⟨(hfa.field (List.mem_filter.1 hk').1).1, fine_nul⟩
      · intro kv hk x hx
        refine ⟨(hfb.field hk).1, ?_⟩
        have ho : Fine ((hasF kv.1 a.fields).getD nulV) ∧ Nw m ((hasF kv.1 a.fields).getD nulV) := by
          cases hh : hasF kv.1 a.fields with
          | none => exact ⟨fine_nul, nw_nul m⟩
          | some v => exact ⟨(hfa.field (hasF_mem hh)).2, Nw.field hna (hasF_mem hh)⟩
        exact dl_fine hm d _ _ x hx ho.1 (hfb.field hk).2 ho.2 (Nw.field hnb hk)
    · rw [dl_else h7] at h
      cases h; exact hfb
end Go.Dk
