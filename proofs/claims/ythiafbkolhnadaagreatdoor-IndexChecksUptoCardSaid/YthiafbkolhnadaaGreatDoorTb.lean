/-
  The tables that a row lists, as the walks ask for them.
-/
import Derived.Test.YthiafbkolhnadaaGreatDoorRows
import Derived.Test.YthiafbkolhnadaaGreatDoorGt
import Derived.Lib.LaidU8
import Derived.MakeChecks
import Derived.KernelRfl
set_option linter.unusedVariables false
namespace Go.Proofs.YthiafbkolhnadaaGreatDoor
open Go Go.Dk Go.RowKit Go.Lib
set_option maxRecDepth 100000
theorem tab_reads {P : Program} {W : World} {name : String} {k : IntKind} {zs : List Int} {g : Nat} {t e : TypeId} {n : Nat}
    (hg : P.globalNamed name = some g) (hty : (P.globals[g]?).map (·.type) = some t) (ht : P.underlying t = some (.array n e)) (he : P.underlying e = some (.int k)) (hce : P.cellsOf e = 1) (hct : P.cellsOf t = n)
    (h : VarReads P W name (tabData k zs)) : TabIs P W name k zs := by
  obtain ⟨g', t', cs, fuel, p, hg', ht', hvar, hd⟩ := h
  obtain rfl := Option.some.inj (hg.symm.trans hg')
  obtain rfl := Option.some.inj (hty.symm.trans ht')
  unfold TabIs
  rw [hvar, ← cells_of_tab ht he hce hct hd]
theorem pow_eq : (Rows.laid_internal_strconv_uint64pow10 : DataW Unit) = tabData .u64 pow10Tab := by kernel_rfl
theorem bit_eq : (Rows.laid_math_bits_deBruijn64tab : DataW Unit) = tabData .u8 (deBruijn64tab.map fun n : Nat => (n : Int)) := by kernel_rfl
theorem first_eq : (Rows.laid_unicode_utf8_first : DataW Unit) = firstData := by kernel_rfl
theorem acc_eq : (Rows.laid_unicode_utf8_acceptRanges : DataW Unit) = acceptData := by kernel_rfl
theorem ce5 : Tryz.prog.cellsOf 5 = 1 := by kernel_rfl
theorem tabs_of {W : World} (h2 : VarReads Tryz.prog W "math/bits.deBruijn64tab" Rows.laid_math_bits_deBruijn64tab) (h3 : VarReads Tryz.prog W "internal/strconv.uint64pow10" Rows.laid_internal_strconv_uint64pow10)
    (h4 : VarReads Tryz.prog W "unicode/utf8.acceptRanges" Rows.laid_unicode_utf8_acceptRanges) (h5 : VarReads Tryz.prog W "unicode/utf8.first" Rows.laid_unicode_utf8_first) : Tabs W := by
  rw [pow_eq] at h3
  rw [bit_eq] at h2
  rw [first_eq] at h5
  rw [acc_eq] at h4
  have g5 : Tryz.prog.globalNamed "unicode/utf8.first" = some 0 := by kernel_rfl
  have g4 : Tryz.prog.globalNamed "unicode/utf8.acceptRanges" = some 1 := by kernel_rfl
  have g2 : Tryz.prog.globalNamed "math/bits.deBruijn64tab" = some 7 := by kernel_rfl
  have e2 := tab_reads g2 (t := 406) (by kernel_rfl) Tryz.underlying406 Tryz.underlying5 ce5 (by kernel_rfl) h2
  have e5 := tab_reads g5 (t := 233) (by kernel_rfl) Tryz.underlying233 Tryz.underlying5 ce5 (by kernel_rfl) h5
  refine ⟨tab_reads (g := 2) (t := 358) (by kernel_rfl) (by kernel_rfl) Tryz.underlying358 Tryz.underlying299 (by kernel_rfl) (by kernel_rfl) h3, fun j hj => ?_, fun c hc => ?_, fun i hi => ?_⟩
  · have h := e2.cell g2 j (by rw [List.length_map]; exact hj)
    rw [h]
    congr 2
    have hj' : j < deBruijn64tab.length := hj
    simp [List.getD, List.getElem?_map, List.getElem?_eq_getElem hj']
  · have hc' : c < firstTab.length := by unfold firstTab; simpa using hc
    have h := e5.cell g5 c hc'
    rw [h]
    congr 2
    unfold firstTab
    simp [List.getD, hc]
  · obtain ⟨g, t, cs, fuel, p, hg, hty, hvar, hd⟩ := h4
    obtain rfl := Option.some.inj (g4.symm.trans hg)
    obtain rfl : 236 = t := Option.some.inj ((show (Tryz.prog.globals[1]?).map (·.type) = some 236 by kernel_rfl).symm.trans hty)
    obtain ⟨fuel', d, q, hdi, he⟩ := array_elem Tryz.underlying236 hd i hi
    simp only [List.getElem?_map, List.getElem?_range hi, Option.map_some, Option.some.injEq] at hdi
    subst hdi
    have c235 : Tryz.prog.cellsOf 235 = 2 := by kernel_rfl
    rw [c235] at he
    have hcs := ints_of_struct Tryz.underlying235 (fun j f hj => by
      match j, hj with
      | 0, hj => simp at hj; subst hj; exact ⟨Tryz.underlying5, rfl, ce5⟩
      | 1, hj => simp at hj; subst hj; exact ⟨Tryz.underlying5, rfl, ce5⟩
      | j + 2, hj => simp at hj) (by rw [c235]; rfl) he
    have e0 := congrArg (·[0]?) hcs
    have e1 := congrArg (·[1]?) hcs
    simp only [List.getElem?_take, List.getElem?_drop] at e0 e1
    constructor
    · rw [World.var?_cell hg hvar (2 * i), ← Array.getElem?_toList]
      simpa [Nat.mul_comm] using e0
    · rw [World.var?_cell hg hvar (2 * i + 1), ← Array.getElem?_toList]
      simpa [Nat.mul_comm] using e1
end Go.Proofs.YthiafbkolhnadaaGreatDoor
