/-
  NARROWER THAN 'FOR EVERY INPUT', by the rows' own cells (each row's printed sentence says how): DiffCosts: loops · MergeOverlays: loops · DiffCommons: loops · DiffLongest: loops · DiffBetweens: loops · MergeDeltas: loops · MergeThrees: loops · MergeSame: loops · MergeTurned: loops · MergeDeltaBack: loops · MergeResolves: loops · DiffMakes: loops · DiffBack: loops.
  DERIVED. THE GIVEN ROWS OF THIS SEAT. 14 by the template 'for every input the law returns true; each argument reads behind the call as it read before'; 0 by the template 'total and deterministic' (their statements: YtmkihcdcgkdilaaTotals.lean).
  GIVEN WITH THE SEED: the statements are not yours to turn. If you find one false, say at which input.
  Laid BY PROGRAM, IN A SANDBOX (cutbox-rows.mjs): the forced cells as the released guide's own fill.sh prints them over the translation 37459692dbb04bd7… (all of the seat's roots in one cut). By AI agents, Wed Nov 11 2026. No macro, syntax, notation, axiom, sorry.
-/
import Derived.Test.YtmkihcdcgkdilaaChecked
import GoSem.Claim
import GoSem.ClaimJoined
import GoSem.ClaimMapViews
import Derived.JoinedTies
import Derived.KernelRfl
namespace Go.Proofs.Ytmkihcdcgkdilaa
/- THE CELL 'sum', in the pinned program and in every row, IS THE sha256 OF THE DUMP (.gsa) THAT YtmkihcdcgkdilaaProg.lean LOADS. Nothing in Lean hashes anything: it is a label: what it is worth is what the hold of that sum in a sandbox is worth. -/
noncomputable def Try.pinned : Pinned := { name := "ytmkihcdcgkdilaa", sum := "37459692dbb04bd70fce7be6e7544405cad0081bb8178f4425ef533e390415ae", checked := Try.checked }
namespace Rows
def none {H : Type} : Left H := { results := [], args := [] }

/-- 'datakitlaw55.DiffCosts': WHATEVER THE INPUT: true; the input reads as it did. -/
def diffCostsSpec : ChangeSpec := { name := "diffCosts", fn := fun _ => fun
  | [d] => { results := [.lit (.bool true)], args := [d] }
  | _ => none }
def diffCostsRow : OpenClaim := { program := "ytmkihcdcgkdilaa", sum := "37459692dbb04bd70fce7be6e7544405cad0081bb8178f4425ef533e390415ae", func := "datakit/datakitlaw55.DiffCosts", spec := "diffCosts", recurses := true, loops := true, apart := false }
def DiffCostsSaid : Prop := diffCostsRow.holds Try.pinned (OpenSpec.ofChange diffCostsSpec)

/-- ITS FALSE NEIGHBOUR: 'it returns false'. Refute it at one input. -/
def diffCostsWrong : ChangeSpec := { name := "diffCosts", fn := fun _ => fun
  | [d] => { results := [.lit (.bool false)], args := [d] }
  | _ => none }
def DiffCostsWrongFalsely : Prop := diffCostsRow.holds Try.pinned (OpenSpec.ofChange diffCostsWrong)

/-- 'datakitlaw57.MergeOverlays': WHATEVER THE INPUT: true; the input reads as it did. -/
def mergeOverlaysSpec : ChangeSpec := { name := "mergeOverlays", fn := fun _ => fun
  | [d1, d2] => { results := [.lit (.bool true)], args := [d1, d2] }
  | _ => none }
def mergeOverlaysRow : OpenClaim := { program := "ytmkihcdcgkdilaa", sum := "37459692dbb04bd70fce7be6e7544405cad0081bb8178f4425ef533e390415ae", func := "datakit/datakitlaw57.MergeOverlays", spec := "mergeOverlays", recurses := true, loops := true, apart := false }
def MergeOverlaysSaid : Prop := mergeOverlaysRow.holds Try.pinned (OpenSpec.ofChange mergeOverlaysSpec)

/-- ITS FALSE NEIGHBOUR: 'it returns false'. Refute it at one input. -/
def mergeOverlaysWrong : ChangeSpec := { name := "mergeOverlays", fn := fun _ => fun
  | [d1, d2] => { results := [.lit (.bool false)], args := [d1, d2] }
  | _ => none }
def MergeOverlaysWrongFalsely : Prop := mergeOverlaysRow.holds Try.pinned (OpenSpec.ofChange mergeOverlaysWrong)

/-- 'datakitlaw55.DiffCommons': WHATEVER THE INPUT: true; the input reads as it did. -/
def diffCommonsSpec : ChangeSpec := { name := "diffCommons", fn := fun _ => fun
  | [d1, d2] => { results := [.lit (.bool true)], args := [d1, d2] }
  | _ => none }
def diffCommonsRow : OpenClaim := { program := "ytmkihcdcgkdilaa", sum := "37459692dbb04bd70fce7be6e7544405cad0081bb8178f4425ef533e390415ae", func := "datakit/datakitlaw55.DiffCommons", spec := "diffCommons", inPlace := ["internal/bytealg.abigen_runtime_cmpstring"], unfollowed := true, recurses := true, loops := true, apart := false }
def DiffCommonsSaid : Prop := diffCommonsRow.holds Try.pinned (OpenSpec.ofChange diffCommonsSpec)

/-- ITS FALSE NEIGHBOUR: 'it returns false'. Refute it at one input. -/
def diffCommonsWrong : ChangeSpec := { name := "diffCommons", fn := fun _ => fun
  | [d1, d2] => { results := [.lit (.bool false)], args := [d1, d2] }
  | _ => none }
def DiffCommonsWrongFalsely : Prop := diffCommonsRow.holds Try.pinned (OpenSpec.ofChange diffCommonsWrong)

/-- 'datakitlaw55.DiffLongest': WHATEVER THE INPUT: true; the input reads as it did. -/
def diffLongestSpec : ChangeSpec := { name := "diffLongest", fn := fun _ => fun
  | [d1, d2] => { results := [.lit (.bool true)], args := [d1, d2] }
  | _ => none }
def diffLongestRow : OpenClaim := { program := "ytmkihcdcgkdilaa", sum := "37459692dbb04bd70fce7be6e7544405cad0081bb8178f4425ef533e390415ae", func := "datakit/datakitlaw55.DiffLongest", spec := "diffLongest", inPlace := ["internal/bytealg.abigen_runtime_cmpstring"], unfollowed := true, recurses := true, loops := true, apart := false }
def DiffLongestSaid : Prop := diffLongestRow.holds Try.pinned (OpenSpec.ofChange diffLongestSpec)

/-- ITS FALSE NEIGHBOUR: 'it returns false'. Refute it at one input. -/
def diffLongestWrong : ChangeSpec := { name := "diffLongest", fn := fun _ => fun
  | [d1, d2] => { results := [.lit (.bool false)], args := [d1, d2] }
  | _ => none }
def DiffLongestWrongFalsely : Prop := diffLongestRow.holds Try.pinned (OpenSpec.ofChange diffLongestWrong)

/-- 'datakitlaw55.DiffBetweens': WHATEVER THE INPUT: true; the input reads as it did. -/
def diffBetweensSpec : ChangeSpec := { name := "diffBetweens", fn := fun _ => fun
  | [d1, d2] => { results := [.lit (.bool true)], args := [d1, d2] }
  | _ => none }
def diffBetweensRow : OpenClaim := { program := "ytmkihcdcgkdilaa", sum := "37459692dbb04bd70fce7be6e7544405cad0081bb8178f4425ef533e390415ae", func := "datakit/datakitlaw55.DiffBetweens", spec := "diffBetweens", inPlace := ["internal/bytealg.abigen_runtime_cmpstring"], unfollowed := true, recurses := true, loops := true, apart := false }
def DiffBetweensSaid : Prop := diffBetweensRow.holds Try.pinned (OpenSpec.ofChange diffBetweensSpec)

/-- ITS FALSE NEIGHBOUR: 'it returns false'. Refute it at one input. -/
def diffBetweensWrong : ChangeSpec := { name := "diffBetweens", fn := fun _ => fun
  | [d1, d2] => { results := [.lit (.bool false)], args := [d1, d2] }
  | _ => none }
def DiffBetweensWrongFalsely : Prop := diffBetweensRow.holds Try.pinned (OpenSpec.ofChange diffBetweensWrong)

/-- 'datakitlaw57.MergeDeltas': WHATEVER THE INPUT: true; the input reads as it did. -/
def mergeDeltasSpec : ChangeSpec := { name := "mergeDeltas", fn := fun _ => fun
  | [d1, d2] => { results := [.lit (.bool true)], args := [d1, d2] }
  | _ => none }
def mergeDeltasRow : OpenClaim := { program := "ytmkihcdcgkdilaa", sum := "37459692dbb04bd70fce7be6e7544405cad0081bb8178f4425ef533e390415ae", func := "datakit/datakitlaw57.MergeDeltas", spec := "mergeDeltas", inPlace := ["internal/bytealg.abigen_runtime_cmpstring"], unfollowed := true, recurses := true, loops := true, apart := false }
def MergeDeltasSaid : Prop := mergeDeltasRow.holds Try.pinned (OpenSpec.ofChange mergeDeltasSpec)

/-- ITS FALSE NEIGHBOUR: 'it returns false'. Refute it at one input. -/
def mergeDeltasWrong : ChangeSpec := { name := "mergeDeltas", fn := fun _ => fun
  | [d1, d2] => { results := [.lit (.bool false)], args := [d1, d2] }
  | _ => none }
def MergeDeltasWrongFalsely : Prop := mergeDeltasRow.holds Try.pinned (OpenSpec.ofChange mergeDeltasWrong)

/-- 'datakitlaw57.MergeThrees': WHATEVER THE INPUT: true; the input reads as it did. -/
def mergeThreesSpec : ChangeSpec := { name := "mergeThrees", fn := fun _ => fun
  | [d1, d2, d3] => { results := [.lit (.bool true)], args := [d1, d2, d3] }
  | _ => none }
def mergeThreesRow : OpenClaim := { program := "ytmkihcdcgkdilaa", sum := "37459692dbb04bd70fce7be6e7544405cad0081bb8178f4425ef533e390415ae", func := "datakit/datakitlaw57.MergeThrees", spec := "mergeThrees", inPlace := ["internal/bytealg.abigen_runtime_cmpstring"], unfollowed := true, recurses := true, loops := true, apart := false }
def MergeThreesSaid : Prop := mergeThreesRow.holds Try.pinned (OpenSpec.ofChange mergeThreesSpec)

/-- ITS FALSE NEIGHBOUR: 'it returns false'. Refute it at one input. -/
def mergeThreesWrong : ChangeSpec := { name := "mergeThrees", fn := fun _ => fun
  | [d1, d2, d3] => { results := [.lit (.bool false)], args := [d1, d2, d3] }
  | _ => none }
def MergeThreesWrongFalsely : Prop := mergeThreesRow.holds Try.pinned (OpenSpec.ofChange mergeThreesWrong)

/-- 'datakitlaw57.MergeSame': WHATEVER THE INPUT: true; the input reads as it did. -/
def mergeSameSpec : ChangeSpec := { name := "mergeSame", fn := fun _ => fun
  | [d1, d2] => { results := [.lit (.bool true)], args := [d1, d2] }
  | _ => none }
def mergeSameRow : OpenClaim := { program := "ytmkihcdcgkdilaa", sum := "37459692dbb04bd70fce7be6e7544405cad0081bb8178f4425ef533e390415ae", func := "datakit/datakitlaw57.MergeSame", spec := "mergeSame", inPlace := ["internal/bytealg.abigen_runtime_cmpstring"], unfollowed := true, recurses := true, loops := true, apart := false }
def MergeSameSaid : Prop := mergeSameRow.holds Try.pinned (OpenSpec.ofChange mergeSameSpec)

/-- ITS FALSE NEIGHBOUR: 'it returns false'. Refute it at one input. -/
def mergeSameWrong : ChangeSpec := { name := "mergeSame", fn := fun _ => fun
  | [d1, d2] => { results := [.lit (.bool false)], args := [d1, d2] }
  | _ => none }
def MergeSameWrongFalsely : Prop := mergeSameRow.holds Try.pinned (OpenSpec.ofChange mergeSameWrong)

/-- 'datakitlaw57.MergeTurned': WHATEVER THE INPUT: true; the input reads as it did. -/
def mergeTurnedSpec : ChangeSpec := { name := "mergeTurned", fn := fun _ => fun
  | [d1, d2, d3] => { results := [.lit (.bool true)], args := [d1, d2, d3] }
  | _ => none }
def mergeTurnedRow : OpenClaim := { program := "ytmkihcdcgkdilaa", sum := "37459692dbb04bd70fce7be6e7544405cad0081bb8178f4425ef533e390415ae", func := "datakit/datakitlaw57.MergeTurned", spec := "mergeTurned", inPlace := ["internal/bytealg.abigen_runtime_cmpstring"], unfollowed := true, recurses := true, loops := true, apart := false }
def MergeTurnedSaid : Prop := mergeTurnedRow.holds Try.pinned (OpenSpec.ofChange mergeTurnedSpec)

/-- ITS FALSE NEIGHBOUR: 'it returns false'. Refute it at one input. -/
def mergeTurnedWrong : ChangeSpec := { name := "mergeTurned", fn := fun _ => fun
  | [d1, d2, d3] => { results := [.lit (.bool false)], args := [d1, d2, d3] }
  | _ => none }
def MergeTurnedWrongFalsely : Prop := mergeTurnedRow.holds Try.pinned (OpenSpec.ofChange mergeTurnedWrong)

/-- 'datakitlaw57.MergeDeltaBack': WHATEVER THE INPUT: true; the input reads as it did. -/
def mergeDeltaBackSpec : ChangeSpec := { name := "mergeDeltaBack", fn := fun _ => fun
  | [d1, d2] => { results := [.lit (.bool true)], args := [d1, d2] }
  | _ => none }
def mergeDeltaBackRow : OpenClaim := { program := "ytmkihcdcgkdilaa", sum := "37459692dbb04bd70fce7be6e7544405cad0081bb8178f4425ef533e390415ae", func := "datakit/datakitlaw57.MergeDeltaBack", spec := "mergeDeltaBack", inPlace := ["internal/bytealg.abigen_runtime_cmpstring"], unfollowed := true, recurses := true, loops := true, apart := false }
def MergeDeltaBackSaid : Prop := mergeDeltaBackRow.holds Try.pinned (OpenSpec.ofChange mergeDeltaBackSpec)

/-- ITS FALSE NEIGHBOUR: 'it returns false'. Refute it at one input. -/
def mergeDeltaBackWrong : ChangeSpec := { name := "mergeDeltaBack", fn := fun _ => fun
  | [d1, d2] => { results := [.lit (.bool false)], args := [d1, d2] }
  | _ => none }
def MergeDeltaBackWrongFalsely : Prop := mergeDeltaBackRow.holds Try.pinned (OpenSpec.ofChange mergeDeltaBackWrong)

/-- 'datakitlaw57.MergeResolves': WHATEVER THE INPUT: true; the input reads as it did. -/
def mergeResolvesSpec : ChangeSpec := { name := "mergeResolves", fn := fun _ => fun
  | [d] => { results := [.lit (.bool true)], args := [d] }
  | _ => none }
def mergeResolvesRow : OpenClaim := { program := "ytmkihcdcgkdilaa", sum := "37459692dbb04bd70fce7be6e7544405cad0081bb8178f4425ef533e390415ae", func := "datakit/datakitlaw57.MergeResolves", spec := "mergeResolves", inPlace := ["internal/bytealg.abigen_runtime_cmpstring"], unfollowed := true, recurses := true, loops := true, apart := false }
def MergeResolvesSaid : Prop := mergeResolvesRow.holds Try.pinned (OpenSpec.ofChange mergeResolvesSpec)

/-- ITS FALSE NEIGHBOUR: 'it returns false'. Refute it at one input. -/
def mergeResolvesWrong : ChangeSpec := { name := "mergeResolves", fn := fun _ => fun
  | [d] => { results := [.lit (.bool false)], args := [d] }
  | _ => none }
def MergeResolvesWrongFalsely : Prop := mergeResolvesRow.holds Try.pinned (OpenSpec.ofChange mergeResolvesWrong)

/-- 'datakitlaw55.DiffMakes': WHATEVER THE INPUT: true; the input reads as it did. -/
def diffMakesSpec : ChangeSpec := { name := "diffMakes", fn := fun _ => fun
  | [d1, d2] => { results := [.lit (.bool true)], args := [d1, d2] }
  | _ => none }
def diffMakesRow : OpenClaim := { program := "ytmkihcdcgkdilaa", sum := "37459692dbb04bd70fce7be6e7544405cad0081bb8178f4425ef533e390415ae", func := "datakit/datakitlaw55.DiffMakes", spec := "diffMakes", inPlace := ["internal/bytealg.abigen_runtime_cmpstring"], unfollowed := true, recurses := true, loops := true, apart := false }
def DiffMakesSaid : Prop := diffMakesRow.holds Try.pinned (OpenSpec.ofChange diffMakesSpec)

/-- ITS FALSE NEIGHBOUR: 'it returns false'. Refute it at one input. -/
def diffMakesWrong : ChangeSpec := { name := "diffMakes", fn := fun _ => fun
  | [d1, d2] => { results := [.lit (.bool false)], args := [d1, d2] }
  | _ => none }
def DiffMakesWrongFalsely : Prop := diffMakesRow.holds Try.pinned (OpenSpec.ofChange diffMakesWrong)

/-- 'datakitlaw55.DiffLong': WHATEVER THE INPUT: true; the input reads as it did. -/
def diffLongSpec : ChangeSpec := { name := "diffLong", fn := fun _ => fun
  | [d1, d2] => { results := [.lit (.bool true)], args := [d1, d2] }
  | _ => none }
def diffLongRow : OpenClaim := { program := "ytmkihcdcgkdilaa", sum := "37459692dbb04bd70fce7be6e7544405cad0081bb8178f4425ef533e390415ae", func := "datakit/datakitlaw55.DiffLong", spec := "diffLong", inPlace := ["internal/bytealg.abigen_runtime_cmpstring"], unfollowed := true, recurses := true, apart := false }
def DiffLongSaid : Prop := diffLongRow.holds Try.pinned (OpenSpec.ofChange diffLongSpec)

/-- ITS FALSE NEIGHBOUR: 'it returns false'. Refute it at one input. -/
def diffLongWrong : ChangeSpec := { name := "diffLong", fn := fun _ => fun
  | [d1, d2] => { results := [.lit (.bool false)], args := [d1, d2] }
  | _ => none }
def DiffLongWrongFalsely : Prop := diffLongRow.holds Try.pinned (OpenSpec.ofChange diffLongWrong)

/-- 'datakitlaw55.DiffBack': WHATEVER THE INPUT: true; the input reads as it did. -/
def diffBackSpec : ChangeSpec := { name := "diffBack", fn := fun _ => fun
  | [d1, d2] => { results := [.lit (.bool true)], args := [d1, d2] }
  | _ => none }
def diffBackRow : OpenClaim := { program := "ytmkihcdcgkdilaa", sum := "37459692dbb04bd70fce7be6e7544405cad0081bb8178f4425ef533e390415ae", func := "datakit/datakitlaw55.DiffBack", spec := "diffBack", inPlace := ["internal/bytealg.abigen_runtime_cmpstring"], unfollowed := true, recurses := true, loops := true, apart := false }
def DiffBackSaid : Prop := diffBackRow.holds Try.pinned (OpenSpec.ofChange diffBackSpec)

/-- ITS FALSE NEIGHBOUR: 'it returns false'. Refute it at one input. -/
def diffBackWrong : ChangeSpec := { name := "diffBack", fn := fun _ => fun
  | [d1, d2] => { results := [.lit (.bool false)], args := [d1, d2] }
  | _ => none }
def DiffBackWrongFalsely : Prop := diffBackRow.holds Try.pinned (OpenSpec.ofChange diffBackWrong)

/- THE SECOND FORM. 'bulk': how many values and letters a reading holds, each counted each time it is reached (what is shared counts as often as it is met; a slice's spare places count too). A statement '..UptoSaid' is the law's where the arguments, and the package variables that the reading takes, are together of bulk at most 1048576: NARROWER than '..Said'. Prove '..Said' where nothing that the law and all that it calls make is longer than what came in: it says more and counts as full. Else prove '..UptoSaid'. A law counts once. -/
mutual
def uptoBulk {H : Type} : DataW H → Nat
  | .lit (.string bytes) => bytes.length + 1
  | .lit _ => 1
  | .nil => 1
  | .ptr d => uptoBulk d + 1
  | .slice elems spare => uptoBulkAll elems + uptoBulkAll spare + 1
  | .agg parts => uptoBulkAll parts + 1
  | .iface _ d => uptoBulk d + 1
  | .map entries => uptoBulkEntries entries + 1
  | .held _ => 1
def uptoBulkAll {H : Type} : List (DataW H) → Nat
  | [] => 0
  | d :: r => uptoBulk d + uptoBulkAll r
def uptoBulkEntries {H : Type} : List (Lit × DataW H) → Nat
  | [] => 0
  | x :: r => uptoBulkEntry x + uptoBulkEntries r
def uptoBulkEntry {H : Type} : Lit × DataW H → Nat
  | (.string bytes, d) => bytes.length + uptoBulk d + 1
  | (_, d) => uptoBulk d + 1
 end
def uptoSmall : (H : Type) → List (DataW H) → Bool := fun _ ds => decide (uptoBulkAll ds ≤ 1048576)
def OpenSpec.upto (s : _root_.Go.ChangeSpec) : _root_.Go.OpenSpec := { _root_.Go.OpenSpec.ofChange s with cond := some uptoSmall }

/-- 'datakitlaw55.DiffCosts', WHERE WHAT IT READS IS OF BULK AT MOST 1048576: true; the input reads as it did. -/
def diffCostsUptoRow : OpenClaim := { program := "ytmkihcdcgkdilaa", sum := "37459692dbb04bd70fce7be6e7544405cad0081bb8178f4425ef533e390415ae", func := "datakit/datakitlaw55.DiffCosts", spec := "diffCosts", recurses := true, loops := true, apart := false, narrowed := true }
def DiffCostsUptoSaid : Prop := diffCostsUptoRow.holds Try.pinned (OpenSpec.upto diffCostsSpec)

/-- 'datakitlaw57.MergeOverlays', WHERE WHAT IT READS IS OF BULK AT MOST 1048576: true; the input reads as it did. -/
def mergeOverlaysUptoRow : OpenClaim := { program := "ytmkihcdcgkdilaa", sum := "37459692dbb04bd70fce7be6e7544405cad0081bb8178f4425ef533e390415ae", func := "datakit/datakitlaw57.MergeOverlays", spec := "mergeOverlays", recurses := true, loops := true, apart := false, narrowed := true }
def MergeOverlaysUptoSaid : Prop := mergeOverlaysUptoRow.holds Try.pinned (OpenSpec.upto mergeOverlaysSpec)

/-- 'datakitlaw55.DiffCommons', WHERE WHAT IT READS IS OF BULK AT MOST 1048576: true; the input reads as it did. -/
def diffCommonsUptoRow : OpenClaim := { program := "ytmkihcdcgkdilaa", sum := "37459692dbb04bd70fce7be6e7544405cad0081bb8178f4425ef533e390415ae", func := "datakit/datakitlaw55.DiffCommons", spec := "diffCommons", inPlace := ["internal/bytealg.abigen_runtime_cmpstring"], unfollowed := true, recurses := true, loops := true, apart := false, narrowed := true }
def DiffCommonsUptoSaid : Prop := diffCommonsUptoRow.holds Try.pinned (OpenSpec.upto diffCommonsSpec)

/-- 'datakitlaw55.DiffLongest', WHERE WHAT IT READS IS OF BULK AT MOST 1048576: true; the input reads as it did. -/
def diffLongestUptoRow : OpenClaim := { program := "ytmkihcdcgkdilaa", sum := "37459692dbb04bd70fce7be6e7544405cad0081bb8178f4425ef533e390415ae", func := "datakit/datakitlaw55.DiffLongest", spec := "diffLongest", inPlace := ["internal/bytealg.abigen_runtime_cmpstring"], unfollowed := true, recurses := true, loops := true, apart := false, narrowed := true }
def DiffLongestUptoSaid : Prop := diffLongestUptoRow.holds Try.pinned (OpenSpec.upto diffLongestSpec)

/-- 'datakitlaw55.DiffBetweens', WHERE WHAT IT READS IS OF BULK AT MOST 1048576: true; the input reads as it did. -/
def diffBetweensUptoRow : OpenClaim := { program := "ytmkihcdcgkdilaa", sum := "37459692dbb04bd70fce7be6e7544405cad0081bb8178f4425ef533e390415ae", func := "datakit/datakitlaw55.DiffBetweens", spec := "diffBetweens", inPlace := ["internal/bytealg.abigen_runtime_cmpstring"], unfollowed := true, recurses := true, loops := true, apart := false, narrowed := true }
def DiffBetweensUptoSaid : Prop := diffBetweensUptoRow.holds Try.pinned (OpenSpec.upto diffBetweensSpec)

/-- 'datakitlaw57.MergeDeltas', WHERE WHAT IT READS IS OF BULK AT MOST 1048576: true; the input reads as it did. -/
def mergeDeltasUptoRow : OpenClaim := { program := "ytmkihcdcgkdilaa", sum := "37459692dbb04bd70fce7be6e7544405cad0081bb8178f4425ef533e390415ae", func := "datakit/datakitlaw57.MergeDeltas", spec := "mergeDeltas", inPlace := ["internal/bytealg.abigen_runtime_cmpstring"], unfollowed := true, recurses := true, loops := true, apart := false, narrowed := true }
def MergeDeltasUptoSaid : Prop := mergeDeltasUptoRow.holds Try.pinned (OpenSpec.upto mergeDeltasSpec)

/-- 'datakitlaw57.MergeThrees', WHERE WHAT IT READS IS OF BULK AT MOST 1048576: true; the input reads as it did. -/
def mergeThreesUptoRow : OpenClaim := { program := "ytmkihcdcgkdilaa", sum := "37459692dbb04bd70fce7be6e7544405cad0081bb8178f4425ef533e390415ae", func := "datakit/datakitlaw57.MergeThrees", spec := "mergeThrees", inPlace := ["internal/bytealg.abigen_runtime_cmpstring"], unfollowed := true, recurses := true, loops := true, apart := false, narrowed := true }
def MergeThreesUptoSaid : Prop := mergeThreesUptoRow.holds Try.pinned (OpenSpec.upto mergeThreesSpec)

/-- 'datakitlaw57.MergeSame', WHERE WHAT IT READS IS OF BULK AT MOST 1048576: true; the input reads as it did. -/
def mergeSameUptoRow : OpenClaim := { program := "ytmkihcdcgkdilaa", sum := "37459692dbb04bd70fce7be6e7544405cad0081bb8178f4425ef533e390415ae", func := "datakit/datakitlaw57.MergeSame", spec := "mergeSame", inPlace := ["internal/bytealg.abigen_runtime_cmpstring"], unfollowed := true, recurses := true, loops := true, apart := false, narrowed := true }
def MergeSameUptoSaid : Prop := mergeSameUptoRow.holds Try.pinned (OpenSpec.upto mergeSameSpec)

/-- 'datakitlaw57.MergeTurned', WHERE WHAT IT READS IS OF BULK AT MOST 1048576: true; the input reads as it did. -/
def mergeTurnedUptoRow : OpenClaim := { program := "ytmkihcdcgkdilaa", sum := "37459692dbb04bd70fce7be6e7544405cad0081bb8178f4425ef533e390415ae", func := "datakit/datakitlaw57.MergeTurned", spec := "mergeTurned", inPlace := ["internal/bytealg.abigen_runtime_cmpstring"], unfollowed := true, recurses := true, loops := true, apart := false, narrowed := true }
def MergeTurnedUptoSaid : Prop := mergeTurnedUptoRow.holds Try.pinned (OpenSpec.upto mergeTurnedSpec)

/-- 'datakitlaw57.MergeDeltaBack', WHERE WHAT IT READS IS OF BULK AT MOST 1048576: true; the input reads as it did. -/
def mergeDeltaBackUptoRow : OpenClaim := { program := "ytmkihcdcgkdilaa", sum := "37459692dbb04bd70fce7be6e7544405cad0081bb8178f4425ef533e390415ae", func := "datakit/datakitlaw57.MergeDeltaBack", spec := "mergeDeltaBack", inPlace := ["internal/bytealg.abigen_runtime_cmpstring"], unfollowed := true, recurses := true, loops := true, apart := false, narrowed := true }
def MergeDeltaBackUptoSaid : Prop := mergeDeltaBackUptoRow.holds Try.pinned (OpenSpec.upto mergeDeltaBackSpec)

/-- 'datakitlaw57.MergeResolves', WHERE WHAT IT READS IS OF BULK AT MOST 1048576: true; the input reads as it did. -/
def mergeResolvesUptoRow : OpenClaim := { program := "ytmkihcdcgkdilaa", sum := "37459692dbb04bd70fce7be6e7544405cad0081bb8178f4425ef533e390415ae", func := "datakit/datakitlaw57.MergeResolves", spec := "mergeResolves", inPlace := ["internal/bytealg.abigen_runtime_cmpstring"], unfollowed := true, recurses := true, loops := true, apart := false, narrowed := true }
def MergeResolvesUptoSaid : Prop := mergeResolvesUptoRow.holds Try.pinned (OpenSpec.upto mergeResolvesSpec)

/-- 'datakitlaw55.DiffMakes', WHERE WHAT IT READS IS OF BULK AT MOST 1048576: true; the input reads as it did. -/
def diffMakesUptoRow : OpenClaim := { program := "ytmkihcdcgkdilaa", sum := "37459692dbb04bd70fce7be6e7544405cad0081bb8178f4425ef533e390415ae", func := "datakit/datakitlaw55.DiffMakes", spec := "diffMakes", inPlace := ["internal/bytealg.abigen_runtime_cmpstring"], unfollowed := true, recurses := true, loops := true, apart := false, narrowed := true }
def DiffMakesUptoSaid : Prop := diffMakesUptoRow.holds Try.pinned (OpenSpec.upto diffMakesSpec)

/-- 'datakitlaw55.DiffLong', WHERE WHAT IT READS IS OF BULK AT MOST 1048576: true; the input reads as it did. -/
def diffLongUptoRow : OpenClaim := { program := "ytmkihcdcgkdilaa", sum := "37459692dbb04bd70fce7be6e7544405cad0081bb8178f4425ef533e390415ae", func := "datakit/datakitlaw55.DiffLong", spec := "diffLong", inPlace := ["internal/bytealg.abigen_runtime_cmpstring"], unfollowed := true, recurses := true, apart := false, narrowed := true }
def DiffLongUptoSaid : Prop := diffLongUptoRow.holds Try.pinned (OpenSpec.upto diffLongSpec)

/-- 'datakitlaw55.DiffBack', WHERE WHAT IT READS IS OF BULK AT MOST 1048576: true; the input reads as it did. -/
def diffBackUptoRow : OpenClaim := { program := "ytmkihcdcgkdilaa", sum := "37459692dbb04bd70fce7be6e7544405cad0081bb8178f4425ef533e390415ae", func := "datakit/datakitlaw55.DiffBack", spec := "diffBack", inPlace := ["internal/bytealg.abigen_runtime_cmpstring"], unfollowed := true, recurses := true, loops := true, apart := false, narrowed := true }
def DiffBackUptoSaid : Prop := diffBackUptoRow.holds Try.pinned (OpenSpec.upto diffBackSpec)

end Rows
end Go.Proofs.Ytmkihcdcgkdilaa
