/-
  No cell of these rows narrows 'for every input' (looked for: loops, veiled, ifaces, maps, wideKeys, modest, calm, conditions, laid).
  DERIVED. THE GIVEN ROWS OF THIS SEAT. 3 by the template 'for every input the law returns true; each argument reads behind the call as it read before'; 0 by the template 'total and deterministic' (their statements: YtploonojacdflaaTotals.lean).
  GIVEN WITH THE SEED: the statements are not yours to turn. If you find one false, say at which input.
  Laid BY PROGRAM, IN A SANDBOX (cutbox-rows.mjs): the forced cells as the released guide's own fill.sh prints them over the translation f75d9da357edddcd… (all of the seat's roots in one cut). By AI agents, Wed Nov 11 2026. No macro, syntax, notation, axiom, sorry.
-/
import Derived.Test.YtploonojacdflaaChecked
import GoSem.Claim
import GoSem.ClaimJoined
import GoSem.ClaimMapViews
import Derived.JoinedTies
import Derived.KernelRfl
namespace Go.Proofs.Ytploonojacdflaa
/- THE CELL 'sum', in the pinned program and in every row, IS THE sha256 OF THE DUMP (.gsa) THAT YtploonojacdflaaProg.lean LOADS. Nothing in Lean hashes anything: it is a label: what it is worth is what the hold of that sum in a sandbox is worth. -/
noncomputable def Try.pinned : Pinned := { name := "ytploonojacdflaa", sum := "f75d9da357edddcd4e8caf4ef09a1028ac9ebb227ee71d9b8f1241f573c79169", checked := Try.checked }
namespace Rows
def none {H : Type} : Left H := { results := [], args := [] }

/-- 'dynamometerlaw9.MeasureBucketsMatchSpec': WHATEVER THE INPUT: true; the input reads as it did. -/
def measureBucketsMatchSpecSpec : ChangeSpec := { name := "measureBucketsMatchSpec", fn := fun _ => fun
  | [d1, d2, d3] => { results := [.lit (.bool true)], args := [d1, d2, d3] }
  | _ => none }
def measureBucketsMatchSpecRow : OpenClaim := { program := "ytploonojacdflaa", sum := "f75d9da357edddcd4e8caf4ef09a1028ac9ebb227ee71d9b8f1241f573c79169", func := "dynamometer/dynamometerlaw9.MeasureBucketsMatchSpec", spec := "measureBucketsMatchSpec", inPlace := ["slices.overlaps[int]"], unfollowed := true, recurses := true, apart := false }
def MeasureBucketsMatchSpecSaid : Prop := measureBucketsMatchSpecRow.holds Try.pinned (OpenSpec.ofChange measureBucketsMatchSpecSpec)

/-- ITS FALSE NEIGHBOUR: 'it returns false'. Refute it at one input. -/
def measureBucketsMatchSpecWrong : ChangeSpec := { name := "measureBucketsMatchSpec", fn := fun _ => fun
  | [d1, d2, d3] => { results := [.lit (.bool false)], args := [d1, d2, d3] }
  | _ => none }
def MeasureBucketsMatchSpecWrongFalsely : Prop := measureBucketsMatchSpecRow.holds Try.pinned (OpenSpec.ofChange measureBucketsMatchSpecWrong)

/-- 'dynamometerlaw9.MeasureQuantileBrackets': WHATEVER THE INPUT: true; the input reads as it did. -/
def measureQuantileBracketsSpec : ChangeSpec := { name := "measureQuantileBrackets", fn := fun _ => fun
  | [d1, d2, d3, d4] => { results := [.lit (.bool true)], args := [d1, d2, d3, d4] }
  | _ => none }
def measureQuantileBracketsRow : OpenClaim := { program := "ytploonojacdflaa", sum := "f75d9da357edddcd4e8caf4ef09a1028ac9ebb227ee71d9b8f1241f573c79169", func := "dynamometer/dynamometerlaw9.MeasureQuantileBrackets", spec := "measureQuantileBrackets", inPlace := ["slices.overlaps[int]"], unfollowed := true, recurses := true, named := ["math/bits.divideError", "math/bits.overflowError"], apart := false }
def MeasureQuantileBracketsSaid : Prop := measureQuantileBracketsRow.holds Try.pinned (OpenSpec.ofChange measureQuantileBracketsSpec)

/-- ITS FALSE NEIGHBOUR: 'it returns false'. Refute it at one input. -/
def measureQuantileBracketsWrong : ChangeSpec := { name := "measureQuantileBrackets", fn := fun _ => fun
  | [d1, d2, d3, d4] => { results := [.lit (.bool false)], args := [d1, d2, d3, d4] }
  | _ => none }
def MeasureQuantileBracketsWrongFalsely : Prop := measureQuantileBracketsRow.holds Try.pinned (OpenSpec.ofChange measureQuantileBracketsWrong)

/-- 'dynamometerlaw9.MeasureBusyIsTheArea': WHATEVER THE INPUT: true; the input reads as it did. -/
def measureBusyIsTheAreaSpec : ChangeSpec := { name := "measureBusyIsTheArea", fn := fun _ => fun
  | [d] => { results := [.lit (.bool true)], args := [d] }
  | _ => none }
def measureBusyIsTheAreaRow : OpenClaim := { program := "ytploonojacdflaa", sum := "f75d9da357edddcd4e8caf4ef09a1028ac9ebb227ee71d9b8f1241f573c79169", func := "dynamometer/dynamometerlaw9.MeasureBusyIsTheArea", spec := "measureBusyIsTheArea", inPlace := ["slices.overlaps[int]"], unfollowed := true, recurses := true, apart := false }
def MeasureBusyIsTheAreaSaid : Prop := measureBusyIsTheAreaRow.holds Try.pinned (OpenSpec.ofChange measureBusyIsTheAreaSpec)

/-- ITS FALSE NEIGHBOUR: 'it returns false'. Refute it at one input. -/
def measureBusyIsTheAreaWrong : ChangeSpec := { name := "measureBusyIsTheArea", fn := fun _ => fun
  | [d] => { results := [.lit (.bool false)], args := [d] }
  | _ => none }
def MeasureBusyIsTheAreaWrongFalsely : Prop := measureBusyIsTheAreaRow.holds Try.pinned (OpenSpec.ofChange measureBusyIsTheAreaWrong)

/- THE SECOND FORM. 'bulk': how many values and letters a reading holds, each counted each time it is reached (what is shared counts as often as it is met; a slice's spare places count too). A statement '..UptoSaid' is the law's where the arguments, and the package variables that the reading takes, are together of bulk at most 1048576: NARROWER than '..Said'. Prove '..Said' where nothing that the law and all that it calls make is longer than what came in: it says more and counts as full. Else prove '..UptoSaid'. A law counts once. -/
mutual
def uptoBulk {H : Type} : DataW H → Nat
  | .lit (.string bytes) => bytes.length + 1
  | .lit _ => 1
  | .nil => 1
  | .ptr d => uptoBulk d + 1
  | .slice elems spare => uptoBulkAll elems + uptoBulkAll spare + 1
  | .agg parts => uptoBulkAll parts + 1
  | .iface _ d => uptoBulk d + 1
  | .map entries => uptoBulkEntries entries + 1
  | .held _ => 1
def uptoBulkAll {H : Type} : List (DataW H) → Nat
  | [] => 0
  | d :: r => uptoBulk d + uptoBulkAll r
def uptoBulkEntries {H : Type} : List (Lit × DataW H) → Nat
  | [] => 0
  | x :: r => uptoBulkEntry x + uptoBulkEntries r
def uptoBulkEntry {H : Type} : Lit × DataW H → Nat
  | (.string bytes, d) => bytes.length + uptoBulk d + 1
  | (_, d) => uptoBulk d + 1
 end
def uptoSmall : (H : Type) → List (DataW H) → Bool := fun _ ds => decide (uptoBulkAll ds ≤ 1048576)
def OpenSpec.upto (s : _root_.Go.ChangeSpec) : _root_.Go.OpenSpec := { _root_.Go.OpenSpec.ofChange s with cond := some uptoSmall }

/-- 'dynamometerlaw9.MeasureBucketsMatchSpec', WHERE WHAT IT READS IS OF BULK AT MOST 1048576: true; the input reads as it did. -/
def measureBucketsMatchSpecUptoRow : OpenClaim := { program := "ytploonojacdflaa", sum := "f75d9da357edddcd4e8caf4ef09a1028ac9ebb227ee71d9b8f1241f573c79169", func := "dynamometer/dynamometerlaw9.MeasureBucketsMatchSpec", spec := "measureBucketsMatchSpec", inPlace := ["slices.overlaps[int]"], unfollowed := true, recurses := true, apart := false, narrowed := true }
def MeasureBucketsMatchSpecUptoSaid : Prop := measureBucketsMatchSpecUptoRow.holds Try.pinned (OpenSpec.upto measureBucketsMatchSpecSpec)

/-- 'dynamometerlaw9.MeasureQuantileBrackets', WHERE WHAT IT READS IS OF BULK AT MOST 1048576: true; the input reads as it did. -/
def measureQuantileBracketsUptoRow : OpenClaim := { program := "ytploonojacdflaa", sum := "f75d9da357edddcd4e8caf4ef09a1028ac9ebb227ee71d9b8f1241f573c79169", func := "dynamometer/dynamometerlaw9.MeasureQuantileBrackets", spec := "measureQuantileBrackets", inPlace := ["slices.overlaps[int]"], unfollowed := true, recurses := true, named := ["math/bits.divideError", "math/bits.overflowError"], apart := false, narrowed := true }
def MeasureQuantileBracketsUptoSaid : Prop := measureQuantileBracketsUptoRow.holds Try.pinned (OpenSpec.upto measureQuantileBracketsSpec)

/-- 'dynamometerlaw9.MeasureBusyIsTheArea', WHERE WHAT IT READS IS OF BULK AT MOST 1048576: true; the input reads as it did. -/
def measureBusyIsTheAreaUptoRow : OpenClaim := { program := "ytploonojacdflaa", sum := "f75d9da357edddcd4e8caf4ef09a1028ac9ebb227ee71d9b8f1241f573c79169", func := "dynamometer/dynamometerlaw9.MeasureBusyIsTheArea", spec := "measureBusyIsTheArea", inPlace := ["slices.overlaps[int]"], unfollowed := true, recurses := true, apart := false, narrowed := true }
def MeasureBusyIsTheAreaUptoSaid : Prop := measureBusyIsTheAreaUptoRow.holds Try.pinned (OpenSpec.upto measureBusyIsTheAreaSpec)

end Rows
end Go.Proofs.Ytploonojacdflaa
