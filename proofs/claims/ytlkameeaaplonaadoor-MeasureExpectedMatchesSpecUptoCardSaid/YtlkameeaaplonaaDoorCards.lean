/-
  DERIVED. GIVEN WITH THE SEED: THE CARDS: each row of YtlkameeaaplonaaDoorRows.lean that lists a variable, with what it lists TIED to the program's text (the seventh form; the later family's looks); each row that meets fmt, with fmt's text TOLD by the authors' own Lean function (tested against real Go, not proved from fmt's source: count such statements apart). THE CARD IS WHAT COUNTS. Prove the row's statement (the work); the ties are given (YtlkameeaaplonaaDoorTie.lean); close each card by the builder's one call (the guide's Derived/Test/ToyasCard.lean, 'card_holds'). Laid BY PROGRAM, IN A SANDBOX (cutbox-door.mjs). By AI agents, Wed Nov 11 2026. No macro, syntax, notation, axiom, sorry.
-/
import Derived.Test.YtlkameeaaplonaaDoorRows
import GoSem.ClaimSeven
namespace Go.Proofs.YtlkameeaaplonaaDoor
namespace Rows

/-- THE TIED CARD OF 'dynamometerlaw9.MeasureOfMatchesSpec'. -/
def measureOfMatchesSpecCard : Claim7 := { stood := { row := measureOfMatchesSpecRow, standIns := [], harness := (true, "6dee71c688df9c85a8e4d74e4c36887e7d4d385d362001e12e243e365b05cfdb"), looks := false }, kinds := [], alts := [], laidByText := true, laidKinds := [.data, .data, .data], laidTests := true, laidLooks := .later }
def MeasureOfMatchesSpecCardSaid : Prop := Claim7.holds Tryd.pinned (.plain (OpenSpec.ofChange measureOfMatchesSpecSpec)) measureOfMatchesSpecCard

/-- THE TIED CARD OF 'dynamometerlaw9.MeasureMergeIsTogether'. -/
def measureMergeIsTogetherCard : Claim7 := { stood := { row := measureMergeIsTogetherRow, standIns := [], harness := (true, "6dee71c688df9c85a8e4d74e4c36887e7d4d385d362001e12e243e365b05cfdb"), looks := false }, kinds := [], alts := [], laidByText := true, laidKinds := [.data, .data, .data], laidTests := true, laidLooks := .later }
def MeasureMergeIsTogetherCardSaid : Prop := Claim7.holds Tryd.pinned (.plain (OpenSpec.ofChange measureMergeIsTogetherSpec)) measureMergeIsTogetherCard

/-- THE TIED CARD OF 'dynamometerlaw9.MeasureExpectedIsAStall'. -/
def measureExpectedIsAStallCard : Claim7 := { stood := { row := measureExpectedIsAStallRow, standIns := [], harness := (true, "6dee71c688df9c85a8e4d74e4c36887e7d4d385d362001e12e243e365b05cfdb"), looks := false }, kinds := [], alts := [], laidByText := true, laidKinds := [.data, .data, .data], laidTests := true, laidLooks := .later }
def MeasureExpectedIsAStallCardSaid : Prop := Claim7.holds Tryd.pinned (.plain (OpenSpec.ofChange measureExpectedIsAStallSpec)) measureExpectedIsAStallCard

/-- THE TIED CARD OF 'dynamometerlaw9.MeasureCoarseMatchesSpec'. -/
def measureCoarseMatchesSpecCard : Claim7 := { stood := { row := measureCoarseMatchesSpecRow, standIns := [], harness := (true, "6dee71c688df9c85a8e4d74e4c36887e7d4d385d362001e12e243e365b05cfdb"), looks := false }, kinds := [], alts := [], laidByText := true, laidKinds := [.data, .data, .data], laidTests := true, laidLooks := .later }
def MeasureCoarseMatchesSpecCardSaid : Prop := Claim7.holds Tryd.pinned (.plain (OpenSpec.ofChange measureCoarseMatchesSpecSpec)) measureCoarseMatchesSpecCard

/-- THE TIED CARD OF 'dynamometerlaw9.MeasureMergeMatchesSpec'. -/
def measureMergeMatchesSpecCard : Claim7 := { stood := { row := measureMergeMatchesSpecRow, standIns := [], harness := (true, "6dee71c688df9c85a8e4d74e4c36887e7d4d385d362001e12e243e365b05cfdb"), looks := false }, kinds := [], alts := [], laidByText := true, laidKinds := [.data, .data, .data], laidTests := true, laidLooks := .later }
def MeasureMergeMatchesSpecCardSaid : Prop := Claim7.holds Tryd.pinned (.plain (OpenSpec.ofChange measureMergeMatchesSpecSpec)) measureMergeMatchesSpecCard

/-- THE TIED CARD OF 'dynamometerlaw9.MeasureExpectedMatchesSpec'. -/
def measureExpectedMatchesSpecCard : Claim7 := { stood := { row := measureExpectedMatchesSpecRow, standIns := [], harness := (true, "6dee71c688df9c85a8e4d74e4c36887e7d4d385d362001e12e243e365b05cfdb"), looks := false }, kinds := [], alts := [], laidByText := true, laidKinds := [.data, .data, .data], laidTests := true, laidLooks := .later }
def MeasureExpectedMatchesSpecCardSaid : Prop := Claim7.holds Tryd.pinned (.plain (OpenSpec.ofChange measureExpectedMatchesSpecSpec)) measureExpectedMatchesSpecCard

/-- THE SECOND FORM's CARD OF 'dynamometerlaw9.MeasureOfMatchesSpec'. -/
def measureOfMatchesSpecUptoCard : Claim7 := { stood := { row := measureOfMatchesSpecUptoRow, standIns := [], harness := (true, "6dee71c688df9c85a8e4d74e4c36887e7d4d385d362001e12e243e365b05cfdb"), looks := false }, kinds := [], alts := [], laidByText := true, laidKinds := [.data, .data, .data], laidTests := true, laidLooks := .later }
def MeasureOfMatchesSpecUptoCardSaid : Prop := Claim7.holds Tryd.pinned (.plain (OpenSpec.upto measureOfMatchesSpecSpec)) measureOfMatchesSpecUptoCard

/-- THE SECOND FORM's CARD OF 'dynamometerlaw9.MeasureMergeIsTogether'. -/
def measureMergeIsTogetherUptoCard : Claim7 := { stood := { row := measureMergeIsTogetherUptoRow, standIns := [], harness := (true, "6dee71c688df9c85a8e4d74e4c36887e7d4d385d362001e12e243e365b05cfdb"), looks := false }, kinds := [], alts := [], laidByText := true, laidKinds := [.data, .data, .data], laidTests := true, laidLooks := .later }
def MeasureMergeIsTogetherUptoCardSaid : Prop := Claim7.holds Tryd.pinned (.plain (OpenSpec.upto measureMergeIsTogetherSpec)) measureMergeIsTogetherUptoCard

/-- THE SECOND FORM's CARD OF 'dynamometerlaw9.MeasureExpectedIsAStall'. -/
def measureExpectedIsAStallUptoCard : Claim7 := { stood := { row := measureExpectedIsAStallUptoRow, standIns := [], harness := (true, "6dee71c688df9c85a8e4d74e4c36887e7d4d385d362001e12e243e365b05cfdb"), looks := false }, kinds := [], alts := [], laidByText := true, laidKinds := [.data, .data, .data], laidTests := true, laidLooks := .later }
def MeasureExpectedIsAStallUptoCardSaid : Prop := Claim7.holds Tryd.pinned (.plain (OpenSpec.upto measureExpectedIsAStallSpec)) measureExpectedIsAStallUptoCard

/-- THE SECOND FORM's CARD OF 'dynamometerlaw9.MeasureCoarseMatchesSpec'. -/
def measureCoarseMatchesSpecUptoCard : Claim7 := { stood := { row := measureCoarseMatchesSpecUptoRow, standIns := [], harness := (true, "6dee71c688df9c85a8e4d74e4c36887e7d4d385d362001e12e243e365b05cfdb"), looks := false }, kinds := [], alts := [], laidByText := true, laidKinds := [.data, .data, .data], laidTests := true, laidLooks := .later }
def MeasureCoarseMatchesSpecUptoCardSaid : Prop := Claim7.holds Tryd.pinned (.plain (OpenSpec.upto measureCoarseMatchesSpecSpec)) measureCoarseMatchesSpecUptoCard

/-- THE SECOND FORM's CARD OF 'dynamometerlaw9.MeasureMergeMatchesSpec'. -/
def measureMergeMatchesSpecUptoCard : Claim7 := { stood := { row := measureMergeMatchesSpecUptoRow, standIns := [], harness := (true, "6dee71c688df9c85a8e4d74e4c36887e7d4d385d362001e12e243e365b05cfdb"), looks := false }, kinds := [], alts := [], laidByText := true, laidKinds := [.data, .data, .data], laidTests := true, laidLooks := .later }
def MeasureMergeMatchesSpecUptoCardSaid : Prop := Claim7.holds Tryd.pinned (.plain (OpenSpec.upto measureMergeMatchesSpecSpec)) measureMergeMatchesSpecUptoCard

/-- THE SECOND FORM's CARD OF 'dynamometerlaw9.MeasureExpectedMatchesSpec'. -/
def measureExpectedMatchesSpecUptoCard : Claim7 := { stood := { row := measureExpectedMatchesSpecUptoRow, standIns := [], harness := (true, "6dee71c688df9c85a8e4d74e4c36887e7d4d385d362001e12e243e365b05cfdb"), looks := false }, kinds := [], alts := [], laidByText := true, laidKinds := [.data, .data, .data], laidTests := true, laidLooks := .later }
def MeasureExpectedMatchesSpecUptoCardSaid : Prop := Claim7.holds Tryd.pinned (.plain (OpenSpec.upto measureExpectedMatchesSpecSpec)) measureExpectedMatchesSpecUptoCard
end Rows
end Go.Proofs.YtlkameeaaplonaaDoor
