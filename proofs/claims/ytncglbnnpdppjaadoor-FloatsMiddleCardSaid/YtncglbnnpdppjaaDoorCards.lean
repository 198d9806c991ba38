/-
  DERIVED. GIVEN WITH THE SEED: THE CARDS: each row of YtncglbnnpdppjaaDoorRows.lean that lists a variable, with what it lists TIED to the program's text (the seventh form; the later family's looks); each row that meets fmt, with fmt's text TOLD by the authors' own Lean function (tested against real Go, not proved from fmt's source: count such statements apart). THE CARD IS WHAT COUNTS. Prove the row's statement (the work); the ties are given (YtncglbnnpdppjaaDoorTie.lean); close each card by the builder's one call (the guide's Derived/Test/ToyasCard.lean, 'card_holds'). Laid BY PROGRAM, IN A SANDBOX (cutbox-door.mjs). By AI agents, Wed Nov 11 2026. No macro, syntax, notation, axiom, sorry.
-/
import Derived.Test.YtncglbnnpdppjaaDoorRows
import GoSem.ClaimSeven
namespace Go.Proofs.YtncglbnnpdppjaaDoor
namespace Rows

/-- THE TIED CARD OF 'quarrylaw13.FloatsOf'. -/
def floatsOfCard : Claim7 := { stood := { row := floatsOfRow, standIns := [], harness := (true, "6eddb1a091c469e106bdf47c66faa363421889033f1886ef5956603f263274e2"), looks := false }, kinds := [], alts := [], laidByText := true, laidKinds := [.data, .pinned], laidTests := true, laidLooks := .later }
def FloatsOfCardSaid : Prop := Claim7.holds Tryd.pinned (.plain (OpenSpec.ofChange floatsOfSpec)) floatsOfCard

/-- THE TIED CARD OF 'quarrylaw13.FloatsShort'. -/
def floatsShortCard : Claim7 := { stood := { row := floatsShortRow, standIns := [], harness := (true, "6eddb1a091c469e106bdf47c66faa363421889033f1886ef5956603f263274e2"), looks := false }, kinds := [], alts := [], laidByText := true, laidKinds := [.data, .pinned], laidTests := true, laidLooks := .later }
def FloatsShortCardSaid : Prop := Claim7.holds Tryd.pinned (.plain (OpenSpec.ofChange floatsShortSpec)) floatsShortCard

/-- THE TIED CARD OF 'quarrylaw13.FloatsExact'. -/
def floatsExactCard : Claim7 := { stood := { row := floatsExactRow, standIns := [], harness := (true, "6eddb1a091c469e106bdf47c66faa363421889033f1886ef5956603f263274e2"), looks := false }, kinds := [], alts := [], laidByText := true, laidKinds := [.data, .pinned], laidTests := true, laidLooks := .later }
def FloatsExactCardSaid : Prop := Claim7.holds Tryd.pinned (.plain (OpenSpec.ofChange floatsExactSpec)) floatsExactCard

/-- THE TIED CARD OF 'quarrylaw13.FloatsBetween'. -/
def floatsBetweenCard : Claim7 := { stood := { row := floatsBetweenRow, standIns := [], harness := (true, "6eddb1a091c469e106bdf47c66faa363421889033f1886ef5956603f263274e2"), looks := false }, kinds := [], alts := [], laidByText := true, laidKinds := [.data, .pinned], laidTests := true, laidLooks := .later }
def FloatsBetweenCardSaid : Prop := Claim7.holds Tryd.pinned (.plain (OpenSpec.ofChange floatsBetweenSpec)) floatsBetweenCard

/-- THE TIED CARD OF 'quarrylaw13.FloatsBack'. -/
def floatsBackCard : Claim7 := { stood := { row := floatsBackRow, standIns := [], harness := (true, "6eddb1a091c469e106bdf47c66faa363421889033f1886ef5956603f263274e2"), looks := false }, kinds := [], alts := [], laidByText := true, laidKinds := [.data, .pinned], laidTests := true, laidLooks := .later }
def FloatsBackCardSaid : Prop := Claim7.holds Tryd.pinned (.plain (OpenSpec.ofChange floatsBackSpec)) floatsBackCard

/-- THE TIED CARD OF 'quarrylaw13.FloatsRise'. -/
def floatsRiseCard : Claim7 := { stood := { row := floatsRiseRow, standIns := [], harness := (true, "6eddb1a091c469e106bdf47c66faa363421889033f1886ef5956603f263274e2"), looks := false }, kinds := [], alts := [], laidByText := true, laidKinds := [.data, .pinned], laidTests := true, laidLooks := .later }
def FloatsRiseCardSaid : Prop := Claim7.holds Tryd.pinned (.plain (OpenSpec.ofChange floatsRiseSpec)) floatsRiseCard

/-- THE TIED CARD OF 'quarrylaw13.FloatsNearest'. -/
def floatsNearestCard : Claim7 := { stood := { row := floatsNearestRow, standIns := [], harness := (true, "6eddb1a091c469e106bdf47c66faa363421889033f1886ef5956603f263274e2"), looks := false }, kinds := [], alts := [], laidByText := true, laidKinds := [.data, .pinned], laidTests := true, laidLooks := .later }
def FloatsNearestCardSaid : Prop := Claim7.holds Tryd.pinned (.plain (OpenSpec.ofChange floatsNearestSpec)) floatsNearestCard

/-- THE TIED CARD OF 'quarrylaw13.FloatsMiddle'. -/
def floatsMiddleCard : Claim7 := { stood := { row := floatsMiddleRow, standIns := [], harness := (true, "6eddb1a091c469e106bdf47c66faa363421889033f1886ef5956603f263274e2"), looks := false }, kinds := [], alts := [], laidByText := true, laidKinds := [.data, .pinned], laidTests := true, laidLooks := .later }
def FloatsMiddleCardSaid : Prop := Claim7.holds Tryd.pinned (.plain (OpenSpec.ofChange floatsMiddleSpec)) floatsMiddleCard

/-- THE SECOND FORM's CARD OF 'quarrylaw13.FloatsOf'. -/
def floatsOfUptoCard : Claim7 := { stood := { row := floatsOfUptoRow, standIns := [], harness := (true, "6eddb1a091c469e106bdf47c66faa363421889033f1886ef5956603f263274e2"), looks := false }, kinds := [], alts := [], laidByText := true, laidKinds := [.data, .pinned], laidTests := true, laidLooks := .later }
def FloatsOfUptoCardSaid : Prop := Claim7.holds Tryd.pinned (.plain (OpenSpec.upto floatsOfSpec)) floatsOfUptoCard

/-- THE SECOND FORM's CARD OF 'quarrylaw13.FloatsShort'. -/
def floatsShortUptoCard : Claim7 := { stood := { row := floatsShortUptoRow, standIns := [], harness := (true, "6eddb1a091c469e106bdf47c66faa363421889033f1886ef5956603f263274e2"), looks := false }, kinds := [], alts := [], laidByText := true, laidKinds := [.data, .pinned], laidTests := true, laidLooks := .later }
def FloatsShortUptoCardSaid : Prop := Claim7.holds Tryd.pinned (.plain (OpenSpec.upto floatsShortSpec)) floatsShortUptoCard

/-- THE SECOND FORM's CARD OF 'quarrylaw13.FloatsExact'. -/
def floatsExactUptoCard : Claim7 := { stood := { row := floatsExactUptoRow, standIns := [], harness := (true, "6eddb1a091c469e106bdf47c66faa363421889033f1886ef5956603f263274e2"), looks := false }, kinds := [], alts := [], laidByText := true, laidKinds := [.data, .pinned], laidTests := true, laidLooks := .later }
def FloatsExactUptoCardSaid : Prop := Claim7.holds Tryd.pinned (.plain (OpenSpec.upto floatsExactSpec)) floatsExactUptoCard

/-- THE SECOND FORM's CARD OF 'quarrylaw13.FloatsBetween'. -/
def floatsBetweenUptoCard : Claim7 := { stood := { row := floatsBetweenUptoRow, standIns := [], harness := (true, "6eddb1a091c469e106bdf47c66faa363421889033f1886ef5956603f263274e2"), looks := false }, kinds := [], alts := [], laidByText := true, laidKinds := [.data, .pinned], laidTests := true, laidLooks := .later }
def FloatsBetweenUptoCardSaid : Prop := Claim7.holds Tryd.pinned (.plain (OpenSpec.upto floatsBetweenSpec)) floatsBetweenUptoCard

/-- THE SECOND FORM's CARD OF 'quarrylaw13.FloatsBack'. -/
def floatsBackUptoCard : Claim7 := { stood := { row := floatsBackUptoRow, standIns := [], harness := (true, "6eddb1a091c469e106bdf47c66faa363421889033f1886ef5956603f263274e2"), looks := false }, kinds := [], alts := [], laidByText := true, laidKinds := [.data, .pinned], laidTests := true, laidLooks := .later }
def FloatsBackUptoCardSaid : Prop := Claim7.holds Tryd.pinned (.plain (OpenSpec.upto floatsBackSpec)) floatsBackUptoCard

/-- THE SECOND FORM's CARD OF 'quarrylaw13.FloatsRise'. -/
def floatsRiseUptoCard : Claim7 := { stood := { row := floatsRiseUptoRow, standIns := [], harness := (true, "6eddb1a091c469e106bdf47c66faa363421889033f1886ef5956603f263274e2"), looks := false }, kinds := [], alts := [], laidByText := true, laidKinds := [.data, .pinned], laidTests := true, laidLooks := .later }
def FloatsRiseUptoCardSaid : Prop := Claim7.holds Tryd.pinned (.plain (OpenSpec.upto floatsRiseSpec)) floatsRiseUptoCard

/-- THE SECOND FORM's CARD OF 'quarrylaw13.FloatsNearest'. -/
def floatsNearestUptoCard : Claim7 := { stood := { row := floatsNearestUptoRow, standIns := [], harness := (true, "6eddb1a091c469e106bdf47c66faa363421889033f1886ef5956603f263274e2"), looks := false }, kinds := [], alts := [], laidByText := true, laidKinds := [.data, .pinned], laidTests := true, laidLooks := .later }
def FloatsNearestUptoCardSaid : Prop := Claim7.holds Tryd.pinned (.plain (OpenSpec.upto floatsNearestSpec)) floatsNearestUptoCard

/-- THE SECOND FORM's CARD OF 'quarrylaw13.FloatsMiddle'. -/
def floatsMiddleUptoCard : Claim7 := { stood := { row := floatsMiddleUptoRow, standIns := [], harness := (true, "6eddb1a091c469e106bdf47c66faa363421889033f1886ef5956603f263274e2"), looks := false }, kinds := [], alts := [], laidByText := true, laidKinds := [.data, .pinned], laidTests := true, laidLooks := .later }
def FloatsMiddleUptoCardSaid : Prop := Claim7.holds Tryd.pinned (.plain (OpenSpec.upto floatsMiddleSpec)) floatsMiddleUptoCard
end Rows
end Go.Proofs.YtncglbnnpdppjaaDoor
