/-
  DERIVED. GIVEN WITH THE SEED: THE CARDS: each row of YtabmalnandbocaaGreatDoorRows.lean that lists a variable, with what it lists TIED to the program's text (the seventh form; the later family's looks); each row that meets fmt, with fmt's text TOLD by the authors' own Lean function (tested against real Go, not proved from fmt's source: count such statements apart). THE CARD IS WHAT COUNTS. Prove the row's statement (the work); the ties are given (YtabmalnandbocaaGreatDoorTie.lean); close each card by the builder's one call (the guide's Derived/Test/ToyasCard.lean, 'card_holds'). Laid BY PROGRAM, IN A SANDBOX (cutbox-door.mjs). By AI agents, Wed Nov 11 2026. No macro, syntax, notation, axiom, sorry.
-/
import Derived.Test.YtabmalnandbocaaGreatDoorRows
import GoSem.ClaimSeven
namespace Go.Proofs.YtabmalnandbocaaGreatDoor
namespace Rows

/-- THE TIED CARD OF 'quarrylaw14.ShortestTexts'. -/
def shortestTextsCard : Claim7 := { stood := { row := shortestTextsRow, standIns := [], harness := (true, "e3edd5373493625ab8d2e6c2f18981f88e86bf2acf8b98f0b1d2516adc12cc42"), looks := false }, kinds := [], alts := [], laidByText := true, laidKinds := [.data, .data, .data, .data, .pinned], laidTests := true, laidLooks := .later }
def ShortestTextsCardSaid : Prop := Claim7.holds Tryz.pinned (.plain (OpenSpec.ofChange shortestTextsSpec)) shortestTextsCard

/-- THE TIED CARD OF 'quarrylaw14.ShortestFewest'. -/
def shortestFewestCard : Claim7 := { stood := { row := shortestFewestRow, standIns := [], harness := (true, "e3edd5373493625ab8d2e6c2f18981f88e86bf2acf8b98f0b1d2516adc12cc42"), looks := false }, kinds := [], alts := [], laidByText := true, laidKinds := [.data, .data, .data, .data, .pinned], laidTests := true, laidLooks := .later }
def ShortestFewestCardSaid : Prop := Claim7.holds Tryz.pinned (.plain (OpenSpec.ofChange shortestFewestSpec)) shortestFewestCard

/-- THE TIED CARD OF 'quarrylaw14.ShortestPowers'. -/
def shortestPowersCard : Claim7 := { stood := { row := shortestPowersRow, standIns := [], harness := (true, "e3edd5373493625ab8d2e6c2f18981f88e86bf2acf8b98f0b1d2516adc12cc42"), looks := false }, kinds := [], alts := [], laidByText := true, laidKinds := [.data, .data, .data, .data, .pinned], laidTests := true, laidLooks := .later }
def ShortestPowersCardSaid : Prop := Claim7.holds Tryz.pinned (.plain (OpenSpec.ofChange shortestPowersSpec)) shortestPowersCard

/-- THE TIED CARD OF 'quarrylaw14.ShortestBack'. -/
def shortestBackCard : Claim7 := { stood := { row := shortestBackRow, standIns := [], harness := (true, "e3edd5373493625ab8d2e6c2f18981f88e86bf2acf8b98f0b1d2516adc12cc42"), looks := false }, kinds := [], alts := [], laidByText := true, laidKinds := [.data, .data, .data, .data, .pinned], laidTests := true, laidLooks := .later }
def ShortestBackCardSaid : Prop := Claim7.holds Tryz.pinned (.plain (OpenSpec.ofChange shortestBackSpec)) shortestBackCard

/-- THE TIED CARD OF 'quarrylaw14.ShortestTurns'. -/
def shortestTurnsCard : Claim7 := { stood := { row := shortestTurnsRow, standIns := [], harness := (true, "e3edd5373493625ab8d2e6c2f18981f88e86bf2acf8b98f0b1d2516adc12cc42"), looks := false }, kinds := [], alts := [], laidByText := true, laidKinds := [.data, .data, .data, .data, .pinned], laidTests := true, laidLooks := .later }
def ShortestTurnsCardSaid : Prop := Claim7.holds Tryz.pinned (.plain (OpenSpec.ofChange shortestTurnsSpec)) shortestTurnsCard

/-- THE SECOND FORM's CARD OF 'quarrylaw14.ShortestTexts'. -/
def shortestTextsUptoCard : Claim7 := { stood := { row := shortestTextsUptoRow, standIns := [], harness := (true, "e3edd5373493625ab8d2e6c2f18981f88e86bf2acf8b98f0b1d2516adc12cc42"), looks := false }, kinds := [], alts := [], laidByText := true, laidKinds := [.data, .data, .data, .data, .pinned], laidTests := true, laidLooks := .later }
def ShortestTextsUptoCardSaid : Prop := Claim7.holds Tryz.pinned (.plain (OpenSpec.upto shortestTextsSpec)) shortestTextsUptoCard

/-- THE SECOND FORM's CARD OF 'quarrylaw14.ShortestFewest'. -/
def shortestFewestUptoCard : Claim7 := { stood := { row := shortestFewestUptoRow, standIns := [], harness := (true, "e3edd5373493625ab8d2e6c2f18981f88e86bf2acf8b98f0b1d2516adc12cc42"), looks := false }, kinds := [], alts := [], laidByText := true, laidKinds := [.data, .data, .data, .data, .pinned], laidTests := true, laidLooks := .later }
def ShortestFewestUptoCardSaid : Prop := Claim7.holds Tryz.pinned (.plain (OpenSpec.upto shortestFewestSpec)) shortestFewestUptoCard

/-- THE SECOND FORM's CARD OF 'quarrylaw14.ShortestPowers'. -/
def shortestPowersUptoCard : Claim7 := { stood := { row := shortestPowersUptoRow, standIns := [], harness := (true, "e3edd5373493625ab8d2e6c2f18981f88e86bf2acf8b98f0b1d2516adc12cc42"), looks := false }, kinds := [], alts := [], laidByText := true, laidKinds := [.data, .data, .data, .data, .pinned], laidTests := true, laidLooks := .later }
def ShortestPowersUptoCardSaid : Prop := Claim7.holds Tryz.pinned (.plain (OpenSpec.upto shortestPowersSpec)) shortestPowersUptoCard

/-- THE SECOND FORM's CARD OF 'quarrylaw14.ShortestBack'. -/
def shortestBackUptoCard : Claim7 := { stood := { row := shortestBackUptoRow, standIns := [], harness := (true, "e3edd5373493625ab8d2e6c2f18981f88e86bf2acf8b98f0b1d2516adc12cc42"), looks := false }, kinds := [], alts := [], laidByText := true, laidKinds := [.data, .data, .data, .data, .pinned], laidTests := true, laidLooks := .later }
def ShortestBackUptoCardSaid : Prop := Claim7.holds Tryz.pinned (.plain (OpenSpec.upto shortestBackSpec)) shortestBackUptoCard

/-- THE SECOND FORM's CARD OF 'quarrylaw14.ShortestTurns'. -/
def shortestTurnsUptoCard : Claim7 := { stood := { row := shortestTurnsUptoRow, standIns := [], harness := (true, "e3edd5373493625ab8d2e6c2f18981f88e86bf2acf8b98f0b1d2516adc12cc42"), looks := false }, kinds := [], alts := [], laidByText := true, laidKinds := [.data, .data, .data, .data, .pinned], laidTests := true, laidLooks := .later }
def ShortestTurnsUptoCardSaid : Prop := Claim7.holds Tryz.pinned (.plain (OpenSpec.upto shortestTurnsSpec)) shortestTurnsUptoCard
end Rows
end Go.Proofs.YtabmalnandbocaaGreatDoor
