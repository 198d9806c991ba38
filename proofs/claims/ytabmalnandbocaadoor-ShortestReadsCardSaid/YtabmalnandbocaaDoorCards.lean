/-
  DERIVED. GIVEN WITH THE SEED: THE CARDS: each row of YtabmalnandbocaaDoorRows.lean that lists a variable, with what it lists TIED to the program's text (the seventh form; the later family's looks); each row that meets fmt, with fmt's text TOLD by the authors' own Lean function (tested against real Go, not proved from fmt's source: count such statements apart). THE CARD IS WHAT COUNTS. Prove the row's statement (the work); the ties are given (YtabmalnandbocaaDoorTie.lean); close each card by the builder's one call (the guide's Derived/Test/ToyasCard.lean, 'card_holds'). Laid BY PROGRAM, IN A SANDBOX (cutbox-door.mjs). By AI agents, Wed Nov 11 2026. No macro, syntax, notation, axiom, sorry.
-/
import Derived.Test.YtabmalnandbocaaDoorRows
import GoSem.ClaimSeven
namespace Go.Proofs.YtabmalnandbocaaDoor
namespace Rows

/-- THE TIED CARD OF 'quarrylaw14.ShortestDigits'. -/
def shortestDigitsCard : Claim7 := { stood := { row := shortestDigitsRow, standIns := [], harness := (true, "a6150469ac45550f83da77c5415f76c755086690be3135ec9538f83ca0627bec"), looks := false }, kinds := [], alts := [], laidByText := true, laidKinds := [.data, .pinned], laidTests := true, laidLooks := .later }
def ShortestDigitsCardSaid : Prop := Claim7.holds Tryd.pinned (.plain (OpenSpec.ofChange shortestDigitsSpec)) shortestDigitsCard

/-- THE TIED CARD OF 'quarrylaw14.ShortestReads'. -/
def shortestReadsCard : Claim7 := { stood := { row := shortestReadsRow, standIns := [], harness := (true, "a6150469ac45550f83da77c5415f76c755086690be3135ec9538f83ca0627bec"), looks := false }, kinds := [], alts := [], laidByText := true, laidKinds := [.data, .pinned], laidTests := true, laidLooks := .later }
def ShortestReadsCardSaid : Prop := Claim7.holds Tryd.pinned (.plain (OpenSpec.ofChange shortestReadsSpec)) shortestReadsCard

/-- THE SECOND FORM's CARD OF 'quarrylaw14.ShortestDigits'. -/
def shortestDigitsUptoCard : Claim7 := { stood := { row := shortestDigitsUptoRow, standIns := [], harness := (true, "a6150469ac45550f83da77c5415f76c755086690be3135ec9538f83ca0627bec"), looks := false }, kinds := [], alts := [], laidByText := true, laidKinds := [.data, .pinned], laidTests := true, laidLooks := .later }
def ShortestDigitsUptoCardSaid : Prop := Claim7.holds Tryd.pinned (.plain (OpenSpec.upto shortestDigitsSpec)) shortestDigitsUptoCard

/-- THE SECOND FORM's CARD OF 'quarrylaw14.ShortestReads'. -/
def shortestReadsUptoCard : Claim7 := { stood := { row := shortestReadsUptoRow, standIns := [], harness := (true, "a6150469ac45550f83da77c5415f76c755086690be3135ec9538f83ca0627bec"), looks := false }, kinds := [], alts := [], laidByText := true, laidKinds := [.data, .pinned], laidTests := true, laidLooks := .later }
def ShortestReadsUptoCardSaid : Prop := Claim7.holds Tryd.pinned (.plain (OpenSpec.upto shortestReadsSpec)) shortestReadsUptoCard
end Rows
end Go.Proofs.YtabmalnandbocaaDoor
