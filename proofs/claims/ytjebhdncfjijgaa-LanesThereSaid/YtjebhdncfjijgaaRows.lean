/-
  No cell of these rows narrows 'for every input' (looked for: loops, veiled, ifaces, maps, wideKeys, modest, calm, conditions, laid).
  DERIVED. THE GIVEN ROWS OF THIS SEAT. 8 by the template 'for every input the law returns true; each argument reads behind the call as it read before'; 0 by the template 'total and deterministic' (their statements: YtjebhdncfjijgaaTotals.lean).
  GIVEN WITH THE SEED: the statements are not yours to turn. If you find one false, say at which input.
  Laid BY PROGRAM, IN A SANDBOX (cutbox-rows.mjs): the forced cells as the released guide's own fill.sh prints them over the translation 5640452c81caf355… (all of the seat's roots in one cut). By AI agents, Wed Nov 11 2026. No macro, syntax, notation, axiom, sorry.
-/
import Derived.Test.YtjebhdncfjijgaaChecked
import GoSem.Claim
import GoSem.ClaimJoined
import GoSem.ClaimMapViews
import Derived.JoinedTies
import Derived.KernelRfl
namespace Go.Proofs.Ytjebhdncfjijgaa
/- THE CELL 'sum', in the pinned program and in every row, IS THE sha256 OF THE DUMP (.gsa) THAT YtjebhdncfjijgaaProg.lean LOADS. Nothing in Lean hashes anything: it is a label: what it is worth is what the hold of that sum in a sandbox is worth. -/
noncomputable def Try.pinned : Pinned := { name := "ytjebhdncfjijgaa", sum := "5640452c81caf355ff1f218f4286509d034b36d504fe28ab83ade327609a16af", checked := Try.checked }
namespace Rows
def none {H : Type} : Left H := { results := [], args := [] }

/-- 'quarrylaw01.LanesSums': WHATEVER THE INPUT: true; the input reads as it did. -/
def lanesSumsSpec : ChangeSpec := { name := "lanesSums", fn := fun _ => fun
  | [d] => { results := [.lit (.bool true)], args := [d] }
  | _ => none }
def lanesSumsRow : OpenClaim := { program := "ytjebhdncfjijgaa", sum := "5640452c81caf355ff1f218f4286509d034b36d504fe28ab83ade327609a16af", func := "quarry/quarrylaw01.LanesSums", spec := "lanesSums", apart := false }
def LanesSumsSaid : Prop := lanesSumsRow.holds Try.pinned (OpenSpec.ofChange lanesSumsSpec)

/-- ITS FALSE NEIGHBOUR: 'it returns false'. Refute it at one input. -/
def lanesSumsWrong : ChangeSpec := { name := "lanesSums", fn := fun _ => fun
  | [d] => { results := [.lit (.bool false)], args := [d] }
  | _ => none }
def LanesSumsWrongFalsely : Prop := lanesSumsRow.holds Try.pinned (OpenSpec.ofChange lanesSumsWrong)

/-- 'quarrylaw01.LanesBetween': WHATEVER THE INPUT: true; the input reads as it did. -/
def lanesBetweenSpec : ChangeSpec := { name := "lanesBetween", fn := fun _ => fun
  | [d1, d2, d3] => { results := [.lit (.bool true)], args := [d1, d2, d3] }
  | _ => none }
def lanesBetweenRow : OpenClaim := { program := "ytjebhdncfjijgaa", sum := "5640452c81caf355ff1f218f4286509d034b36d504fe28ab83ade327609a16af", func := "quarry/quarrylaw01.LanesBetween", spec := "lanesBetween", apart := false }
def LanesBetweenSaid : Prop := lanesBetweenRow.holds Try.pinned (OpenSpec.ofChange lanesBetweenSpec)

/-- ITS FALSE NEIGHBOUR: 'it returns false'. Refute it at one input. -/
def lanesBetweenWrong : ChangeSpec := { name := "lanesBetween", fn := fun _ => fun
  | [d1, d2, d3] => { results := [.lit (.bool false)], args := [d1, d2, d3] }
  | _ => none }
def LanesBetweenWrongFalsely : Prop := lanesBetweenRow.holds Try.pinned (OpenSpec.ofChange lanesBetweenWrong)

/-- 'quarrylaw01.LanesEquals': WHATEVER THE INPUT: true; the input reads as it did. -/
def lanesEqualsSpec : ChangeSpec := { name := "lanesEquals", fn := fun _ => fun
  | [d1, d2] => { results := [.lit (.bool true)], args := [d1, d2] }
  | _ => none }
def lanesEqualsRow : OpenClaim := { program := "ytjebhdncfjijgaa", sum := "5640452c81caf355ff1f218f4286509d034b36d504fe28ab83ade327609a16af", func := "quarry/quarrylaw01.LanesEquals", spec := "lanesEquals", apart := false }
def LanesEqualsSaid : Prop := lanesEqualsRow.holds Try.pinned (OpenSpec.ofChange lanesEqualsSpec)

/-- ITS FALSE NEIGHBOUR: 'it returns false'. Refute it at one input. -/
def lanesEqualsWrong : ChangeSpec := { name := "lanesEquals", fn := fun _ => fun
  | [d1, d2] => { results := [.lit (.bool false)], args := [d1, d2] }
  | _ => none }
def LanesEqualsWrongFalsely : Prop := lanesEqualsRow.holds Try.pinned (OpenSpec.ofChange lanesEqualsWrong)

/-- 'quarrylaw01.LanesPacks': WHATEVER THE INPUT: true; the input reads as it did. -/
def lanesPacksSpec : ChangeSpec := { name := "lanesPacks", fn := fun _ => fun
  | [d1, d2, d3] => { results := [.lit (.bool true)], args := [d1, d2, d3] }
  | _ => none }
def lanesPacksRow : OpenClaim := { program := "ytjebhdncfjijgaa", sum := "5640452c81caf355ff1f218f4286509d034b36d504fe28ab83ade327609a16af", func := "quarry/quarrylaw01.LanesPacks", spec := "lanesPacks", apart := false }
def LanesPacksSaid : Prop := lanesPacksRow.holds Try.pinned (OpenSpec.ofChange lanesPacksSpec)

/-- ITS FALSE NEIGHBOUR: 'it returns false'. Refute it at one input. -/
def lanesPacksWrong : ChangeSpec := { name := "lanesPacks", fn := fun _ => fun
  | [d1, d2, d3] => { results := [.lit (.bool false)], args := [d1, d2, d3] }
  | _ => none }
def LanesPacksWrongFalsely : Prop := lanesPacksRow.holds Try.pinned (OpenSpec.ofChange lanesPacksWrong)

/-- 'quarrylaw01.LanesLess': WHATEVER THE INPUT: true; the input reads as it did. -/
def lanesLessSpec : ChangeSpec := { name := "lanesLess", fn := fun _ => fun
  | [d1, d2] => { results := [.lit (.bool true)], args := [d1, d2] }
  | _ => none }
def lanesLessRow : OpenClaim := { program := "ytjebhdncfjijgaa", sum := "5640452c81caf355ff1f218f4286509d034b36d504fe28ab83ade327609a16af", func := "quarry/quarrylaw01.LanesLess", spec := "lanesLess", apart := false }
def LanesLessSaid : Prop := lanesLessRow.holds Try.pinned (OpenSpec.ofChange lanesLessSpec)

/-- ITS FALSE NEIGHBOUR: 'it returns false'. Refute it at one input. -/
def lanesLessWrong : ChangeSpec := { name := "lanesLess", fn := fun _ => fun
  | [d1, d2] => { results := [.lit (.bool false)], args := [d1, d2] }
  | _ => none }
def LanesLessWrongFalsely : Prop := lanesLessRow.holds Try.pinned (OpenSpec.ofChange lanesLessWrong)

/-- 'quarrylaw01.LanesAdds': WHATEVER THE INPUT: true; the input reads as it did. -/
def lanesAddsSpec : ChangeSpec := { name := "lanesAdds", fn := fun _ => fun
  | [d1, d2] => { results := [.lit (.bool true)], args := [d1, d2] }
  | _ => none }
def lanesAddsRow : OpenClaim := { program := "ytjebhdncfjijgaa", sum := "5640452c81caf355ff1f218f4286509d034b36d504fe28ab83ade327609a16af", func := "quarry/quarrylaw01.LanesAdds", spec := "lanesAdds", apart := false }
def LanesAddsSaid : Prop := lanesAddsRow.holds Try.pinned (OpenSpec.ofChange lanesAddsSpec)

/-- ITS FALSE NEIGHBOUR: 'it returns false'. Refute it at one input. -/
def lanesAddsWrong : ChangeSpec := { name := "lanesAdds", fn := fun _ => fun
  | [d1, d2] => { results := [.lit (.bool false)], args := [d1, d2] }
  | _ => none }
def LanesAddsWrongFalsely : Prop := lanesAddsRow.holds Try.pinned (OpenSpec.ofChange lanesAddsWrong)

/-- 'quarrylaw01.LanesThere': WHATEVER THE INPUT: true; the input reads as it did. -/
def lanesThereSpec : ChangeSpec := { name := "lanesThere", fn := fun _ => fun
  | [d1, d2, d3] => { results := [.lit (.bool true)], args := [d1, d2, d3] }
  | _ => none }
def lanesThereRow : OpenClaim := { program := "ytjebhdncfjijgaa", sum := "5640452c81caf355ff1f218f4286509d034b36d504fe28ab83ade327609a16af", func := "quarry/quarrylaw01.LanesThere", spec := "lanesThere", apart := false }
def LanesThereSaid : Prop := lanesThereRow.holds Try.pinned (OpenSpec.ofChange lanesThereSpec)

/-- ITS FALSE NEIGHBOUR: 'it returns false'. Refute it at one input. -/
def lanesThereWrong : ChangeSpec := { name := "lanesThere", fn := fun _ => fun
  | [d1, d2, d3] => { results := [.lit (.bool false)], args := [d1, d2, d3] }
  | _ => none }
def LanesThereWrongFalsely : Prop := lanesThereRow.holds Try.pinned (OpenSpec.ofChange lanesThereWrong)

/-- 'quarrylaw01.LanesParts': WHATEVER THE INPUT: true; the input reads as it did. -/
def lanesPartsSpec : ChangeSpec := { name := "lanesParts", fn := fun _ => fun
  | [d1, d2, d3] => { results := [.lit (.bool true)], args := [d1, d2, d3] }
  | _ => none }
def lanesPartsRow : OpenClaim := { program := "ytjebhdncfjijgaa", sum := "5640452c81caf355ff1f218f4286509d034b36d504fe28ab83ade327609a16af", func := "quarry/quarrylaw01.LanesParts", spec := "lanesParts", apart := false }
def LanesPartsSaid : Prop := lanesPartsRow.holds Try.pinned (OpenSpec.ofChange lanesPartsSpec)

/-- ITS FALSE NEIGHBOUR: 'it returns false'. Refute it at one input. -/
def lanesPartsWrong : ChangeSpec := { name := "lanesParts", fn := fun _ => fun
  | [d1, d2, d3] => { results := [.lit (.bool false)], args := [d1, d2, d3] }
  | _ => none }
def LanesPartsWrongFalsely : Prop := lanesPartsRow.holds Try.pinned (OpenSpec.ofChange lanesPartsWrong)

/- THE SECOND FORM. 'bulk': how many values and letters a reading holds, each counted each time it is reached (what is shared counts as often as it is met; a slice's spare places count too). A statement '..UptoSaid' is the law's where the arguments, and the package variables that the reading takes, are together of bulk at most 1048576: NARROWER than '..Said'. Prove '..Said' where nothing that the law and all that it calls make is longer than what came in: it says more and counts as full. Else prove '..UptoSaid'. A law counts once. -/
mutual
def uptoBulk {H : Type} : DataW H → Nat
  | .lit (.string bytes) => bytes.length + 1
  | .lit _ => 1
  | .nil => 1
  | .ptr d => uptoBulk d + 1
  | .slice elems spare => uptoBulkAll elems + uptoBulkAll spare + 1
  | .agg parts => uptoBulkAll parts + 1
  | .iface _ d => uptoBulk d + 1
  | .map entries => uptoBulkEntries entries + 1
  | .held _ => 1
def uptoBulkAll {H : Type} : List (DataW H) → Nat
  | [] => 0
  | d :: r => uptoBulk d + uptoBulkAll r
def uptoBulkEntries {H : Type} : List (Lit × DataW H) → Nat
  | [] => 0
  | x :: r => uptoBulkEntry x + uptoBulkEntries r
def uptoBulkEntry {H : Type} : Lit × DataW H → Nat
  | (.string bytes, d) => bytes.length + uptoBulk d + 1
  | (_, d) => uptoBulk d + 1
 end
def uptoSmall : (H : Type) → List (DataW H) → Bool := fun _ ds => decide (uptoBulkAll ds ≤ 1048576)
def OpenSpec.upto (s : _root_.Go.ChangeSpec) : _root_.Go.OpenSpec := { _root_.Go.OpenSpec.ofChange s with cond := some uptoSmall }

/-- 'quarrylaw01.LanesSums', WHERE WHAT IT READS IS OF BULK AT MOST 1048576: true; the input reads as it did. -/
def lanesSumsUptoRow : OpenClaim := { program := "ytjebhdncfjijgaa", sum := "5640452c81caf355ff1f218f4286509d034b36d504fe28ab83ade327609a16af", func := "quarry/quarrylaw01.LanesSums", spec := "lanesSums", apart := false, narrowed := true }
def LanesSumsUptoSaid : Prop := lanesSumsUptoRow.holds Try.pinned (OpenSpec.upto lanesSumsSpec)

/-- 'quarrylaw01.LanesBetween', WHERE WHAT IT READS IS OF BULK AT MOST 1048576: true; the input reads as it did. -/
def lanesBetweenUptoRow : OpenClaim := { program := "ytjebhdncfjijgaa", sum := "5640452c81caf355ff1f218f4286509d034b36d504fe28ab83ade327609a16af", func := "quarry/quarrylaw01.LanesBetween", spec := "lanesBetween", apart := false, narrowed := true }
def LanesBetweenUptoSaid : Prop := lanesBetweenUptoRow.holds Try.pinned (OpenSpec.upto lanesBetweenSpec)

/-- 'quarrylaw01.LanesEquals', WHERE WHAT IT READS IS OF BULK AT MOST 1048576: true; the input reads as it did. -/
def lanesEqualsUptoRow : OpenClaim := { program := "ytjebhdncfjijgaa", sum := "5640452c81caf355ff1f218f4286509d034b36d504fe28ab83ade327609a16af", func := "quarry/quarrylaw01.LanesEquals", spec := "lanesEquals", apart := false, narrowed := true }
def LanesEqualsUptoSaid : Prop := lanesEqualsUptoRow.holds Try.pinned (OpenSpec.upto lanesEqualsSpec)

/-- 'quarrylaw01.LanesPacks', WHERE WHAT IT READS IS OF BULK AT MOST 1048576: true; the input reads as it did. -/
def lanesPacksUptoRow : OpenClaim := { program := "ytjebhdncfjijgaa", sum := "5640452c81caf355ff1f218f4286509d034b36d504fe28ab83ade327609a16af", func := "quarry/quarrylaw01.LanesPacks", spec := "lanesPacks", apart := false, narrowed := true }
def LanesPacksUptoSaid : Prop := lanesPacksUptoRow.holds Try.pinned (OpenSpec.upto lanesPacksSpec)

/-- 'quarrylaw01.LanesLess', WHERE WHAT IT READS IS OF BULK AT MOST 1048576: true; the input reads as it did. -/
def lanesLessUptoRow : OpenClaim := { program := "ytjebhdncfjijgaa", sum := "5640452c81caf355ff1f218f4286509d034b36d504fe28ab83ade327609a16af", func := "quarry/quarrylaw01.LanesLess", spec := "lanesLess", apart := false, narrowed := true }
def LanesLessUptoSaid : Prop := lanesLessUptoRow.holds Try.pinned (OpenSpec.upto lanesLessSpec)

/-- 'quarrylaw01.LanesAdds', WHERE WHAT IT READS IS OF BULK AT MOST 1048576: true; the input reads as it did. -/
def lanesAddsUptoRow : OpenClaim := { program := "ytjebhdncfjijgaa", sum := "5640452c81caf355ff1f218f4286509d034b36d504fe28ab83ade327609a16af", func := "quarry/quarrylaw01.LanesAdds", spec := "lanesAdds", apart := false, narrowed := true }
def LanesAddsUptoSaid : Prop := lanesAddsUptoRow.holds Try.pinned (OpenSpec.upto lanesAddsSpec)

/-- 'quarrylaw01.LanesThere', WHERE WHAT IT READS IS OF BULK AT MOST 1048576: true; the input reads as it did. -/
def lanesThereUptoRow : OpenClaim := { program := "ytjebhdncfjijgaa", sum := "5640452c81caf355ff1f218f4286509d034b36d504fe28ab83ade327609a16af", func := "quarry/quarrylaw01.LanesThere", spec := "lanesThere", apart := false, narrowed := true }
def LanesThereUptoSaid : Prop := lanesThereUptoRow.holds Try.pinned (OpenSpec.upto lanesThereSpec)

/-- 'quarrylaw01.LanesParts', WHERE WHAT IT READS IS OF BULK AT MOST 1048576: true; the input reads as it did. -/
def lanesPartsUptoRow : OpenClaim := { program := "ytjebhdncfjijgaa", sum := "5640452c81caf355ff1f218f4286509d034b36d504fe28ab83ade327609a16af", func := "quarry/quarrylaw01.LanesParts", spec := "lanesParts", apart := false, narrowed := true }
def LanesPartsUptoSaid : Prop := lanesPartsUptoRow.holds Try.pinned (OpenSpec.upto lanesPartsSpec)

end Rows
end Go.Proofs.Ytjebhdncfjijgaa
