/-
  No cell of these rows narrows 'for every input' (looked for: loops, veiled, ifaces, maps, wideKeys, modest, calm, conditions, laid).
  DERIVED. THE GIVEN ROWS OF THIS SEAT. 7 by the template 'for every input the law returns true; each argument reads behind the call as it read before'; 0 by the template 'total and deterministic' (their statements: YtlfkhfmepcnfeaaTotals.lean).
  GIVEN WITH THE SEED: the statements are not yours to turn. If you find one false, say at which input.
  Laid BY PROGRAM, IN A SANDBOX (cutbox-rows.mjs): the forced cells as the released guide's own fill.sh prints them over the translation 02353c87741ce766… (all of the seat's roots in one cut). By AI agents, Wed Nov 11 2026. No macro, syntax, notation, axiom, sorry.
-/
import Derived.Test.YtlfkhfmepcnfeaaChecked
import GoSem.Claim
import GoSem.ClaimJoined
import GoSem.ClaimMapViews
import Derived.JoinedTies
import Derived.KernelRfl
namespace Go.Proofs.Ytlfkhfmepcnfeaa
/- THE CELL 'sum', in the pinned program and in every row, IS THE sha256 OF THE DUMP (.gsa) THAT YtlfkhfmepcnfeaaProg.lean LOADS. Nothing in Lean hashes anything: it is a label: what it is worth is what the hold of that sum in a sandbox is worth. -/
noncomputable def Try.pinned : Pinned := { name := "ytlfkhfmepcnfeaa", sum := "02353c87741ce7669791b6b0578c24148ee4f1e77bc46f9a8f252472c402081f", checked := Try.checked }
namespace Rows
def none {H : Type} : Left H := { results := [], args := [] }

/-- 'quarrylaw15.TextsEnds': WHATEVER THE INPUT: true; the input reads as it did. -/
def textsEndsSpec : ChangeSpec := { name := "textsEnds", fn := fun _ => fun
  | [d1, d2] => { results := [.lit (.bool true)], args := [d1, d2] }
  | _ => none }
def textsEndsRow : OpenClaim := { program := "ytlfkhfmepcnfeaa", sum := "02353c87741ce7669791b6b0578c24148ee4f1e77bc46f9a8f252472c402081f", func := "quarry/quarrylaw15.TextsEnds", spec := "textsEnds", inPlace := ["internal/bytealg.IndexByteString"], apart := false }
def TextsEndsSaid : Prop := textsEndsRow.holds Try.pinned (OpenSpec.ofChange textsEndsSpec)

/-- ITS FALSE NEIGHBOUR: 'it returns false'. Refute it at one input. -/
def textsEndsWrong : ChangeSpec := { name := "textsEnds", fn := fun _ => fun
  | [d1, d2] => { results := [.lit (.bool false)], args := [d1, d2] }
  | _ => none }
def TextsEndsWrongFalsely : Prop := textsEndsRow.holds Try.pinned (OpenSpec.ofChange textsEndsWrong)

/-- 'quarrylaw15.TextsSames': WHATEVER THE INPUT: true; the input reads as it did. -/
def textsSamesSpec : ChangeSpec := { name := "textsSames", fn := fun _ => fun
  | [d1, d2] => { results := [.lit (.bool true)], args := [d1, d2] }
  | _ => none }
def textsSamesRow : OpenClaim := { program := "ytlfkhfmepcnfeaa", sum := "02353c87741ce7669791b6b0578c24148ee4f1e77bc46f9a8f252472c402081f", func := "quarry/quarrylaw15.TextsSames", spec := "textsSames", inPlace := ["internal/bytealg.IndexByteString", "internal/abi.NoEscape"], apart := false }
def TextsSamesSaid : Prop := textsSamesRow.holds Try.pinned (OpenSpec.ofChange textsSamesSpec)

/-- ITS FALSE NEIGHBOUR: 'it returns false'. Refute it at one input. -/
def textsSamesWrong : ChangeSpec := { name := "textsSames", fn := fun _ => fun
  | [d1, d2] => { results := [.lit (.bool false)], args := [d1, d2] }
  | _ => none }
def TextsSamesWrongFalsely : Prop := textsSamesRow.holds Try.pinned (OpenSpec.ofChange textsSamesWrong)

/-- 'quarrylaw15.TextsMeans': WHATEVER THE INPUT: true; the input reads as it did. -/
def textsMeansSpec : ChangeSpec := { name := "textsMeans", fn := fun _ => fun
  | [d] => { results := [.lit (.bool true)], args := [d] }
  | _ => none }
def textsMeansRow : OpenClaim := { program := "ytlfkhfmepcnfeaa", sum := "02353c87741ce7669791b6b0578c24148ee4f1e77bc46f9a8f252472c402081f", func := "quarry/quarrylaw15.TextsMeans", spec := "textsMeans", inPlace := ["internal/bytealg.IndexByteString", "internal/abi.NoEscape"], apart := false }
def TextsMeansSaid : Prop := textsMeansRow.holds Try.pinned (OpenSpec.ofChange textsMeansSpec)

/-- ITS FALSE NEIGHBOUR: 'it returns false'. Refute it at one input. -/
def textsMeansWrong : ChangeSpec := { name := "textsMeans", fn := fun _ => fun
  | [d] => { results := [.lit (.bool false)], args := [d] }
  | _ => none }
def TextsMeansWrongFalsely : Prop := textsMeansRow.holds Try.pinned (OpenSpec.ofChange textsMeansWrong)

/-- 'quarrylaw15.TextsWrites': WHATEVER THE INPUT: true; the input reads as it did. -/
def textsWritesSpec : ChangeSpec := { name := "textsWrites", fn := fun _ => fun
  | [d] => { results := [.lit (.bool true)], args := [d] }
  | _ => none }
def textsWritesRow : OpenClaim := { program := "ytlfkhfmepcnfeaa", sum := "02353c87741ce7669791b6b0578c24148ee4f1e77bc46f9a8f252472c402081f", func := "quarry/quarrylaw15.TextsWrites", spec := "textsWrites", inPlace := ["internal/bytealg.IndexByteString", "internal/abi.NoEscape"], apart := false }
def TextsWritesSaid : Prop := textsWritesRow.holds Try.pinned (OpenSpec.ofChange textsWritesSpec)

/-- ITS FALSE NEIGHBOUR: 'it returns false'. Refute it at one input. -/
def textsWritesWrong : ChangeSpec := { name := "textsWrites", fn := fun _ => fun
  | [d] => { results := [.lit (.bool false)], args := [d] }
  | _ => none }
def TextsWritesWrongFalsely : Prop := textsWritesRow.holds Try.pinned (OpenSpec.ofChange textsWritesWrong)

/-- 'quarrylaw15.TextsSpells': WHATEVER THE INPUT: true; the input reads as it did. -/
def textsSpellsSpec : ChangeSpec := { name := "textsSpells", fn := fun _ => fun
  | [d1, d2] => { results := [.lit (.bool true)], args := [d1, d2] }
  | _ => none }
def textsSpellsRow : OpenClaim := { program := "ytlfkhfmepcnfeaa", sum := "02353c87741ce7669791b6b0578c24148ee4f1e77bc46f9a8f252472c402081f", func := "quarry/quarrylaw15.TextsSpells", spec := "textsSpells", inPlace := ["internal/bytealg.IndexByteString", "internal/abi.NoEscape"], unfollowed := true, recurses := true, apart := false }
def TextsSpellsSaid : Prop := textsSpellsRow.holds Try.pinned (OpenSpec.ofChange textsSpellsSpec)

/-- ITS FALSE NEIGHBOUR: 'it returns false'. Refute it at one input. -/
def textsSpellsWrong : ChangeSpec := { name := "textsSpells", fn := fun _ => fun
  | [d1, d2] => { results := [.lit (.bool false)], args := [d1, d2] }
  | _ => none }
def TextsSpellsWrongFalsely : Prop := textsSpellsRow.holds Try.pinned (OpenSpec.ofChange textsSpellsWrong)

/-- 'quarrylaw15.TextsJoins': WHATEVER THE INPUT: true; the input reads as it did. -/
def textsJoinsSpec : ChangeSpec := { name := "textsJoins", fn := fun _ => fun
  | [d1, d2] => { results := [.lit (.bool true)], args := [d1, d2] }
  | _ => none }
def textsJoinsRow : OpenClaim := { program := "ytlfkhfmepcnfeaa", sum := "02353c87741ce7669791b6b0578c24148ee4f1e77bc46f9a8f252472c402081f", func := "quarry/quarrylaw15.TextsJoins", spec := "textsJoins", inPlace := ["internal/bytealg.IndexByteString", "internal/abi.NoEscape"], apart := false }
def TextsJoinsSaid : Prop := textsJoinsRow.holds Try.pinned (OpenSpec.ofChange textsJoinsSpec)

/-- ITS FALSE NEIGHBOUR: 'it returns false'. Refute it at one input. -/
def textsJoinsWrong : ChangeSpec := { name := "textsJoins", fn := fun _ => fun
  | [d1, d2] => { results := [.lit (.bool false)], args := [d1, d2] }
  | _ => none }
def TextsJoinsWrongFalsely : Prop := textsJoinsRow.holds Try.pinned (OpenSpec.ofChange textsJoinsWrong)

/-- 'quarrylaw15.TextsBack': WHATEVER THE INPUT: true; the input reads as it did. -/
def textsBackSpec : ChangeSpec := { name := "textsBack", fn := fun _ => fun
  | [d1, d2] => { results := [.lit (.bool true)], args := [d1, d2] }
  | _ => none }
def textsBackRow : OpenClaim := { program := "ytlfkhfmepcnfeaa", sum := "02353c87741ce7669791b6b0578c24148ee4f1e77bc46f9a8f252472c402081f", func := "quarry/quarrylaw15.TextsBack", spec := "textsBack", inPlace := ["internal/bytealg.IndexByteString", "internal/abi.NoEscape"], apart := false }
def TextsBackSaid : Prop := textsBackRow.holds Try.pinned (OpenSpec.ofChange textsBackSpec)

/-- ITS FALSE NEIGHBOUR: 'it returns false'. Refute it at one input. -/
def textsBackWrong : ChangeSpec := { name := "textsBack", fn := fun _ => fun
  | [d1, d2] => { results := [.lit (.bool false)], args := [d1, d2] }
  | _ => none }
def TextsBackWrongFalsely : Prop := textsBackRow.holds Try.pinned (OpenSpec.ofChange textsBackWrong)

/- THE SECOND FORM. 'bulk': how many values and letters a reading holds, each counted each time it is reached (what is shared counts as often as it is met; a slice's spare places count too). A statement '..UptoSaid' is the law's where the arguments, and the package variables that the reading takes, are together of bulk at most 1048576: NARROWER than '..Said'. Prove '..Said' where nothing that the law and all that it calls make is longer than what came in: it says more and counts as full. Else prove '..UptoSaid'. A law counts once. -/
mutual
def uptoBulk {H : Type} : DataW H → Nat
  | .lit (.string bytes) => bytes.length + 1
  | .lit _ => 1
  | .nil => 1
  | .ptr d => uptoBulk d + 1
  | .slice elems spare => uptoBulkAll elems + uptoBulkAll spare + 1
  | .agg parts => uptoBulkAll parts + 1
  | .iface _ d => uptoBulk d + 1
  | .map entries => uptoBulkEntries entries + 1
  | .held _ => 1
def uptoBulkAll {H : Type} : List (DataW H) → Nat
  | [] => 0
  | d :: r => uptoBulk d + uptoBulkAll r
def uptoBulkEntries {H : Type} : List (Lit × DataW H) → Nat
  | [] => 0
  | x :: r => uptoBulkEntry x + uptoBulkEntries r
def uptoBulkEntry {H : Type} : Lit × DataW H → Nat
  | (.string bytes, d) => bytes.length + uptoBulk d + 1
  | (_, d) => uptoBulk d + 1
 end
def uptoSmall : (H : Type) → List (DataW H) → Bool := fun _ ds => decide (uptoBulkAll ds ≤ 1048576)
def OpenSpec.upto (s : _root_.Go.ChangeSpec) : _root_.Go.OpenSpec := { _root_.Go.OpenSpec.ofChange s with cond := some uptoSmall }

/-- 'quarrylaw15.TextsEnds', WHERE WHAT IT READS IS OF BULK AT MOST 1048576: true; the input reads as it did. -/
def textsEndsUptoRow : OpenClaim := { program := "ytlfkhfmepcnfeaa", sum := "02353c87741ce7669791b6b0578c24148ee4f1e77bc46f9a8f252472c402081f", func := "quarry/quarrylaw15.TextsEnds", spec := "textsEnds", inPlace := ["internal/bytealg.IndexByteString"], apart := false, narrowed := true }
def TextsEndsUptoSaid : Prop := textsEndsUptoRow.holds Try.pinned (OpenSpec.upto textsEndsSpec)

/-- 'quarrylaw15.TextsSames', WHERE WHAT IT READS IS OF BULK AT MOST 1048576: true; the input reads as it did. -/
def textsSamesUptoRow : OpenClaim := { program := "ytlfkhfmepcnfeaa", sum := "02353c87741ce7669791b6b0578c24148ee4f1e77bc46f9a8f252472c402081f", func := "quarry/quarrylaw15.TextsSames", spec := "textsSames", inPlace := ["internal/bytealg.IndexByteString", "internal/abi.NoEscape"], apart := false, narrowed := true }
def TextsSamesUptoSaid : Prop := textsSamesUptoRow.holds Try.pinned (OpenSpec.upto textsSamesSpec)

/-- 'quarrylaw15.TextsMeans', WHERE WHAT IT READS IS OF BULK AT MOST 1048576: true; the input reads as it did. -/
def textsMeansUptoRow : OpenClaim := { program := "ytlfkhfmepcnfeaa", sum := "02353c87741ce7669791b6b0578c24148ee4f1e77bc46f9a8f252472c402081f", func := "quarry/quarrylaw15.TextsMeans", spec := "textsMeans", inPlace := ["internal/bytealg.IndexByteString", "internal/abi.NoEscape"], apart := false, narrowed := true }
def TextsMeansUptoSaid : Prop := textsMeansUptoRow.holds Try.pinned (OpenSpec.upto textsMeansSpec)

/-- 'quarrylaw15.TextsWrites', WHERE WHAT IT READS IS OF BULK AT MOST 1048576: true; the input reads as it did. -/
def textsWritesUptoRow : OpenClaim := { program := "ytlfkhfmepcnfeaa", sum := "02353c87741ce7669791b6b0578c24148ee4f1e77bc46f9a8f252472c402081f", func := "quarry/quarrylaw15.TextsWrites", spec := "textsWrites", inPlace := ["internal/bytealg.IndexByteString", "internal/abi.NoEscape"], apart := false, narrowed := true }
def TextsWritesUptoSaid : Prop := textsWritesUptoRow.holds Try.pinned (OpenSpec.upto textsWritesSpec)

/-- 'quarrylaw15.TextsSpells', WHERE WHAT IT READS IS OF BULK AT MOST 1048576: true; the input reads as it did. -/
def textsSpellsUptoRow : OpenClaim := { program := "ytlfkhfmepcnfeaa", sum := "02353c87741ce7669791b6b0578c24148ee4f1e77bc46f9a8f252472c402081f", func := "quarry/quarrylaw15.TextsSpells", spec := "textsSpells", inPlace := ["internal/bytealg.IndexByteString", "internal/abi.NoEscape"], unfollowed := true, recurses := true, apart := false, narrowed := true }
def TextsSpellsUptoSaid : Prop := textsSpellsUptoRow.holds Try.pinned (OpenSpec.upto textsSpellsSpec)

/-- 'quarrylaw15.TextsJoins', WHERE WHAT IT READS IS OF BULK AT MOST 1048576: true; the input reads as it did. -/
def textsJoinsUptoRow : OpenClaim := { program := "ytlfkhfmepcnfeaa", sum := "02353c87741ce7669791b6b0578c24148ee4f1e77bc46f9a8f252472c402081f", func := "quarry/quarrylaw15.TextsJoins", spec := "textsJoins", inPlace := ["internal/bytealg.IndexByteString", "internal/abi.NoEscape"], apart := false, narrowed := true }
def TextsJoinsUptoSaid : Prop := textsJoinsUptoRow.holds Try.pinned (OpenSpec.upto textsJoinsSpec)

/-- 'quarrylaw15.TextsBack', WHERE WHAT IT READS IS OF BULK AT MOST 1048576: true; the input reads as it did. -/
def textsBackUptoRow : OpenClaim := { program := "ytlfkhfmepcnfeaa", sum := "02353c87741ce7669791b6b0578c24148ee4f1e77bc46f9a8f252472c402081f", func := "quarry/quarrylaw15.TextsBack", spec := "textsBack", inPlace := ["internal/bytealg.IndexByteString", "internal/abi.NoEscape"], apart := false, narrowed := true }
def TextsBackUptoSaid : Prop := textsBackUptoRow.holds Try.pinned (OpenSpec.upto textsBackSpec)

end Rows
end Go.Proofs.Ytlfkhfmepcnfeaa
