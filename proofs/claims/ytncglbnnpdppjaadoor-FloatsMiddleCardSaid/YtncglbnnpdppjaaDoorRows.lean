/-
  NARROWER THAN 'FOR EVERY INPUT', by the rows' own cells (each row's printed sentence says how): FloatsOf: laid · FloatsShort: laid · FloatsExact: laid · FloatsBetween: laid · FloatsBack: laid · FloatsRise: laid · FloatsNearest: laid · FloatsMiddle: laid.
  DERIVED. THE GIVEN ROWS OF THIS SEAT. 8 by the template 'for every input the law returns true; each argument reads behind the call as it read before'; 0 by the template 'total and deterministic' (their statements: YtncglbnnpdppjaaDoorTotals.lean).
  GIVEN WITH THE SEED: the statements are not yours to turn. If you find one false, say at which input.
  Laid BY PROGRAM, IN A SANDBOX (cutbox-rows.mjs): the forced cells as the released guide's own fill.sh prints them over the translation dfa67c4f6cd9f421… (all of the seat's roots in one cut). By AI agents, Wed Nov 11 2026. No macro, syntax, notation, axiom, sorry.
-/
import Derived.Test.YtncglbnnpdppjaaDoorChecked
import GoSem.PinnedTables
import GoSem.Claim
import GoSem.ClaimJoined
import GoSem.ClaimMapViews
import Derived.JoinedTies
import Derived.KernelRfl
namespace Go.Proofs.YtncglbnnpdppjaaDoor
/- THE CELL 'sum', in the pinned program and in every row, IS THE sha256 OF THE DUMP (.gsa) THAT YtncglbnnpdppjaaDoorProg.lean LOADS. Nothing in Lean hashes anything: it is a label: what it is worth is what the hold of that sum in a sandbox is worth. -/
noncomputable def Tryd.pinned : Pinned := { name := "ytncglbnnpdppjaadoor", sum := "dfa67c4f6cd9f421bb4ab059fe73609d3403b580cc93d6293cdc3c1ef6c89d80", checked := Tryd.checked }
namespace Rows
def none {H : Type} : Left H := { results := [], args := [] }

/- WHAT THE LISTED PACKAGE-LEVEL VARIABLES READ AS WHEN THE CALL BEGINS. Each datum BY PROGRAM (the guide's laid-datum.mjs) off the statement by which the dump's own 'gosem.cut.vars' lays the variable. In a bare row this is a premise. The card (YtncglbnnpdppjaaDoorCards.lean) ties it to the program's text. -/
def laid_unicode_utf8_acceptRanges {H : Type} : DataW H := .agg [.agg [.lit (.int .u8 128), .lit (.int .u8 191)], .agg [.lit (.int .u8 160), .lit (.int .u8 191)], .agg [.lit (.int .u8 128), .lit (.int .u8 159)], .agg [.lit (.int .u8 144), .lit (.int .u8 191)], .agg [.lit (.int .u8 128), .lit (.int .u8 143)], .agg [.lit (.int .u8 0), .lit (.int .u8 0)], .agg [.lit (.int .u8 0), .lit (.int .u8 0)], .agg [.lit (.int .u8 0), .lit (.int .u8 0)], .agg [.lit (.int .u8 0), .lit (.int .u8 0)], .agg [.lit (.int .u8 0), .lit (.int .u8 0)], .agg [.lit (.int .u8 0), .lit (.int .u8 0)], .agg [.lit (.int .u8 0), .lit (.int .u8 0)], .agg [.lit (.int .u8 0), .lit (.int .u8 0)], .agg [.lit (.int .u8 0), .lit (.int .u8 0)], .agg [.lit (.int .u8 0), .lit (.int .u8 0)], .agg [.lit (.int .u8 0), .lit (.int .u8 0)]]
/-- One of Go's own tables, pinned by name: the form's constant. -/
def laid_unicode_utf8_first : DataW Unit := Go.Pinned.utf8First

/-- 'quarrylaw13.FloatsOf': WHATEVER THE INPUT: true; the input reads as it did. -/
def floatsOfSpec : ChangeSpec := { name := "floatsOf", fn := fun _ => fun
  | [d] => { results := [.lit (.bool true)], args := [d] }
  | _ => none }
def floatsOfRow : OpenClaim := { program := "ytncglbnnpdppjaadoor", sum := "dfa67c4f6cd9f421bb4ab059fe73609d3403b580cc93d6293cdc3c1ef6c89d80", func := "quarry/quarrylaw13.FloatsOf", spec := "floatsOf", inPlace := ["math.Float64frombits", "math.Float32frombits", "math.Float64bits", "internal/bytealg.IndexByteString", "internal/bytealg.IndexString"], named := ["unicode/utf8.first", "unicode/utf8.acceptRanges", "internal/bytealg.MaxLen"], apart := false, laid := [("unicode/utf8.acceptRanges", laid_unicode_utf8_acceptRanges), ("unicode/utf8.first", laid_unicode_utf8_first)] }
def FloatsOfSaid : Prop := floatsOfRow.holds Tryd.pinned (OpenSpec.ofChange floatsOfSpec)

/-- ITS FALSE NEIGHBOUR: 'it returns false'. Refute it at one input. -/
def floatsOfWrong : ChangeSpec := { name := "floatsOf", fn := fun _ => fun
  | [d] => { results := [.lit (.bool false)], args := [d] }
  | _ => none }
def FloatsOfWrongFalsely : Prop := floatsOfRow.holds Tryd.pinned (OpenSpec.ofChange floatsOfWrong)

/-- 'quarrylaw13.FloatsShort': WHATEVER THE INPUT: true; the input reads as it did. -/
def floatsShortSpec : ChangeSpec := { name := "floatsShort", fn := fun _ => fun
  | [d] => { results := [.lit (.bool true)], args := [d] }
  | _ => none }
def floatsShortRow : OpenClaim := { program := "ytncglbnnpdppjaadoor", sum := "dfa67c4f6cd9f421bb4ab059fe73609d3403b580cc93d6293cdc3c1ef6c89d80", func := "quarry/quarrylaw13.FloatsShort", spec := "floatsShort", inPlace := ["math.Float32frombits", "math.Float64frombits", "math.Float64bits", "internal/bytealg.IndexByteString", "internal/bytealg.IndexString"], named := ["unicode/utf8.first", "unicode/utf8.acceptRanges", "internal/bytealg.MaxLen"], apart := false, laid := [("unicode/utf8.acceptRanges", laid_unicode_utf8_acceptRanges), ("unicode/utf8.first", laid_unicode_utf8_first)] }
def FloatsShortSaid : Prop := floatsShortRow.holds Tryd.pinned (OpenSpec.ofChange floatsShortSpec)

/-- ITS FALSE NEIGHBOUR: 'it returns false'. Refute it at one input. -/
def floatsShortWrong : ChangeSpec := { name := "floatsShort", fn := fun _ => fun
  | [d] => { results := [.lit (.bool false)], args := [d] }
  | _ => none }
def FloatsShortWrongFalsely : Prop := floatsShortRow.holds Tryd.pinned (OpenSpec.ofChange floatsShortWrong)

/-- 'quarrylaw13.FloatsExact': WHATEVER THE INPUT: true; the input reads as it did. -/
def floatsExactSpec : ChangeSpec := { name := "floatsExact", fn := fun _ => fun
  | [d] => { results := [.lit (.bool true)], args := [d] }
  | _ => none }
def floatsExactRow : OpenClaim := { program := "ytncglbnnpdppjaadoor", sum := "dfa67c4f6cd9f421bb4ab059fe73609d3403b580cc93d6293cdc3c1ef6c89d80", func := "quarry/quarrylaw13.FloatsExact", spec := "floatsExact", inPlace := ["math.Float64bits", "internal/bytealg.IndexByteString", "internal/bytealg.IndexString", "math.Float64frombits", "math.Float32frombits"], named := ["unicode/utf8.first", "unicode/utf8.acceptRanges", "internal/bytealg.MaxLen"], apart := false, laid := [("unicode/utf8.acceptRanges", laid_unicode_utf8_acceptRanges), ("unicode/utf8.first", laid_unicode_utf8_first)] }
def FloatsExactSaid : Prop := floatsExactRow.holds Tryd.pinned (OpenSpec.ofChange floatsExactSpec)

/-- ITS FALSE NEIGHBOUR: 'it returns false'. Refute it at one input. -/
def floatsExactWrong : ChangeSpec := { name := "floatsExact", fn := fun _ => fun
  | [d] => { results := [.lit (.bool false)], args := [d] }
  | _ => none }
def FloatsExactWrongFalsely : Prop := floatsExactRow.holds Tryd.pinned (OpenSpec.ofChange floatsExactWrong)

/-- 'quarrylaw13.FloatsBetween': WHATEVER THE INPUT: true; the input reads as it did. -/
def floatsBetweenSpec : ChangeSpec := { name := "floatsBetween", fn := fun _ => fun
  | [d] => { results := [.lit (.bool true)], args := [d] }
  | _ => none }
def floatsBetweenRow : OpenClaim := { program := "ytncglbnnpdppjaadoor", sum := "dfa67c4f6cd9f421bb4ab059fe73609d3403b580cc93d6293cdc3c1ef6c89d80", func := "quarry/quarrylaw13.FloatsBetween", spec := "floatsBetween", inPlace := ["math.Float64bits", "internal/bytealg.IndexByteString", "internal/bytealg.IndexString", "math.Float64frombits", "math.Float32frombits"], named := ["unicode/utf8.first", "unicode/utf8.acceptRanges", "internal/bytealg.MaxLen"], apart := false, laid := [("unicode/utf8.acceptRanges", laid_unicode_utf8_acceptRanges), ("unicode/utf8.first", laid_unicode_utf8_first)] }
def FloatsBetweenSaid : Prop := floatsBetweenRow.holds Tryd.pinned (OpenSpec.ofChange floatsBetweenSpec)

/-- ITS FALSE NEIGHBOUR: 'it returns false'. Refute it at one input. -/
def floatsBetweenWrong : ChangeSpec := { name := "floatsBetween", fn := fun _ => fun
  | [d] => { results := [.lit (.bool false)], args := [d] }
  | _ => none }
def FloatsBetweenWrongFalsely : Prop := floatsBetweenRow.holds Tryd.pinned (OpenSpec.ofChange floatsBetweenWrong)

/-- 'quarrylaw13.FloatsBack': WHATEVER THE INPUT: true; the input reads as it did. -/
def floatsBackSpec : ChangeSpec := { name := "floatsBack", fn := fun _ => fun
  | [d1, d2] => { results := [.lit (.bool true)], args := [d1, d2] }
  | _ => none }
def floatsBackRow : OpenClaim := { program := "ytncglbnnpdppjaadoor", sum := "dfa67c4f6cd9f421bb4ab059fe73609d3403b580cc93d6293cdc3c1ef6c89d80", func := "quarry/quarrylaw13.FloatsBack", spec := "floatsBack", inPlace := ["math.Float64frombits", "math.Float32frombits", "math.Float64bits", "internal/bytealg.IndexByteString", "internal/bytealg.IndexString"], named := ["unicode/utf8.first", "unicode/utf8.acceptRanges", "internal/bytealg.MaxLen"], apart := false, laid := [("unicode/utf8.acceptRanges", laid_unicode_utf8_acceptRanges), ("unicode/utf8.first", laid_unicode_utf8_first)] }
def FloatsBackSaid : Prop := floatsBackRow.holds Tryd.pinned (OpenSpec.ofChange floatsBackSpec)

/-- ITS FALSE NEIGHBOUR: 'it returns false'. Refute it at one input. -/
def floatsBackWrong : ChangeSpec := { name := "floatsBack", fn := fun _ => fun
  | [d1, d2] => { results := [.lit (.bool false)], args := [d1, d2] }
  | _ => none }
def FloatsBackWrongFalsely : Prop := floatsBackRow.holds Tryd.pinned (OpenSpec.ofChange floatsBackWrong)

/-- 'quarrylaw13.FloatsRise': WHATEVER THE INPUT: true; the input reads as it did. -/
def floatsRiseSpec : ChangeSpec := { name := "floatsRise", fn := fun _ => fun
  | [d1, d2] => { results := [.lit (.bool true)], args := [d1, d2] }
  | _ => none }
def floatsRiseRow : OpenClaim := { program := "ytncglbnnpdppjaadoor", sum := "dfa67c4f6cd9f421bb4ab059fe73609d3403b580cc93d6293cdc3c1ef6c89d80", func := "quarry/quarrylaw13.FloatsRise", spec := "floatsRise", inPlace := ["math.Float64frombits", "math.Float32frombits", "math.Float64bits", "internal/bytealg.IndexByteString", "internal/bytealg.IndexString", "internal/bytealg.abigen_runtime_cmpstring"], named := ["unicode/utf8.first", "unicode/utf8.acceptRanges", "internal/bytealg.MaxLen"], apart := false, laid := [("unicode/utf8.acceptRanges", laid_unicode_utf8_acceptRanges), ("unicode/utf8.first", laid_unicode_utf8_first)] }
def FloatsRiseSaid : Prop := floatsRiseRow.holds Tryd.pinned (OpenSpec.ofChange floatsRiseSpec)

/-- ITS FALSE NEIGHBOUR: 'it returns false'. Refute it at one input. -/
def floatsRiseWrong : ChangeSpec := { name := "floatsRise", fn := fun _ => fun
  | [d1, d2] => { results := [.lit (.bool false)], args := [d1, d2] }
  | _ => none }
def FloatsRiseWrongFalsely : Prop := floatsRiseRow.holds Tryd.pinned (OpenSpec.ofChange floatsRiseWrong)

/-- 'quarrylaw13.FloatsNearest': WHATEVER THE INPUT: true; the input reads as it did. -/
def floatsNearestSpec : ChangeSpec := { name := "floatsNearest", fn := fun _ => fun
  | [d] => { results := [.lit (.bool true)], args := [d] }
  | _ => none }
def floatsNearestRow : OpenClaim := { program := "ytncglbnnpdppjaadoor", sum := "dfa67c4f6cd9f421bb4ab059fe73609d3403b580cc93d6293cdc3c1ef6c89d80", func := "quarry/quarrylaw13.FloatsNearest", spec := "floatsNearest", inPlace := ["math.Float64frombits", "math.Float32frombits", "math.Float64bits", "internal/bytealg.IndexByteString", "internal/bytealg.IndexString", "internal/bytealg.abigen_runtime_cmpstring"], named := ["unicode/utf8.first", "unicode/utf8.acceptRanges", "internal/bytealg.MaxLen"], apart := false, laid := [("unicode/utf8.acceptRanges", laid_unicode_utf8_acceptRanges), ("unicode/utf8.first", laid_unicode_utf8_first)] }
def FloatsNearestSaid : Prop := floatsNearestRow.holds Tryd.pinned (OpenSpec.ofChange floatsNearestSpec)

/-- ITS FALSE NEIGHBOUR: 'it returns false'. Refute it at one input. -/
def floatsNearestWrong : ChangeSpec := { name := "floatsNearest", fn := fun _ => fun
  | [d] => { results := [.lit (.bool false)], args := [d] }
  | _ => none }
def FloatsNearestWrongFalsely : Prop := floatsNearestRow.holds Tryd.pinned (OpenSpec.ofChange floatsNearestWrong)

/-- 'quarrylaw13.FloatsMiddle': WHATEVER THE INPUT: true; the input reads as it did. -/
def floatsMiddleSpec : ChangeSpec := { name := "floatsMiddle", fn := fun _ => fun
  | [d] => { results := [.lit (.bool true)], args := [d] }
  | _ => none }
def floatsMiddleRow : OpenClaim := { program := "ytncglbnnpdppjaadoor", sum := "dfa67c4f6cd9f421bb4ab059fe73609d3403b580cc93d6293cdc3c1ef6c89d80", func := "quarry/quarrylaw13.FloatsMiddle", spec := "floatsMiddle", inPlace := ["math.Float64frombits", "math.Float32frombits", "math.Float64bits", "internal/bytealg.IndexByteString", "internal/bytealg.IndexString", "internal/bytealg.abigen_runtime_cmpstring"], named := ["unicode/utf8.first", "unicode/utf8.acceptRanges", "internal/bytealg.MaxLen"], apart := false, laid := [("unicode/utf8.acceptRanges", laid_unicode_utf8_acceptRanges), ("unicode/utf8.first", laid_unicode_utf8_first)] }
def FloatsMiddleSaid : Prop := floatsMiddleRow.holds Tryd.pinned (OpenSpec.ofChange floatsMiddleSpec)

/-- ITS FALSE NEIGHBOUR: 'it returns false'. Refute it at one input. -/
def floatsMiddleWrong : ChangeSpec := { name := "floatsMiddle", fn := fun _ => fun
  | [d] => { results := [.lit (.bool false)], args := [d] }
  | _ => none }
def FloatsMiddleWrongFalsely : Prop := floatsMiddleRow.holds Tryd.pinned (OpenSpec.ofChange floatsMiddleWrong)

/- THE SECOND FORM. 'bulk': how many values and letters a reading holds, each counted each time it is reached (what is shared counts as often as it is met; a slice's spare places count too). A statement '..UptoSaid' is the law's where the arguments, and the package variables that the reading takes, are together of bulk at most 1048576: NARROWER than '..Said'. Prove '..Said' where nothing that the law and all that it calls make is longer than what came in: it says more and counts as full. Else prove '..UptoSaid'. A law counts once. -/
mutual
def uptoBulk {H : Type} : DataW H → Nat
  | .lit (.string bytes) => bytes.length + 1
  | .lit _ => 1
  | .nil => 1
  | .ptr d => uptoBulk d + 1
  | .slice elems spare => uptoBulkAll elems + uptoBulkAll spare + 1
  | .agg parts => uptoBulkAll parts + 1
  | .iface _ d => uptoBulk d + 1
  | .map entries => uptoBulkEntries entries + 1
  | .held _ => 1
def uptoBulkAll {H : Type} : List (DataW H) → Nat
  | [] => 0
  | d :: r => uptoBulk d + uptoBulkAll r
def uptoBulkEntries {H : Type} : List (Lit × DataW H) → Nat
  | [] => 0
  | x :: r => uptoBulkEntry x + uptoBulkEntries r
def uptoBulkEntry {H : Type} : Lit × DataW H → Nat
  | (.string bytes, d) => bytes.length + uptoBulk d + 1
  | (_, d) => uptoBulk d + 1
 end
def uptoSmall : (H : Type) → List (DataW H) → Bool := fun _ ds => decide (uptoBulkAll ds ≤ 1048576)
def OpenSpec.upto (s : _root_.Go.ChangeSpec) : _root_.Go.OpenSpec := { _root_.Go.OpenSpec.ofChange s with cond := some uptoSmall }

/-- 'quarrylaw13.FloatsOf', WHERE WHAT IT READS IS OF BULK AT MOST 1048576: true; the input reads as it did. -/
def floatsOfUptoRow : OpenClaim := { program := "ytncglbnnpdppjaadoor", sum := "dfa67c4f6cd9f421bb4ab059fe73609d3403b580cc93d6293cdc3c1ef6c89d80", func := "quarry/quarrylaw13.FloatsOf", spec := "floatsOf", inPlace := ["math.Float64frombits", "math.Float32frombits", "math.Float64bits", "internal/bytealg.IndexByteString", "internal/bytealg.IndexString"], named := ["unicode/utf8.first", "unicode/utf8.acceptRanges", "internal/bytealg.MaxLen"], apart := false, laid := [("unicode/utf8.acceptRanges", laid_unicode_utf8_acceptRanges), ("unicode/utf8.first", laid_unicode_utf8_first)], narrowed := true }
def FloatsOfUptoSaid : Prop := floatsOfUptoRow.holds Tryd.pinned (OpenSpec.upto floatsOfSpec)

/-- 'quarrylaw13.FloatsShort', WHERE WHAT IT READS IS OF BULK AT MOST 1048576: true; the input reads as it did. -/
def floatsShortUptoRow : OpenClaim := { program := "ytncglbnnpdppjaadoor", sum := "dfa67c4f6cd9f421bb4ab059fe73609d3403b580cc93d6293cdc3c1ef6c89d80", func := "quarry/quarrylaw13.FloatsShort", spec := "floatsShort", inPlace := ["math.Float32frombits", "math.Float64frombits", "math.Float64bits", "internal/bytealg.IndexByteString", "internal/bytealg.IndexString"], named := ["unicode/utf8.first", "unicode/utf8.acceptRanges", "internal/bytealg.MaxLen"], apart := false, laid := [("unicode/utf8.acceptRanges", laid_unicode_utf8_acceptRanges), ("unicode/utf8.first", laid_unicode_utf8_first)], narrowed := true }
def FloatsShortUptoSaid : Prop := floatsShortUptoRow.holds Tryd.pinned (OpenSpec.upto floatsShortSpec)

/-- 'quarrylaw13.FloatsExact', WHERE WHAT IT READS IS OF BULK AT MOST 1048576: true; the input reads as it did. -/
def floatsExactUptoRow : OpenClaim := { program := "ytncglbnnpdppjaadoor", sum := "dfa67c4f6cd9f421bb4ab059fe73609d3403b580cc93d6293cdc3c1ef6c89d80", func := "quarry/quarrylaw13.FloatsExact", spec := "floatsExact", inPlace := ["math.Float64bits", "internal/bytealg.IndexByteString", "internal/bytealg.IndexString", "math.Float64frombits", "math.Float32frombits"], named := ["unicode/utf8.first", "unicode/utf8.acceptRanges", "internal/bytealg.MaxLen"], apart := false, laid := [("unicode/utf8.acceptRanges", laid_unicode_utf8_acceptRanges), ("unicode/utf8.first", laid_unicode_utf8_first)], narrowed := true }
def FloatsExactUptoSaid : Prop := floatsExactUptoRow.holds Tryd.pinned (OpenSpec.upto floatsExactSpec)

/-- 'quarrylaw13.FloatsBetween', WHERE WHAT IT READS IS OF BULK AT MOST 1048576: true; the input reads as it did. -/
def floatsBetweenUptoRow : OpenClaim := { program := "ytncglbnnpdppjaadoor", sum := "dfa67c4f6cd9f421bb4ab059fe73609d3403b580cc93d6293cdc3c1ef6c89d80", func := "quarry/quarrylaw13.FloatsBetween", spec := "floatsBetween", inPlace := ["math.Float64bits", "internal/bytealg.IndexByteString", "internal/bytealg.IndexString", "math.Float64frombits", "math.Float32frombits"], named := ["unicode/utf8.first", "unicode/utf8.acceptRanges", "internal/bytealg.MaxLen"], apart := false, laid := [("unicode/utf8.acceptRanges", laid_unicode_utf8_acceptRanges), ("unicode/utf8.first", laid_unicode_utf8_first)], narrowed := true }
def FloatsBetweenUptoSaid : Prop := floatsBetweenUptoRow.holds Tryd.pinned (OpenSpec.upto floatsBetweenSpec)

/-- 'quarrylaw13.FloatsBack', WHERE WHAT IT READS IS OF BULK AT MOST 1048576: true; the input reads as it did. -/
def floatsBackUptoRow : OpenClaim := { program := "ytncglbnnpdppjaadoor", sum := "dfa67c4f6cd9f421bb4ab059fe73609d3403b580cc93d6293cdc3c1ef6c89d80", func := "quarry/quarrylaw13.FloatsBack", spec := "floatsBack", inPlace := ["math.Float64frombits", "math.Float32frombits", "math.Float64bits", "internal/bytealg.IndexByteString", "internal/bytealg.IndexString"], named := ["unicode/utf8.first", "unicode/utf8.acceptRanges", "internal/bytealg.MaxLen"], apart := false, laid := [("unicode/utf8.acceptRanges", laid_unicode_utf8_acceptRanges), ("unicode/utf8.first", laid_unicode_utf8_first)], narrowed := true }
def FloatsBackUptoSaid : Prop := floatsBackUptoRow.holds Tryd.pinned (OpenSpec.upto floatsBackSpec)

/-- 'quarrylaw13.FloatsRise', WHERE WHAT IT READS IS OF BULK AT MOST 1048576: true; the input reads as it did. -/
def floatsRiseUptoRow : OpenClaim := { program := "ytncglbnnpdppjaadoor", sum := "dfa67c4f6cd9f421bb4ab059fe73609d3403b580cc93d6293cdc3c1ef6c89d80", func := "quarry/quarrylaw13.FloatsRise", spec := "floatsRise", inPlace := ["math.Float64frombits", "math.Float32frombits", "math.Float64bits", "internal/bytealg.IndexByteString", "internal/bytealg.IndexString", "internal/bytealg.abigen_runtime_cmpstring"], named := ["unicode/utf8.first", "unicode/utf8.acceptRanges", "internal/bytealg.MaxLen"], apart := false, laid := [("unicode/utf8.acceptRanges", laid_unicode_utf8_acceptRanges), ("unicode/utf8.first", laid_unicode_utf8_first)], narrowed := true }
def FloatsRiseUptoSaid : Prop := floatsRiseUptoRow.holds Tryd.pinned (OpenSpec.upto floatsRiseSpec)

/-- 'quarrylaw13.FloatsNearest', WHERE WHAT IT READS IS OF BULK AT MOST 1048576: true; the input reads as it did. -/
def floatsNearestUptoRow : OpenClaim := { program := "ytncglbnnpdppjaadoor", sum := "dfa67c4f6cd9f421bb4ab059fe73609d3403b580cc93d6293cdc3c1ef6c89d80", func := "quarry/quarrylaw13.FloatsNearest", spec := "floatsNearest", inPlace := ["math.Float64frombits", "math.Float32frombits", "math.Float64bits", "internal/bytealg.IndexByteString", "internal/bytealg.IndexString", "internal/bytealg.abigen_runtime_cmpstring"], named := ["unicode/utf8.first", "unicode/utf8.acceptRanges", "internal/bytealg.MaxLen"], apart := false, laid := [("unicode/utf8.acceptRanges", laid_unicode_utf8_acceptRanges), ("unicode/utf8.first", laid_unicode_utf8_first)], narrowed := true }
def FloatsNearestUptoSaid : Prop := floatsNearestUptoRow.holds Tryd.pinned (OpenSpec.upto floatsNearestSpec)

/-- 'quarrylaw13.FloatsMiddle', WHERE WHAT IT READS IS OF BULK AT MOST 1048576: true; the input reads as it did. -/
def floatsMiddleUptoRow : OpenClaim := { program := "ytncglbnnpdppjaadoor", sum := "dfa67c4f6cd9f421bb4ab059fe73609d3403b580cc93d6293cdc3c1ef6c89d80", func := "quarry/quarrylaw13.FloatsMiddle", spec := "floatsMiddle", inPlace := ["math.Float64frombits", "math.Float32frombits", "math.Float64bits", "internal/bytealg.IndexByteString", "internal/bytealg.IndexString", "internal/bytealg.abigen_runtime_cmpstring"], named := ["unicode/utf8.first", "unicode/utf8.acceptRanges", "internal/bytealg.MaxLen"], apart := false, laid := [("unicode/utf8.acceptRanges", laid_unicode_utf8_acceptRanges), ("unicode/utf8.first", laid_unicode_utf8_first)], narrowed := true }
def FloatsMiddleUptoSaid : Prop := floatsMiddleUptoRow.holds Tryd.pinned (OpenSpec.upto floatsMiddleSpec)

end Rows
end Go.Proofs.YtncglbnnpdppjaaDoor
