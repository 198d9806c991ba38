/-
  No cell of these rows narrows 'for every input' (looked for: loops, veiled, ifaces, maps, wideKeys, modest, calm, conditions, laid).
  DERIVED. THE GIVEN ROWS OF THIS SEAT. 5 by the template 'for every input the law returns true; each argument reads behind the call as it read before'; 0 by the template 'total and deterministic' (their statements: YtcgfkmjlgblkcaaTotals.lean).
  GIVEN WITH THE SEED: the statements are not yours to turn. If you find one false, say at which input.
  Laid BY PROGRAM, IN A SANDBOX (cutbox-rows.mjs): the forced cells as the released guide's own fill.sh prints them over the translation 55e147ce0731540c… (all of the seat's roots in one cut). By AI agents, Wed Nov 11 2026. No macro, syntax, notation, axiom, sorry.
-/
import Derived.Test.YtcgfkmjlgblkcaaChecked
import GoSem.Claim
import GoSem.ClaimJoined
import GoSem.ClaimMapViews
import Derived.JoinedTies
import Derived.KernelRfl
namespace Go.Proofs.Ytcgfkmjlgblkcaa
/- THE CELL 'sum', in the pinned program and in every row, IS THE sha256 OF THE DUMP (.gsa) THAT YtcgfkmjlgblkcaaProg.lean LOADS. Nothing in Lean hashes anything: it is a label: what it is worth is what the hold of that sum in a sandbox is worth. -/
noncomputable def Try.pinned : Pinned := { name := "ytcgfkmjlgblkcaa", sum := "55e147ce0731540c3b86d208a6119de934234f0ace1e8992dfdc3b431a613e48", checked := Try.checked }
namespace Rows
def none {H : Type} : Left H := { results := [], args := [] }

/-- 'quarrylaw25.PatternCounts': WHATEVER THE INPUT: true; the input reads as it did. -/
def patternCountsSpec : ChangeSpec := { name := "patternCounts", fn := fun _ => fun
  | [d] => { results := [.lit (.bool true)], args := [d] }
  | _ => none }
def patternCountsRow : OpenClaim := { program := "ytcgfkmjlgblkcaa", sum := "55e147ce0731540c3b86d208a6119de934234f0ace1e8992dfdc3b431a613e48", func := "quarry/quarrylaw25.PatternCounts", spec := "patternCounts", unfollowed := true, recurses := true, plainKeys := false, apart := false }
def PatternCountsSaid : Prop := patternCountsRow.holds Try.pinned (OpenSpec.ofChange patternCountsSpec)

/-- ITS FALSE NEIGHBOUR: 'it returns false'. Refute it at one input. -/
def patternCountsWrong : ChangeSpec := { name := "patternCounts", fn := fun _ => fun
  | [d] => { results := [.lit (.bool false)], args := [d] }
  | _ => none }
def PatternCountsWrongFalsely : Prop := patternCountsRow.holds Try.pinned (OpenSpec.ofChange patternCountsWrong)

/-- 'quarrylaw25.PatternLimits': WHATEVER THE INPUT: true; the input reads as it did. -/
def patternLimitsSpec : ChangeSpec := { name := "patternLimits", fn := fun _ => fun
  | [] => { results := [.lit (.bool true)], args := [] }
  | _ => none }
def patternLimitsRow : OpenClaim := { program := "ytcgfkmjlgblkcaa", sum := "55e147ce0731540c3b86d208a6119de934234f0ace1e8992dfdc3b431a613e48", func := "quarry/quarrylaw25.PatternLimits", spec := "patternLimits", unfollowed := true, recurses := true, plainKeys := false, apart := false }
def PatternLimitsSaid : Prop := patternLimitsRow.holds Try.pinned (OpenSpec.ofChange patternLimitsSpec)

/-- ITS FALSE NEIGHBOUR: 'it returns false'. Refute it at one input. -/
def patternLimitsWrong : ChangeSpec := { name := "patternLimits", fn := fun _ => fun
  | [] => { results := [.lit (.bool false)], args := [] }
  | _ => none }
def PatternLimitsWrongFalsely : Prop := patternLimitsRow.holds Try.pinned (OpenSpec.ofChange patternLimitsWrong)

/-- 'quarrylaw25.PatternAgain': WHATEVER THE INPUT: true; the input reads as it did. -/
def patternAgainSpec : ChangeSpec := { name := "patternAgain", fn := fun _ => fun
  | [d1, d2, d3] => { results := [.lit (.bool true)], args := [d1, d2, d3] }
  | _ => none }
def patternAgainRow : OpenClaim := { program := "ytcgfkmjlgblkcaa", sum := "55e147ce0731540c3b86d208a6119de934234f0ace1e8992dfdc3b431a613e48", func := "quarry/quarrylaw25.PatternAgain", spec := "patternAgain", unfollowed := true, recurses := true, plainKeys := false, apart := false }
def PatternAgainSaid : Prop := patternAgainRow.holds Try.pinned (OpenSpec.ofChange patternAgainSpec)

/-- ITS FALSE NEIGHBOUR: 'it returns false'. Refute it at one input. -/
def patternAgainWrong : ChangeSpec := { name := "patternAgain", fn := fun _ => fun
  | [d1, d2, d3] => { results := [.lit (.bool false)], args := [d1, d2, d3] }
  | _ => none }
def PatternAgainWrongFalsely : Prop := patternAgainRow.holds Try.pinned (OpenSpec.ofChange patternAgainWrong)

/-- 'quarrylaw25.PatternPlays': WHATEVER THE INPUT: true; the input reads as it did. -/
def patternPlaysSpec : ChangeSpec := { name := "patternPlays", fn := fun _ => fun
  | [d] => { results := [.lit (.bool true)], args := [d] }
  | _ => none }
def patternPlaysRow : OpenClaim := { program := "ytcgfkmjlgblkcaa", sum := "55e147ce0731540c3b86d208a6119de934234f0ace1e8992dfdc3b431a613e48", func := "quarry/quarrylaw25.PatternPlays", spec := "patternPlays", unfollowed := true, recurses := true, plainKeys := false, apart := false }
def PatternPlaysSaid : Prop := patternPlaysRow.holds Try.pinned (OpenSpec.ofChange patternPlaysSpec)

/-- ITS FALSE NEIGHBOUR: 'it returns false'. Refute it at one input. -/
def patternPlaysWrong : ChangeSpec := { name := "patternPlays", fn := fun _ => fun
  | [d] => { results := [.lit (.bool false)], args := [d] }
  | _ => none }
def PatternPlaysWrongFalsely : Prop := patternPlaysRow.holds Try.pinned (OpenSpec.ofChange patternPlaysWrong)

/-- 'quarrylaw25.PatternBounds': WHATEVER THE INPUT: true; the input reads as it did. -/
def patternBoundsSpec : ChangeSpec := { name := "patternBounds", fn := fun _ => fun
  | [d1, d2] => { results := [.lit (.bool true)], args := [d1, d2] }
  | _ => none }
def patternBoundsRow : OpenClaim := { program := "ytcgfkmjlgblkcaa", sum := "55e147ce0731540c3b86d208a6119de934234f0ace1e8992dfdc3b431a613e48", func := "quarry/quarrylaw25.PatternBounds", spec := "patternBounds", unfollowed := true, recurses := true, plainKeys := false, apart := false }
def PatternBoundsSaid : Prop := patternBoundsRow.holds Try.pinned (OpenSpec.ofChange patternBoundsSpec)

/-- ITS FALSE NEIGHBOUR: 'it returns false'. Refute it at one input. -/
def patternBoundsWrong : ChangeSpec := { name := "patternBounds", fn := fun _ => fun
  | [d1, d2] => { results := [.lit (.bool false)], args := [d1, d2] }
  | _ => none }
def PatternBoundsWrongFalsely : Prop := patternBoundsRow.holds Try.pinned (OpenSpec.ofChange patternBoundsWrong)

/- THE SECOND FORM. 'bulk': how many values and letters a reading holds, each counted each time it is reached (what is shared counts as often as it is met; a slice's spare places count too). A statement '..UptoSaid' is the law's where the arguments, and the package variables that the reading takes, are together of bulk at most 1048576: NARROWER than '..Said'. Prove '..Said' where nothing that the law and all that it calls make is longer than what came in: it says more and counts as full. Else prove '..UptoSaid'. A law counts once. -/
mutual
def uptoBulk {H : Type} : DataW H → Nat
  | .lit (.string bytes) => bytes.length + 1
  | .lit _ => 1
  | .nil => 1
  | .ptr d => uptoBulk d + 1
  | .slice elems spare => uptoBulkAll elems + uptoBulkAll spare + 1
  | .agg parts => uptoBulkAll parts + 1
  | .iface _ d => uptoBulk d + 1
  | .map entries => uptoBulkEntries entries + 1
  | .held _ => 1
def uptoBulkAll {H : Type} : List (DataW H) → Nat
  | [] => 0
  | d :: r => uptoBulk d + uptoBulkAll r
def uptoBulkEntries {H : Type} : List (Lit × DataW H) → Nat
  | [] => 0
  | x :: r => uptoBulkEntry x + uptoBulkEntries r
def uptoBulkEntry {H : Type} : Lit × DataW H → Nat
  | (.string bytes, d) => bytes.length + uptoBulk d + 1
  | (_, d) => uptoBulk d + 1
 end
def uptoSmall : (H : Type) → List (DataW H) → Bool := fun _ ds => decide (uptoBulkAll ds ≤ 1048576)
def OpenSpec.upto (s : _root_.Go.ChangeSpec) : _root_.Go.OpenSpec := { _root_.Go.OpenSpec.ofChange s with cond := some uptoSmall }

/-- 'quarrylaw25.PatternCounts', WHERE WHAT IT READS IS OF BULK AT MOST 1048576: true; the input reads as it did. -/
def patternCountsUptoRow : OpenClaim := { program := "ytcgfkmjlgblkcaa", sum := "55e147ce0731540c3b86d208a6119de934234f0ace1e8992dfdc3b431a613e48", func := "quarry/quarrylaw25.PatternCounts", spec := "patternCounts", unfollowed := true, recurses := true, plainKeys := false, apart := false, narrowed := true }
def PatternCountsUptoSaid : Prop := patternCountsUptoRow.holds Try.pinned (OpenSpec.upto patternCountsSpec)

/-- 'quarrylaw25.PatternLimits', WHERE WHAT IT READS IS OF BULK AT MOST 1048576: true; the input reads as it did. -/
def patternLimitsUptoRow : OpenClaim := { program := "ytcgfkmjlgblkcaa", sum := "55e147ce0731540c3b86d208a6119de934234f0ace1e8992dfdc3b431a613e48", func := "quarry/quarrylaw25.PatternLimits", spec := "patternLimits", unfollowed := true, recurses := true, plainKeys := false, apart := false, narrowed := true }
def PatternLimitsUptoSaid : Prop := patternLimitsUptoRow.holds Try.pinned (OpenSpec.upto patternLimitsSpec)

/-- 'quarrylaw25.PatternAgain', WHERE WHAT IT READS IS OF BULK AT MOST 1048576: true; the input reads as it did. -/
def patternAgainUptoRow : OpenClaim := { program := "ytcgfkmjlgblkcaa", sum := "55e147ce0731540c3b86d208a6119de934234f0ace1e8992dfdc3b431a613e48", func := "quarry/quarrylaw25.PatternAgain", spec := "patternAgain", unfollowed := true, recurses := true, plainKeys := false, apart := false, narrowed := true }
def PatternAgainUptoSaid : Prop := patternAgainUptoRow.holds Try.pinned (OpenSpec.upto patternAgainSpec)

/-- 'quarrylaw25.PatternPlays', WHERE WHAT IT READS IS OF BULK AT MOST 1048576: true; the input reads as it did. -/
def patternPlaysUptoRow : OpenClaim := { program := "ytcgfkmjlgblkcaa", sum := "55e147ce0731540c3b86d208a6119de934234f0ace1e8992dfdc3b431a613e48", func := "quarry/quarrylaw25.PatternPlays", spec := "patternPlays", unfollowed := true, recurses := true, plainKeys := false, apart := false, narrowed := true }
def PatternPlaysUptoSaid : Prop := patternPlaysUptoRow.holds Try.pinned (OpenSpec.upto patternPlaysSpec)

/-- 'quarrylaw25.PatternBounds', WHERE WHAT IT READS IS OF BULK AT MOST 1048576: true; the input reads as it did. -/
def patternBoundsUptoRow : OpenClaim := { program := "ytcgfkmjlgblkcaa", sum := "55e147ce0731540c3b86d208a6119de934234f0ace1e8992dfdc3b431a613e48", func := "quarry/quarrylaw25.PatternBounds", spec := "patternBounds", unfollowed := true, recurses := true, plainKeys := false, apart := false, narrowed := true }
def PatternBoundsUptoSaid : Prop := patternBoundsUptoRow.holds Try.pinned (OpenSpec.upto patternBoundsSpec)

end Rows
end Go.Proofs.Ytcgfkmjlgblkcaa
