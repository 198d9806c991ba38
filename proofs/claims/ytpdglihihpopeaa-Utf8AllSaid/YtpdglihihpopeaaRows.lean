/-
  No cell of these rows narrows 'for every input' (looked for: loops, veiled, ifaces, maps, wideKeys, modest, calm, conditions, laid).
  DERIVED. THE GIVEN ROWS OF THIS SEAT. 6 by the template 'for every input the law returns true; each argument reads behind the call as it read before'; 0 by the template 'total and deterministic' (their statements: YtpdglihihpopeaaTotals.lean).
  GIVEN WITH THE SEED: the statements are not yours to turn. If you find one false, say at which input.
  Laid BY PROGRAM, IN A SANDBOX (cutbox-rows.mjs): the forced cells as the released guide's own fill.sh prints them over the translation 824c8aae2d3317b7… (all of the seat's roots in one cut). By AI agents, Wed Nov 11 2026. No macro, syntax, notation, axiom, sorry.
-/
import Derived.Test.YtpdglihihpopeaaChecked
import GoSem.Claim
import GoSem.ClaimJoined
import GoSem.ClaimMapViews
import Derived.JoinedTies
import Derived.KernelRfl
namespace Go.Proofs.Ytpdglihihpopeaa
/- THE CELL 'sum', in the pinned program and in every row, IS THE sha256 OF THE DUMP (.gsa) THAT YtpdglihihpopeaaProg.lean LOADS. Nothing in Lean hashes anything: it is a label: what it is worth is what the hold of that sum in a sandbox is worth. -/
noncomputable def Try.pinned : Pinned := { name := "ytpdglihihpopeaa", sum := "824c8aae2d3317b7715bf0930487ae2c0cdd693a47af1ce3efb10c89826fe3cd", checked := Try.checked }
namespace Rows
def none {H : Type} : Left H := { results := [], args := [] }

/-- 'quarrylaw05.Utf8Runes': WHATEVER THE INPUT: true; the input reads as it did. -/
def utf8RunesSpec : ChangeSpec := { name := "utf8Runes", fn := fun _ => fun
  | [d1, d2] => { results := [.lit (.bool true)], args := [d1, d2] }
  | _ => none }
def utf8RunesRow : OpenClaim := { program := "ytpdglihihpopeaa", sum := "824c8aae2d3317b7715bf0930487ae2c0cdd693a47af1ce3efb10c89826fe3cd", func := "quarry/quarrylaw05.Utf8Runes", spec := "utf8Runes", unfollowed := true, recurses := true, apart := false }
def Utf8RunesSaid : Prop := utf8RunesRow.holds Try.pinned (OpenSpec.ofChange utf8RunesSpec)

/-- ITS FALSE NEIGHBOUR: 'it returns false'. Refute it at one input. -/
def utf8RunesWrong : ChangeSpec := { name := "utf8Runes", fn := fun _ => fun
  | [d1, d2] => { results := [.lit (.bool false)], args := [d1, d2] }
  | _ => none }
def Utf8RunesWrongFalsely : Prop := utf8RunesRow.holds Try.pinned (OpenSpec.ofChange utf8RunesWrong)

/-- 'quarrylaw05.Utf8Farthest': WHATEVER THE INPUT: true; the input reads as it did. -/
def utf8FarthestSpec : ChangeSpec := { name := "utf8Farthest", fn := fun _ => fun
  | [d] => { results := [.lit (.bool true)], args := [d] }
  | _ => none }
def utf8FarthestRow : OpenClaim := { program := "ytpdglihihpopeaa", sum := "824c8aae2d3317b7715bf0930487ae2c0cdd693a47af1ce3efb10c89826fe3cd", func := "quarry/quarrylaw05.Utf8Farthest", spec := "utf8Farthest", apart := false }
def Utf8FarthestSaid : Prop := utf8FarthestRow.holds Try.pinned (OpenSpec.ofChange utf8FarthestSpec)

/-- ITS FALSE NEIGHBOUR: 'it returns false'. Refute it at one input. -/
def utf8FarthestWrong : ChangeSpec := { name := "utf8Farthest", fn := fun _ => fun
  | [d] => { results := [.lit (.bool false)], args := [d] }
  | _ => none }
def Utf8FarthestWrongFalsely : Prop := utf8FarthestRow.holds Try.pinned (OpenSpec.ofChange utf8FarthestWrong)

/-- 'quarrylaw05.Utf8Pieces': WHATEVER THE INPUT: true; the input reads as it did. -/
def utf8PiecesSpec : ChangeSpec := { name := "utf8Pieces", fn := fun _ => fun
  | [d] => { results := [.lit (.bool true)], args := [d] }
  | _ => none }
def utf8PiecesRow : OpenClaim := { program := "ytpdglihihpopeaa", sum := "824c8aae2d3317b7715bf0930487ae2c0cdd693a47af1ce3efb10c89826fe3cd", func := "quarry/quarrylaw05.Utf8Pieces", spec := "utf8Pieces", apart := false }
def Utf8PiecesSaid : Prop := utf8PiecesRow.holds Try.pinned (OpenSpec.ofChange utf8PiecesSpec)

/-- ITS FALSE NEIGHBOUR: 'it returns false'. Refute it at one input. -/
def utf8PiecesWrong : ChangeSpec := { name := "utf8Pieces", fn := fun _ => fun
  | [d] => { results := [.lit (.bool false)], args := [d] }
  | _ => none }
def Utf8PiecesWrongFalsely : Prop := utf8PiecesRow.holds Try.pinned (OpenSpec.ofChange utf8PiecesWrong)

/-- 'quarrylaw05.Utf8Sizes': WHATEVER THE INPUT: true; the input reads as it did. -/
def utf8SizesSpec : ChangeSpec := { name := "utf8Sizes", fn := fun _ => fun
  | [d] => { results := [.lit (.bool true)], args := [d] }
  | _ => none }
def utf8SizesRow : OpenClaim := { program := "ytpdglihihpopeaa", sum := "824c8aae2d3317b7715bf0930487ae2c0cdd693a47af1ce3efb10c89826fe3cd", func := "quarry/quarrylaw05.Utf8Sizes", spec := "utf8Sizes", apart := false }
def Utf8SizesSaid : Prop := utf8SizesRow.holds Try.pinned (OpenSpec.ofChange utf8SizesSpec)

/-- ITS FALSE NEIGHBOUR: 'it returns false'. Refute it at one input. -/
def utf8SizesWrong : ChangeSpec := { name := "utf8Sizes", fn := fun _ => fun
  | [d] => { results := [.lit (.bool false)], args := [d] }
  | _ => none }
def Utf8SizesWrongFalsely : Prop := utf8SizesRow.holds Try.pinned (OpenSpec.ofChange utf8SizesWrong)

/-- 'quarrylaw05.Utf8All': WHATEVER THE INPUT: true; the input reads as it did. -/
def utf8AllSpec : ChangeSpec := { name := "utf8All", fn := fun _ => fun
  | [] => { results := [.lit (.bool true)], args := [] }
  | _ => none }
def utf8AllRow : OpenClaim := { program := "ytpdglihihpopeaa", sum := "824c8aae2d3317b7715bf0930487ae2c0cdd693a47af1ce3efb10c89826fe3cd", func := "quarry/quarrylaw05.Utf8All", spec := "utf8All", unfollowed := true, recurses := true, apart := false }
def Utf8AllSaid : Prop := utf8AllRow.holds Try.pinned (OpenSpec.ofChange utf8AllSpec)

/-- ITS FALSE NEIGHBOUR: 'it returns false'. Refute it at one input. -/
def utf8AllWrong : ChangeSpec := { name := "utf8All", fn := fun _ => fun
  | [] => { results := [.lit (.bool false)], args := [] }
  | _ => none }
def Utf8AllWrongFalsely : Prop := utf8AllRow.holds Try.pinned (OpenSpec.ofChange utf8AllWrong)

/-- 'quarrylaw05.Utf8Back': WHATEVER THE INPUT: true; the input reads as it did. -/
def utf8BackSpec : ChangeSpec := { name := "utf8Back", fn := fun _ => fun
  | [d] => { results := [.lit (.bool true)], args := [d] }
  | _ => none }
def utf8BackRow : OpenClaim := { program := "ytpdglihihpopeaa", sum := "824c8aae2d3317b7715bf0930487ae2c0cdd693a47af1ce3efb10c89826fe3cd", func := "quarry/quarrylaw05.Utf8Back", spec := "utf8Back", unfollowed := true, recurses := true, apart := false }
def Utf8BackSaid : Prop := utf8BackRow.holds Try.pinned (OpenSpec.ofChange utf8BackSpec)

/-- ITS FALSE NEIGHBOUR: 'it returns false'. Refute it at one input. -/
def utf8BackWrong : ChangeSpec := { name := "utf8Back", fn := fun _ => fun
  | [d] => { results := [.lit (.bool false)], args := [d] }
  | _ => none }
def Utf8BackWrongFalsely : Prop := utf8BackRow.holds Try.pinned (OpenSpec.ofChange utf8BackWrong)

/- THE SECOND FORM. 'bulk': how many values and letters a reading holds, each counted each time it is reached (what is shared counts as often as it is met; a slice's spare places count too). A statement '..UptoSaid' is the law's where the arguments, and the package variables that the reading takes, are together of bulk at most 1048576: NARROWER than '..Said'. Prove '..Said' where nothing that the law and all that it calls make is longer than what came in: it says more and counts as full. Else prove '..UptoSaid'. A law counts once. -/
mutual
def uptoBulk {H : Type} : DataW H → Nat
  | .lit (.string bytes) => bytes.length + 1
  | .lit _ => 1
  | .nil => 1
  | .ptr d => uptoBulk d + 1
  | .slice elems spare => uptoBulkAll elems + uptoBulkAll spare + 1
  | .agg parts => uptoBulkAll parts + 1
  | .iface _ d => uptoBulk d + 1
  | .map entries => uptoBulkEntries entries + 1
  | .held _ => 1
def uptoBulkAll {H : Type} : List (DataW H) → Nat
  | [] => 0
  | d :: r => uptoBulk d + uptoBulkAll r
def uptoBulkEntries {H : Type} : List (Lit × DataW H) → Nat
  | [] => 0
  | x :: r => uptoBulkEntry x + uptoBulkEntries r
def uptoBulkEntry {H : Type} : Lit × DataW H → Nat
  | (.string bytes, d) => bytes.length + uptoBulk d + 1
  | (_, d) => uptoBulk d + 1
 end
def uptoSmall : (H : Type) → List (DataW H) → Bool := fun _ ds => decide (uptoBulkAll ds ≤ 1048576)
def OpenSpec.upto (s : _root_.Go.ChangeSpec) : _root_.Go.OpenSpec := { _root_.Go.OpenSpec.ofChange s with cond := some uptoSmall }

/-- 'quarrylaw05.Utf8Runes', WHERE WHAT IT READS IS OF BULK AT MOST 1048576: true; the input reads as it did. -/
def utf8RunesUptoRow : OpenClaim := { program := "ytpdglihihpopeaa", sum := "824c8aae2d3317b7715bf0930487ae2c0cdd693a47af1ce3efb10c89826fe3cd", func := "quarry/quarrylaw05.Utf8Runes", spec := "utf8Runes", unfollowed := true, recurses := true, apart := false, narrowed := true }
def Utf8RunesUptoSaid : Prop := utf8RunesUptoRow.holds Try.pinned (OpenSpec.upto utf8RunesSpec)

/-- 'quarrylaw05.Utf8Farthest', WHERE WHAT IT READS IS OF BULK AT MOST 1048576: true; the input reads as it did. -/
def utf8FarthestUptoRow : OpenClaim := { program := "ytpdglihihpopeaa", sum := "824c8aae2d3317b7715bf0930487ae2c0cdd693a47af1ce3efb10c89826fe3cd", func := "quarry/quarrylaw05.Utf8Farthest", spec := "utf8Farthest", apart := false, narrowed := true }
def Utf8FarthestUptoSaid : Prop := utf8FarthestUptoRow.holds Try.pinned (OpenSpec.upto utf8FarthestSpec)

/-- 'quarrylaw05.Utf8Pieces', WHERE WHAT IT READS IS OF BULK AT MOST 1048576: true; the input reads as it did. -/
def utf8PiecesUptoRow : OpenClaim := { program := "ytpdglihihpopeaa", sum := "824c8aae2d3317b7715bf0930487ae2c0cdd693a47af1ce3efb10c89826fe3cd", func := "quarry/quarrylaw05.Utf8Pieces", spec := "utf8Pieces", apart := false, narrowed := true }
def Utf8PiecesUptoSaid : Prop := utf8PiecesUptoRow.holds Try.pinned (OpenSpec.upto utf8PiecesSpec)

/-- 'quarrylaw05.Utf8Sizes', WHERE WHAT IT READS IS OF BULK AT MOST 1048576: true; the input reads as it did. -/
def utf8SizesUptoRow : OpenClaim := { program := "ytpdglihihpopeaa", sum := "824c8aae2d3317b7715bf0930487ae2c0cdd693a47af1ce3efb10c89826fe3cd", func := "quarry/quarrylaw05.Utf8Sizes", spec := "utf8Sizes", apart := false, narrowed := true }
def Utf8SizesUptoSaid : Prop := utf8SizesUptoRow.holds Try.pinned (OpenSpec.upto utf8SizesSpec)

/-- 'quarrylaw05.Utf8All', WHERE WHAT IT READS IS OF BULK AT MOST 1048576: true; the input reads as it did. -/
def utf8AllUptoRow : OpenClaim := { program := "ytpdglihihpopeaa", sum := "824c8aae2d3317b7715bf0930487ae2c0cdd693a47af1ce3efb10c89826fe3cd", func := "quarry/quarrylaw05.Utf8All", spec := "utf8All", unfollowed := true, recurses := true, apart := false, narrowed := true }
def Utf8AllUptoSaid : Prop := utf8AllUptoRow.holds Try.pinned (OpenSpec.upto utf8AllSpec)

/-- 'quarrylaw05.Utf8Back', WHERE WHAT IT READS IS OF BULK AT MOST 1048576: true; the input reads as it did. -/
def utf8BackUptoRow : OpenClaim := { program := "ytpdglihihpopeaa", sum := "824c8aae2d3317b7715bf0930487ae2c0cdd693a47af1ce3efb10c89826fe3cd", func := "quarry/quarrylaw05.Utf8Back", spec := "utf8Back", unfollowed := true, recurses := true, apart := false, narrowed := true }
def Utf8BackUptoSaid : Prop := utf8BackUptoRow.holds Try.pinned (OpenSpec.upto utf8BackSpec)

end Rows
end Go.Proofs.Ytpdglihihpopeaa
