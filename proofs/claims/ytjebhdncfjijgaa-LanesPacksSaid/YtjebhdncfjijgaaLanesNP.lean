/- The walk of LanesPacks, said of the values as the row hands them over. -/
import Derived.Test.YtjebhdncfjijgaaLanesN
import Derived.Test.YtjebhdncfjijgaaLanesV
namespace Go.Proofs.Ytjebhdncfjijgaa.NP
set_option linter.unusedVariables false
set_option linter.unusedSimpArgs false
open Go.RowKit Go.Proofs.Ytjebhdncfjijgaa.Lanes Go.Proofs.Ytjebhdncfjijgaa.N
theorem packs (b0 b1 b2 b3 b4 b5 b6 b7 : Nat) (hb : b0 < 256 ∧ b1 < 256 ∧ b2 < 256 ∧ b3 < 256 ∧ b4 < 256 ∧ b5 < 256 ∧ b6 < 256 ∧ b7 < 256) (x c : Int) (hx : (Lit.int .u64 x).wf = true) (hc : (Lit.int .u8 c).wf = true) (W : World) : Calls Try.prog 6 #[.agg #[.int .u8 b0, .int .u8 b1, .int .u8 b2, .int .u8 b3, .int .u8 b4, .int .u8 b5, .int .u8 b6, .int .u8 b7], .int .u64 x, .int .u8 c] W fun e w' => e = .returned (.bool true) ∧ Below W.heap.size W w' := by
  obtain ⟨x, rfl, h⟩ := as_u64 hx
  obtain ⟨c, rfl, h1⟩ := as_u8 hc
  exact packs_law b0 b1 b2 b3 b4 b5 b6 b7 x c hb h h1 W
end Go.Proofs.Ytjebhdncfjijgaa.NP
