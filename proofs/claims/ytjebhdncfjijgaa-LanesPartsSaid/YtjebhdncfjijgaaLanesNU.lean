/- The walk of LanesParts, said of the integers as the row hands them over. -/
import Derived.Test.YtjebhdncfjijgaaLanesN
import Derived.Test.YtjebhdncfjijgaaLanesU
namespace Go.Proofs.Ytjebhdncfjijgaa.NU
set_option linter.unusedVariables false
set_option linter.unusedSimpArgs false
open Go.RowKit Go.Proofs.Ytjebhdncfjijgaa.Lanes Go.Proofs.Ytjebhdncfjijgaa.N
theorem parts (x lo hi : Int) (hx : (Lit.int .u64 x).wf = true) (hl : (Lit.int .u8 lo).wf = true) (hh : (Lit.int .u8 hi).wf = true) (W : World) : Calls Try.prog 10 #[.int .u64 x, .int .u8 lo, .int .u8 hi] W fun e w' => e = .returned (.bool true) ∧ Below W.heap.size W w' := by
  obtain ⟨x, rfl, h⟩ := as_u64 hx
  obtain ⟨lo, rfl, h1⟩ := as_u8 hl
  obtain ⟨hi, rfl, h2⟩ := as_u8 hh
  exact parts_law x lo hi h h1 h2 W
end Go.Proofs.Ytjebhdncfjijgaa.NU
