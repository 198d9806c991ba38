/- The walks of LanesPacks and LanesThere, said of the values as the row hands them over. -/
import Derived.Test.YtjebhdncfjijgaaLanesN
import Derived.Test.YtjebhdncfjijgaaLanesV
import Derived.Test.YtjebhdncfjijgaaLanesX0
import Derived.Test.YtjebhdncfjijgaaLanesX1
import Derived.Test.YtjebhdncfjijgaaLanesX2
import Derived.Test.YtjebhdncfjijgaaLanesX3
namespace Go.Proofs.Ytjebhdncfjijgaa.NV
set_option linter.unusedVariables false
set_option linter.unusedSimpArgs false
open Go.RowKit Go.Proofs.Ytjebhdncfjijgaa.Lanes Go.Proofs.Ytjebhdncfjijgaa.N
theorem there (b0 b1 b2 b3 b4 b5 b6 b7 : Nat) (hb : b0 < 256 ∧ b1 < 256 ∧ b2 < 256 ∧ b3 < 256 ∧ b4 < 256 ∧ b5 < 256 ∧ b6 < 256 ∧ b7 < 256) (x k : Int) (hx : (Lit.int .u64 x).wf = true) (_hk : (Lit.int .i64 k).wf = true) (W : World) : Calls Try.prog 9 #[.agg #[.int .u8 b0, .int .u8 b1, .int .u8 b2, .int .u8 b3, .int .u8 b4, .int .u8 b5, .int .u8 b6, .int .u8 b7], .int .u64 x, .int .i64 k] W fun e w' => e = .returned (.bool true) ∧ Below W.heap.size W w' := by
  obtain ⟨x, rfl, h⟩ := as_u64 hx
  have hr : 0 ≤ (wrap64 (k.tmod 8 + 8)).tmod 8 ∧ (wrap64 (k.tmod 8 + 8)).tmod 8 < 8 := by
    have h1 : -8 < k.tmod 8 ∧ k.tmod 8 < 8 := ⟨by have := Int.lt_tmod_of_pos k (show (0 : Int) < 8 by omega); omega, Int.tmod_lt_of_pos k (by omega)⟩
    have h2 : wrap64 (k.tmod 8 + 8) = k.tmod 8 + 8 := by unfold wrap64; omega
    rw [h2, Int.tmod_eq_emod_of_nonneg (by omega)]
    omega
  generalize hz : (wrap64 (k.tmod 8 + 8)).tmod 8 = z at hr
  have : z = 0 ∨ z = 1 ∨ z = 2 ∨ z = 3 ∨ z = 4 ∨ z = 5 ∨ z = 6 ∨ z = 7 := by omega
  rcases this with rfl | rfl | rfl | rfl | rfl | rfl | rfl | rfl
  · exact there_0 b0 b1 b2 b3 b4 b5 b6 b7 x k hb h hz W
  · exact there_1 b0 b1 b2 b3 b4 b5 b6 b7 x k hb h hz W
  · exact there_2 b0 b1 b2 b3 b4 b5 b6 b7 x k hb h hz W
  · exact there_3 b0 b1 b2 b3 b4 b5 b6 b7 x k hb h hz W
  · exact there_4 b0 b1 b2 b3 b4 b5 b6 b7 x k hb h hz W
  · exact there_5 b0 b1 b2 b3 b4 b5 b6 b7 x k hb h hz W
  · exact there_6 b0 b1 b2 b3 b4 b5 b6 b7 x k hb h hz W
  · exact there_7 b0 b1 b2 b3 b4 b5 b6 b7 x k hb h hz W
end Go.Proofs.Ytjebhdncfjijgaa.NV
