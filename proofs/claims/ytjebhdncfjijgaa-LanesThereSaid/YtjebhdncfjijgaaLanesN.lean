/- The walks of layer 1's laws, said of the integers as the row hands them over. -/
import Derived.Test.YtjebhdncfjijgaaLanesT
import Derived.OpenShut
namespace Go.Proofs.Ytjebhdncfjijgaa.N
set_option linter.unusedVariables false
set_option linter.unusedSimpArgs false
open Go.RowKit Go.Proofs.Ytjebhdncfjijgaa.Lanes

theorem as_u64 {x : Int} (h : (Lit.int .u64 x).wf = true) : ∃ n : Nat, x = n ∧ n < 18446744073709551616 := ⟨x.toNat, by have := bounds_u64 h; omega, by have := bounds_u64 h; omega⟩
theorem as_u8 {x : Int} (h : (Lit.int .u8 x).wf = true) : ∃ n : Nat, x = n ∧ n < 256 := ⟨x.toNat, by have := bounds_u8 h; omega, by have := bounds_u8 h; omega⟩
theorem sums (x : Int) (hx : (Lit.int .u64 x).wf = true) (W : World) : Calls Try.prog 3 #[.int .u64 x] W fun e w' => e = .returned (.bool true) ∧ Below W.heap.size W w' := by
  obtain ⟨x, rfl, h⟩ := as_u64 hx
  exact sums_law x h W
theorem between (x lo hi : Int) (hx : (Lit.int .u64 x).wf = true) (hl : (Lit.int .u8 lo).wf = true) (hh : (Lit.int .u8 hi).wf = true) (W : World) : Calls Try.prog 4 #[.int .u64 x, .int .u8 lo, .int .u8 hi] W fun e w' => e = .returned (.bool true) ∧ Below W.heap.size W w' := by
  obtain ⟨x, rfl, h⟩ := as_u64 hx
  obtain ⟨lo, rfl, h1⟩ := as_u8 hl
  obtain ⟨hi, rfl, h2⟩ := as_u8 hh
  exact between_law x lo hi h h1 h2 W
theorem equals (x c : Int) (hx : (Lit.int .u64 x).wf = true) (hc : (Lit.int .u8 c).wf = true) (W : World) : Calls Try.prog 5 #[.int .u64 x, .int .u8 c] W fun e w' => e = .returned (.bool true) ∧ Below W.heap.size W w' := by
  obtain ⟨x, rfl, h⟩ := as_u64 hx
  obtain ⟨c, rfl, h1⟩ := as_u8 hc
  exact equals_law x c h h1 W
theorem less (x c : Int) (hx : (Lit.int .u64 x).wf = true) (hc : (Lit.int .i8 c).wf = true) (W : World) : Calls Try.prog 7 #[.int .u64 x, .int .i8 c] W fun e w' => e = .returned (.bool true) ∧ Below W.heap.size W w' := by
  obtain ⟨x, rfl, h⟩ := as_u64 hx
  have := bounds_i8 hc
  exact less_law x c h (by omega) (by omega) W
theorem adds (x c : Int) (hx : (Lit.int .u64 x).wf = true) (hc : (Lit.int .u8 c).wf = true) (W : World) : Calls Try.prog 8 #[.int .u64 x, .int .u8 c] W fun e w' => e = .returned (.bool true) ∧ Below W.heap.size W w' := by
  obtain ⟨x, rfl, h⟩ := as_u64 hx
  obtain ⟨c, rfl, h1⟩ := as_u8 hc
  exact adds_law x c h h1 W
end Go.Proofs.Ytjebhdncfjijgaa.N
