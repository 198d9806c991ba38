/- The walk of the reference's Size (for a seat without utf8.Size). -/
import Derived.Test.YtlfkhfmepcnfeaaUtfF
namespace Go.Proofs.Ytlfkhfmepcnfeaa.Utf
set_option linter.unusedVariables false
set_option linter.unusedSimpArgs false
open Go.RowKit Go.Proofs.Ytlfkhfmepcnfeaa.Mem

def sizeF (r : Int) : Int := if r < 0 ∨ 1114111 < r ∨ (55296 ≤ r ∧ r ≤ 57343) then 0 else if r < 128 then 1 else if r < 2048 then 2 else if r < 65536 then 3 else 4
set_option maxHeartbeats 2000000 in
theorem rsize_w (r : Int) (w : World) : Calls Try.prog 55 #[.int .i32 r] w fun e w' => e = .returned (.int .i64 (sizeF r)) ∧ w = w' := by
  go_enter Try.func55, Try.ntmps55
  go_wp2_with fail
  all_goals
    go_ret
    refine ⟨?_, rfl⟩
    refine congrArg (fun x => Ending.returned (.int .i64 x)) ?_
    unfold sizeF
    repeat' split
    all_goals first | rfl | (exfalso; omega) | (exfalso; simp only [decide_eq_true_eq, decide_eq_false_iff_not, Bool.and_eq_true, Bool.or_eq_true] at *; omega)
end Go.Proofs.Ytlfkhfmepcnfeaa.Utf
