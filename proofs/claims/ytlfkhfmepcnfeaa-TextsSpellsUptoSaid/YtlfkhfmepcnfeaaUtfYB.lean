/- The walk of quarryref05.Bad. -/
import Derived.Test.YtlfkhfmepcnfeaaUtfY
namespace Go.Proofs.Ytlfkhfmepcnfeaa.Utf
set_option linter.unusedVariables false
set_option linter.unusedSimpArgs false
open Go.RowKit Go.Proofs.Ytlfkhfmepcnfeaa.Mem Go.Proofs.Ytlfkhfmepcnfeaa.Own
set_option maxHeartbeats 1000000 in
theorem rbad_w (s : ByteArray) (hs : s.size ≤ 8796093022208) (w : World) : Calls Try.prog 26 #[.string s] w fun e w' => e = .returned (.int .i64 (badF s)) ∧ Below w.heap.size w w' := by
  have HW := Lib.hid (walk_w s hs)
  go_enter Try.func26, Try.ntmps26
  go_wp2_with fail
  refine (HW.out _).mono ?_; rintro e w1 ⟨pa, pl, ca, cl, rfl, -, -, hb⟩
  go_wp2_with fail
  go_ret
  exact ⟨rfl, hb⟩
end Go.Proofs.Ytlfkhfmepcnfeaa.Utf
