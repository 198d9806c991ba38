/- The walks of Same (both), and of the law TextsSames. -/
import Derived.Test.YtlfkhfmepcnfeaaUnR
namespace Go.Proofs.Ytlfkhfmepcnfeaa.Txt
set_option linter.unusedVariables false
set_option linter.unusedSimpArgs false
open Go.RowKit Go.Proofs.Ytlfkhfmepcnfeaa.Mem Go.Proofs.Ytlfkhfmepcnfeaa.Own Go.Proofs.Ytlfkhfmepcnfeaa.Utf Go.Proofs.Ytlfkhfmepcnfeaa.Bld

def sameF (raw s : ByteArray) : Bool := (unE raw == 0) && ((unB raw).toList == s.toList)
set_option maxHeartbeats 1000000 in
theorem same_w (raw s : ByteArray) (hs : raw.size ≤ 8796093022208) (w : World) : Calls Try.prog 13 #[.string raw, .string s] w fun e w' => e = .returned (.bool (sameF raw s)) ∧ Below w.heap.size w w' := by
  have HU := Lib.hid (un_w raw hs)
  go_enter Try.func13, Try.ntmps13
  go_wp2_with fail
  refine (HU.out _).mono ?_; rintro e w1 ⟨rfl, hb1⟩
  go_wp2_with fail
  all_goals
    go_ret
    refine ⟨?_, hb1⟩
    show Ending.returned (.bool _) = Ending.returned (.bool _)
    simp_all [sameF]
set_option maxHeartbeats 1000000 in
theorem rsame_w (raw s : ByteArray) (hs : raw.size ≤ 8796093022208) (w : World) : Calls Try.prog 14 #[.string raw, .string s] w fun e w' => e = .returned (.bool (sameF raw s)) ∧ Below w.heap.size w w' := by
  have HU := Lib.hid (run_w raw hs)
  go_enter Try.func14, Try.ntmps14
  go_wp2_with fail
  refine (HU.out _).mono ?_; rintro e w1 ⟨rfl, hb1⟩
  go_wp2_with fail
  all_goals
    go_ret
    refine ⟨?_, hb1⟩
    show Ending.returned (.bool _) = Ending.returned (.bool _)
    simp_all [sameF]
theorem same_u : sameF ⟨#[92, 117, 48, 48, 54, 49]⟩ ⟨#[97]⟩ = true := by decide +kernel
theorem same_as {raw s : ByteArray} {b : Bool} (h : sameF raw s = b) (hs : raw.size ≤ 8796093022208) (w : World) : Calls Try.prog 13 #[.string raw, .string s] w fun e w' => e = .returned (.bool b) ∧ Below w.heap.size w w' := h ▸ same_w raw s hs w
set_option maxHeartbeats 1000000 in
theorem sames (raw s : ByteArray) (hr : raw.size ≤ 8796093022208) (w : World) : Calls Try.prog 4 #[.string raw, .string s] w fun e w' => e = .returned (.bool true) ∧ Below w.heap.size w w' := by
  have HU := Lib.hid (run_w raw hr)
  have HS := Lib.hid (fun s => same_w raw s hr)
  have HR := Lib.hid (fun s => rsame_w raw s hr)
  have HC := Lib.hid (same_as same_u (by decide))
  go_enter Try.func4, Try.ntmps4
  go_wp2_with fail
  refine (HU.out _).mono ?_; rintro e w1 ⟨rfl, hb1⟩
  go_wp2_with fail
  refine (HS.out _ _).mono ?_; rintro e w2 ⟨rfl, hb2⟩
  go_wp2_with fail
  refine (HR.out _ _).mono ?_; rintro e w3 ⟨rfl, hb3⟩
  go_wp2_with fail
  refine (HS.out _ _).mono ?_; rintro e w4 ⟨rfl, hb4⟩
  go_wp2_with fail
  refine (HR.out _ _).mono ?_; rintro e w5 ⟨rfl, hb5⟩
  go_wp2_with fail
  refine (HC.out _).mono ?_; rintro e w6 ⟨rfl, hb6⟩
  go_wp2_with fail
  go_ret
  exact ⟨by simp, bthen (bthen (bthen (bthen (bthen hb1 hb2) hb3) hb4) hb5) hb6⟩
end Go.Proofs.Ytlfkhfmepcnfeaa.Txt
