/- The walks of awake, and of the laws TextsMeans and TextsWrites. -/
import Derived.Test.YtlfkhfmepcnfeaaUnR
import Derived.Test.YtlfkhfmepcnfeaaEscW
namespace Go.Proofs.Ytlfkhfmepcnfeaa.Txt
set_option linter.unusedVariables false
set_option linter.unusedSimpArgs false
open Go.RowKit Go.Proofs.Ytlfkhfmepcnfeaa.Mem Go.Proofs.Ytlfkhfmepcnfeaa.Own Go.Proofs.Ytlfkhfmepcnfeaa.Utf Go.Proofs.Ytlfkhfmepcnfeaa.Bld

theorem un_as {raw t : ByteArray} {e0 : Int} (h1 : unB raw = t) (h2 : unE raw = e0) (hs : raw.size ≤ 8796093022208) (w : World) : Calls Try.prog 15 #[.string raw] w fun e w' => e = .returned (.tuple #[.string t, .int .i64 e0]) ∧ Below w.heap.size w w' := by
  subst h1 h2; exact un_w raw hs w
theorem esc_as {raw t : ByteArray} {e0 : Int} (h1 : esB raw = t) (h2 : esE raw = e0) (hs : raw.size ≤ 8796093022208) (w : World) : Calls Try.prog 17 #[.string raw] w fun e w' => e = .returned (.tuple #[.string t, .int .i64 e0]) ∧ Below w.heap.size w w' := by
  subst h1 h2; exact esc_w raw hs w
theorem aw1 : unB ⟨#[97, 92, 110, 92, 117, 48, 48, 52, 49]⟩ = ⟨#[97, 10, 65]⟩ := by decide +kernel
theorem aw2 : unE ⟨#[97, 92, 110, 92, 117, 48, 48, 52, 49]⟩ = 0 := by decide +kernel
theorem aw3 : esB ⟨#[34]⟩ = ⟨#[92, 34]⟩ := by decide +kernel
theorem aw4 : esE ⟨#[34]⟩ = 0 := by decide +kernel
set_option maxHeartbeats 1000000 in
theorem awake_w (w : World) : Calls Try.prog 16 #[] w fun e w' => e = .returned (.bool true) ∧ Below w.heap.size w w' := by
  have H1 := Lib.hid (un_as aw1 aw2 (by decide))
  have H2 := Lib.hid (esc_as aw3 aw4 (by decide))
  go_enter Try.func16, Try.ntmps16
  go_wp2_with fail
  refine (H1.out _).mono ?_; rintro e w1 ⟨rfl, hb1⟩
  go_wp2_with fail
  refine (H2.out _).mono ?_; rintro e w2 ⟨rfl, hb2⟩
  go_wp2_with fail
  go_ret
  exact ⟨by simp, bthen hb1 hb2⟩
set_option maxHeartbeats 1000000 in
theorem means (raw : ByteArray) (hr : raw.size ≤ 8796093022208) (w : World) : Calls Try.prog 5 #[.string raw] w fun e w' => e = .returned (.bool true) ∧ Below w.heap.size w w' := by
  have HU := Lib.hid (un_w raw hr)
  have HR := Lib.hid (run_w raw hr)
  have HA := Lib.hid awake_w
  go_enter Try.func5, Try.ntmps5
  go_wp2_with fail
  refine (HU.out _).mono ?_; rintro e w1 ⟨rfl, hb1⟩
  go_wp2_with fail
  refine (HR.out _).mono ?_; rintro e w2 ⟨rfl, hb2⟩
  go_wp2_with fail
  refine (HA.out _).mono ?_; rintro e w3 ⟨rfl, hb3⟩
  go_wp2_with fail
  go_ret
  exact ⟨by simp, bthen (bthen hb1 hb2) hb3⟩
set_option maxHeartbeats 1000000 in
theorem writes (s : ByteArray) (hr : s.size ≤ 8796093022208) (w : World) : Calls Try.prog 6 #[.string s] w fun e w' => e = .returned (.bool true) ∧ Below w.heap.size w w' := by
  have HU := Lib.hid (esc_w s hr)
  have HR := Lib.hid (resc_w s hr)
  have HA := Lib.hid awake_w
  go_enter Try.func6, Try.ntmps6
  go_wp2_with fail
  refine (HU.out _).mono ?_; rintro e w1 ⟨rfl, hb1⟩
  go_wp2_with fail
  refine (HR.out _).mono ?_; rintro e w2 ⟨rfl, hb2⟩
  go_wp2_with fail
  refine (HA.out _).mono ?_; rintro e w3 ⟨rfl, hb3⟩
  go_wp2_with fail
  go_ret
  exact ⟨by simp, bthen (bthen hb1 hb2) hb3⟩
end Go.Proofs.Ytlfkhfmepcnfeaa.Txt
