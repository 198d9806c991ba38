/- The walk of the reference's Between, whose round is guarded. -/
import Derived.Test.YtjebhdncfjijgaaLanesW
namespace Go.Proofs.Ytjebhdncfjijgaa.Lanes
set_option linter.unusedVariables false
set_option linter.unusedSimpArgs false
open Go.RowKit Go.Proofs.Ytjebhdncfjijgaa.Bytes

def arrK (P : Nat → Bool) (k : Nat) : Array Value :=
  #[.bool (decide (0 < k) && P 0), .bool (decide (1 < k) && P 1), .bool (decide (2 < k) && P 2), .bool (decide (3 < k) && P 3), .bool (decide (4 < k) && P 4), .bool (decide (5 < k) && P 5), .bool (decide (6 < k) && P 6), .bool (decide (7 < k) && P 7)]
def isMid (x lo hi i : Nat) : Bool := decide (lo ≤ byteN x i) && decide (byteN x i ≤ hi)
set_option maxHeartbeats 2000000 in
theorem rbetween_w (x lo hi : Nat) (hx : x < 18446744073709551616) (hlo : lo < 256) (hhi : hi < 256) (w : World) : Calls Try.prog 14 #[.int .u64 x, .int .u8 lo, .int .u8 hi] w fun e w' => e = .returned (.int .u8 (bvd (isMid x lo hi) 8)) ∧ Below w.heap.size w w' := by
  go_enter Try.func14, Try.ntmps14
  go_wp2_with fail
  go_loopw [8] (fun i w' => ∃ k : Nat, k ≤ 8 ∧ i = .int .i64 k ∧ w' = w.alloc (.cells (arrK (isMid x lo hi) k) 43)) (fun i _ => 8 - (intOf i).toNat)
  case atStart => exact ⟨0, by omega, rfl, by simp [arrK]⟩
  case round =>
    obtain ⟨k, hk, rfl, rfl⟩ := hrel
    by_cases hlt : k < 8
    · have B := byteN_lt x k
      by_cases h1 : lo ≤ byteN x k
      · have hm : isMid x lo hi k = decide (byteN x k ≤ hi) := by simp [isMid, h1]
        have h1' : decide ((byteN x k : Nat) ≥ lo) = true := by simp [h1]
        have : k = 0 ∨ k = 1 ∨ k = 2 ∨ k = 3 ∨ k = 4 ∨ k = 5 ∨ k = 6 ∨ k = 7 := by omega
        have HM := Lib.hid hm; clear hm
        rcases this with rfl | rfl | rfl | rfl | rfl | rfl | rfl | rfl
        · simp only [arrK]
          go_wp2_with (go_at_call 30; refine (byte_w x 0 hx (by omega) _).mono ?_; rintro e w' ⟨rfl, rfl⟩)
          go_roundw
          case rel => exact ⟨1, by omega, rfl, by simp [arrK, HM.out]⟩
          case measure => simp [intOf]
        · simp only [arrK]
          go_wp2_with (go_at_call 30; refine (byte_w x 1 hx (by omega) _).mono ?_; rintro e w' ⟨rfl, rfl⟩)
          go_roundw
          case rel => exact ⟨2, by omega, rfl, by simp [arrK, HM.out]⟩
          case measure => simp [intOf]
        · simp only [arrK]
          go_wp2_with (go_at_call 30; refine (byte_w x 2 hx (by omega) _).mono ?_; rintro e w' ⟨rfl, rfl⟩)
          go_roundw
          case rel => exact ⟨3, by omega, rfl, by simp [arrK, HM.out]⟩
          case measure => simp [intOf]
        · simp only [arrK]
          go_wp2_with (go_at_call 30; refine (byte_w x 3 hx (by omega) _).mono ?_; rintro e w' ⟨rfl, rfl⟩)
          go_roundw
          case rel => exact ⟨4, by omega, rfl, by simp [arrK, HM.out]⟩
          case measure => simp [intOf]
        · simp only [arrK]
          go_wp2_with (go_at_call 30; refine (byte_w x 4 hx (by omega) _).mono ?_; rintro e w' ⟨rfl, rfl⟩)
          go_roundw
          case rel => exact ⟨5, by omega, rfl, by simp [arrK, HM.out]⟩
          case measure => simp [intOf]
        · simp only [arrK]
          go_wp2_with (go_at_call 30; refine (byte_w x 5 hx (by omega) _).mono ?_; rintro e w' ⟨rfl, rfl⟩)
          go_roundw
          case rel => exact ⟨6, by omega, rfl, by simp [arrK, HM.out]⟩
          case measure => simp [intOf]
        · simp only [arrK]
          go_wp2_with (go_at_call 30; refine (byte_w x 6 hx (by omega) _).mono ?_; rintro e w' ⟨rfl, rfl⟩)
          go_roundw
          case rel => exact ⟨7, by omega, rfl, by simp [arrK, HM.out]⟩
          case measure => simp [intOf]
        · simp only [arrK]
          go_wp2_with (go_at_call 30; refine (byte_w x 7 hx (by omega) _).mono ?_; rintro e w' ⟨rfl, rfl⟩)
          go_roundw
          case rel => exact ⟨8, by omega, rfl, by simp [arrK, HM.out]⟩
          case measure => simp [intOf]
      · have hm : isMid x lo hi k = false := by simp [isMid, h1]
        have h1' : decide ((byteN x k : Nat) ≥ lo) = false := by simp [h1]
        have : k = 0 ∨ k = 1 ∨ k = 2 ∨ k = 3 ∨ k = 4 ∨ k = 5 ∨ k = 6 ∨ k = 7 := by omega
        have HM := Lib.hid hm; clear hm
        rcases this with rfl | rfl | rfl | rfl | rfl | rfl | rfl | rfl
        · simp only [arrK]
          go_wp2_with (go_at_call 30; refine (byte_w x 0 hx (by omega) _).mono ?_; rintro e w' ⟨rfl, rfl⟩)
          go_roundw
          case rel => exact ⟨1, by omega, rfl, by simp [arrK, HM.out]⟩
          case measure => simp [intOf]
        · simp only [arrK]
          go_wp2_with (go_at_call 30; refine (byte_w x 1 hx (by omega) _).mono ?_; rintro e w' ⟨rfl, rfl⟩)
          go_roundw
          case rel => exact ⟨2, by omega, rfl, by simp [arrK, HM.out]⟩
          case measure => simp [intOf]
        · simp only [arrK]
          go_wp2_with (go_at_call 30; refine (byte_w x 2 hx (by omega) _).mono ?_; rintro e w' ⟨rfl, rfl⟩)
          go_roundw
          case rel => exact ⟨3, by omega, rfl, by simp [arrK, HM.out]⟩
          case measure => simp [intOf]
        · simp only [arrK]
          go_wp2_with (go_at_call 30; refine (byte_w x 3 hx (by omega) _).mono ?_; rintro e w' ⟨rfl, rfl⟩)
          go_roundw
          case rel => exact ⟨4, by omega, rfl, by simp [arrK, HM.out]⟩
          case measure => simp [intOf]
        · simp only [arrK]
          go_wp2_with (go_at_call 30; refine (byte_w x 4 hx (by omega) _).mono ?_; rintro e w' ⟨rfl, rfl⟩)
          go_roundw
          case rel => exact ⟨5, by omega, rfl, by simp [arrK, HM.out]⟩
          case measure => simp [intOf]
        · simp only [arrK]
          go_wp2_with (go_at_call 30; refine (byte_w x 5 hx (by omega) _).mono ?_; rintro e w' ⟨rfl, rfl⟩)
          go_roundw
          case rel => exact ⟨6, by omega, rfl, by simp [arrK, HM.out]⟩
          case measure => simp [intOf]
        · simp only [arrK]
          go_wp2_with (go_at_call 30; refine (byte_w x 6 hx (by omega) _).mono ?_; rintro e w' ⟨rfl, rfl⟩)
          go_roundw
          case rel => exact ⟨7, by omega, rfl, by simp [arrK, HM.out]⟩
          case measure => simp [intOf]
        · simp only [arrK]
          go_wp2_with (go_at_call 30; refine (byte_w x 7 hx (by omega) _).mono ?_; rintro e w' ⟨rfl, rfl⟩)
          go_roundw
          case rel => exact ⟨8, by omega, rfl, by simp [arrK, HM.out]⟩
          case measure => simp [intOf]
    · obtain rfl : k = 8 := by omega
      simp only [arrK]
      go_wp2_with fail
      refine (bits_w (isMid x lo hi) _).mono ?_
      rintro e w' ⟨rfl, hb⟩
      go_wp2_with fail
      go_ret
      exact ⟨rfl, ((Below.refl _ _).alloc (Nat.le_refl _) _).trans (hb.mono (by simp))⟩
end Go.Proofs.Ytjebhdncfjijgaa.Lanes
