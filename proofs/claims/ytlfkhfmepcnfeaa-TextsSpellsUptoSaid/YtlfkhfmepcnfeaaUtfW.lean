/- The walk of quarryref05.Begins. -/
import Derived.Test.YtlfkhfmepcnfeaaUtfV
namespace Go.Proofs.Ytlfkhfmepcnfeaa.Utf
set_option linter.unusedVariables false
set_option linter.unusedSimpArgs false
open Go.RowKit Go.Proofs.Ytlfkhfmepcnfeaa.Mem
set_option maxHeartbeats 2000000 in
set_option maxRecDepth 100000 in
theorem begins_yes (v : Value) (n cap : Nat) (z lo hi c0 : Int) (hlo : 0 ≤ lo) (hhi : hi ≤ 2147483000) (h0 : lo ≤ c0) (h1 : c0 ≤ hi) (hz : sizeF c0 = z) (hz0 : z ≠ 0) (hno : ∀ c, lo ≤ c → c < c0 → sizeF c ≠ z) (w : World) (p : Option Addr) (hv : v = .slice p n cap)
    (HS : ∀ w1 : World, w = w1 → Calls Try.prog 54 #[v] w1 fun e w' => e = .returned (.tuple #[.int .i64 z, .int .i64 lo, .int .i64 hi]) ∧ w1 = w') :
    Calls Try.prog 50 #[v] w fun e w' => e = .returned (.tuple #[.bool true, .int .i32 c0, .bool ((n : Int) == z)]) ∧ w = w' := by
  subst hv
  have HZ := Lib.hid hz; have HNO := Lib.hid hno; have H0 := Lib.hid hz0
  have HS' := Lib.hid (HS w rfl)
  clear hz hno hz0 HS
  go_enter Try.func50, Try.ntmps50
  go_wp2_with fail
  refine HS'.out.mono ?_; rintro e w' ⟨rfl, rfl⟩
  go_wp2_with fail
  go_loop [8] (fun c => ∃ k : Int, lo ≤ k ∧ k ≤ c0 ∧ c = .int .i64 k) (fun c => (c0 + 1 - intOf c).toNat)
  case atStart => exact ⟨lo, by omega, h0, rfl⟩
  case round =>
    obtain ⟨k, hk0, hk1, rfl⟩ := hrel
    have t0 : decide (k ≤ hi) = true := by simp; omega
    have hw : IntKind.i32.wrap k = k := IntWalk.i32_in _ (by omega)
    by_cases hk : k = c0
    · subst hk
      have t1 : (sizeF k == z) = true := by simpa using HZ.out
      go_wp2_with (refine (rsize_w k _).mono ?_; rintro e w1 ⟨rfl, rfl⟩)
      go_ret3
      exact ⟨rfl, rfl⟩
    · have hlt : k < c0 := by omega
      have t1 : (sizeF k == z) = false := by simpa using HNO.out k hk0 hlt
      clear hk
      by_cases hj : k = 55296 ∧ 57343 < hi
      · obtain ⟨rfl, hj2⟩ := hj
        have t2 : decide (hi > 57343) = true := by simp; omega
        have hc0 : 57344 ≤ c0 := by
          by_cases h : c0 < 57344
          · have hs0 : sizeF c0 = 0 := by unfold sizeF; rw [if_pos (by omega)]
            exact absurd (HZ.out ▸ hs0) H0.out
          · omega
        go_wp2_with (refine (rsize_w 55296 _).mono ?_; rintro e w1 ⟨rfl, rfl⟩)
        go_round
        case rel => exact ⟨57344, by omega, hc0, rfl⟩
        case measure => simp [intOf]; omega
      · have t2 : ((k == 55296) && decide (hi > 57343)) = false := by
          rw [Bool.and_eq_false_iff]
          by_cases e : k = 55296
          · right; simp; omega
          · left; simpa using e
        by_cases e : k = 55296
        · have t3 : (k == 55296) = true := by simpa using e
          have t4 : decide (hi > 57343) = false := by simp; omega
          clear t2 e hj
          go_wp2_with (refine (rsize_w k _).mono ?_; rintro e w1 ⟨rfl, rfl⟩)
          go_round
          case rel => exact ⟨k + 1, by omega, by omega, rfl⟩
          case measure => simp [intOf]; omega
        · have t3 : (k == 55296) = false := by simpa using e
          clear t2 e hj
          go_wp2_with (refine (rsize_w k _).mono ?_; rintro e w1 ⟨rfl, rfl⟩)
          go_round
          case rel => exact ⟨k + 1, by omega, by omega, rfl⟩
          case measure => simp [intOf]; omega
set_option maxHeartbeats 2000000 in
set_option maxRecDepth 100000 in
theorem begins_no (v : Value) (n cap : Nat) (z lo hi : Int) (hlo : 0 ≤ lo) (hhi : hi ≤ 2147483000) (hlh : lo ≤ hi + 1) (hno : ∀ c, lo ≤ c → c ≤ hi → sizeF c ≠ z) (w : World) (p : Option Addr) (hv : v = .slice p n cap)
    (HS : ∀ w1 : World, w = w1 → Calls Try.prog 54 #[v] w1 fun e w' => e = .returned (.tuple #[.int .i64 z, .int .i64 lo, .int .i64 hi]) ∧ w1 = w') :
    Calls Try.prog 50 #[v] w fun e w' => e = .returned (.tuple #[.bool false, .int .i32 0, .bool false]) ∧ w = w' := by
  subst hv
  have HNO := Lib.hid hno
  have HS' := Lib.hid (HS w rfl)
  clear hno HS
  go_enter Try.func50, Try.ntmps50
  go_wp2_with fail
  refine HS'.out.mono ?_; rintro e w' ⟨rfl, rfl⟩
  go_wp2_with fail
  go_loop [8] (fun c => ∃ k : Int, lo ≤ k ∧ k ≤ hi + 1 ∧ c = .int .i64 k) (fun c => (hi + 1 - intOf c).toNat)
  case atStart => exact ⟨lo, by omega, hlh, rfl⟩
  case round =>
    obtain ⟨k, hk0, hk1, rfl⟩ := hrel
    by_cases hkh : k ≤ hi
    · have t0 : decide (k ≤ hi) = true := by simp; omega
      have hw : IntKind.i32.wrap k = k := IntWalk.i32_in _ (by omega)
      have t1 : (sizeF k == z) = false := by simpa using HNO.out k hk0 hkh
      by_cases e : k = 55296
      · have t3 : (k == 55296) = true := by simpa using e
        by_cases hj : 57343 < hi
        · have t4 : decide (hi > 57343) = true := by simp; omega
          clear e
          go_wp2_with (refine (rsize_w k _).mono ?_; rintro e w1 ⟨rfl, rfl⟩)
          go_round
          case rel => exact ⟨57344, by simp at t3; omega, by omega, rfl⟩
          case measure => simp at t3; simp [intOf]; omega
        · have t4 : decide (hi > 57343) = false := by simp; omega
          clear e
          go_wp2_with (refine (rsize_w k _).mono ?_; rintro e w1 ⟨rfl, rfl⟩)
          go_round
          case rel => exact ⟨k + 1, by omega, by omega, rfl⟩
          case measure => simp [intOf]; omega
      · have t3 : (k == 55296) = false := by simpa using e
        clear e
        go_wp2_with (refine (rsize_w k _).mono ?_; rintro e w1 ⟨rfl, rfl⟩)
        go_round
        case rel => exact ⟨k + 1, by omega, by omega, rfl⟩
        case measure => simp [intOf]; omega
    · have t0 : decide (k ≤ hi) = false := by simp; omega
      go_wp2_with fail
      go_ret3
      exact ⟨rfl, rfl⟩
end Go.Proofs.Ytlfkhfmepcnfeaa.Utf
