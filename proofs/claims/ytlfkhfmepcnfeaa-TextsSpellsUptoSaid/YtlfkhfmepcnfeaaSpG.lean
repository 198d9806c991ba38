/- The walk of quarrylaw15.spelled at a character that has no short escape. -/
import Derived.Test.YtlfkhfmepcnfeaaSpW
namespace Go.Proofs.Ytlfkhfmepcnfeaa.Txt
set_option linter.unusedVariables false
set_option linter.unusedSimpArgs false
open Go.RowKit Go.Proofs.Ytlfkhfmepcnfeaa.Mem Go.Proofs.Ytlfkhfmepcnfeaa.Own Go.Proofs.Ytlfkhfmepcnfeaa.Utf Go.Proofs.Ytlfkhfmepcnfeaa.Bld

set_option maxHeartbeats 4000000 in
theorem sp_plain (c : Int) (hc : special c = false) (hc0 : 0 ≤ c) (hc1 : c ≤ 1114111) (way : Int) (h0 : 0 ≤ way) (h1 : way < 256) (w : World) : Calls Try.prog 21 #[.int .i32 c, .int .i64 way] w fun e w' => e = .returned (.string (spellB c (way % 4))) ∧ Below w.heap.size w w' := by
  have hr : way % 4 = 0 ∨ way % 4 = 1 ∨ way % 4 = 2 ∨ way % 4 = 3 := by omega
  have hS := hc
  simp only [special, Bool.or_eq_false_iff] at hc
  obtain ⟨⟨⟨⟨⟨⟨⟨f34, f92⟩, f47⟩, f8⟩, f12⟩, f10⟩, f13⟩, f9⟩ := hc
  have n34 : c ≠ 34 := by simpa using f34
  have n92 : c ≠ 92 := by simpa using f92
  have g34 : (c != 34) = true := by simpa using n34
  have g92 : (c != 92) = true := by simpa using n92
  obtain ⟨n, rfl⟩ : ∃ n : Nat, c = (n : Int) := ⟨c.toNat, by omega⟩
  by_cases h32 : 32 ≤ n
  · have t32 : decide (32 ≤ (n : Int)) = true := by simp; omega
    by_cases hbig : n < 65536
    · have tb : decide ((n : Int) < 65536) = true := by simp; omega
      rcases hr with hr | hr | hr | hr
      · have hsp : spellB (n : Int) 0 = Utf8.encode (n : Int) := by unfold spellB; rw [if_pos ⟨rfl, by omega, n34, n92⟩]
        have HSP := Lib.hid hsp; clear hsp hS n34 n92
        go_enter Try.func21, Try.ntmps21
        go_wp2_with fail
        go_ret
        rw [hr, HSP.out]
        exact ⟨rfl, Below.refl _ _⟩
      · have hsp : spellB (n : Int) 1 = fourS false n 4 := by unfold spellB; rw [if_neg (by omega), if_neg (by omega), if_pos (by omega), Int.toNat_natCast]; rfl
        have HSP := Lib.hid hsp; clear hsp hS n34 n92
        go_enter Try.func21, Try.ntmps21
        go_wp2_with (refine (fourlaw_as n hbig false _ rfl _).mono ?_; rintro e w1 ⟨rfl, rfl⟩)
        go_ret
        rw [hr, HSP.out]
        exact ⟨rfl, Below.refl _ _⟩
      · have hsp : spellB (n : Int) 2 = fourS true n 4 := by unfold spellB; rw [if_neg (by omega), if_neg (by omega), if_pos (by omega), Int.toNat_natCast]; rfl
        have HSP := Lib.hid hsp; clear hsp hS n34 n92
        go_enter Try.func21, Try.ntmps21
        go_wp2_with (refine (fourlaw_as n hbig true _ rfl _).mono ?_; rintro e w1 ⟨rfl, rfl⟩)
        go_ret
        rw [hr, HSP.out]
        exact ⟨rfl, Below.refl _ _⟩
      · have hsp : spellB (n : Int) 3 = fourS false n 4 := by unfold spellB; rw [if_neg (by omega), if_neg (by rw [hS]; rintro ⟨-, -, h⟩; cases h), if_pos (by omega), Int.toNat_natCast]; rfl
        have HSP := Lib.hid hsp; clear hsp hS n34 n92
        go_enter Try.func21, Try.ntmps21
        go_wp2_with (refine (fourlaw_as n hbig false _ rfl _).mono ?_; rintro e w1 ⟨rfl, rfl⟩)
        go_ret
        rw [hr, HSP.out]
        exact ⟨rfl, Below.refl _ _⟩
    · have tb : decide ((n : Int) < 65536) = false := by simp; omega
      rcases hr with hr | hr | hr | hr
      · have hsp : spellB (n : Int) 0 = Utf8.encode (n : Int) := by unfold spellB; rw [if_pos ⟨rfl, by omega, n34, n92⟩]
        have HSP := Lib.hid hsp; clear hsp hS n34 n92
        go_enter Try.func21, Try.ntmps21
        go_wp2_with fail
        go_ret
        rw [hr, HSP.out]
        exact ⟨rfl, Below.refl _ _⟩
      · have hsp : spellB (n : Int) 1 = fourS false (55296 + (n - 65536) / 1024) 4 ++ fourS true (56320 + (n - 65536) % 1024) 4 := by unfold spellB; rw [if_neg (by omega), if_neg (by omega), if_neg (by omega), Int.toNat_natCast]; rfl
        have HSP := Lib.hid hsp; clear hsp hS n34 n92
        have z1 := fourS_size false (55296 + (n - 65536) / 1024) 4
        have z2 := fourS_size true (56320 + (n - 65536) % 1024) 4
        go_enter Try.func21, Try.ntmps21
        go_wp2_with fail
        refine (fourlaw_as (55296 + (n - 65536) / 1024) (by omega) false _ (by omega) _).mono ?_; rintro e w1 ⟨rfl, rfl⟩
        go_wp2_with fail
        refine (fourlaw_as (56320 + (n - 65536) % 1024) (by omega) true _ (by omega) _).mono ?_; rintro e w1 ⟨rfl, rfl⟩
        go_wp2_with fail
        go_ret
        rw [hr, HSP.out]
        exact ⟨rfl, Below.refl _ _⟩
      · have hsp : spellB (n : Int) 2 = fourS true (55296 + (n - 65536) / 1024) 4 ++ fourS false (56320 + (n - 65536) % 1024) 4 := by unfold spellB; rw [if_neg (by omega), if_neg (by omega), if_neg (by omega), Int.toNat_natCast]; rfl
        have HSP := Lib.hid hsp; clear hsp hS n34 n92
        have z1 := fourS_size true (55296 + (n - 65536) / 1024) 4
        have z2 := fourS_size false (56320 + (n - 65536) % 1024) 4
        go_enter Try.func21, Try.ntmps21
        go_wp2_with fail
        refine (fourlaw_as (55296 + (n - 65536) / 1024) (by omega) true _ (by omega) _).mono ?_; rintro e w1 ⟨rfl, rfl⟩
        go_wp2_with fail
        refine (fourlaw_as (56320 + (n - 65536) % 1024) (by omega) false _ (by omega) _).mono ?_; rintro e w1 ⟨rfl, rfl⟩
        go_wp2_with fail
        go_ret
        rw [hr, HSP.out]
        exact ⟨rfl, Below.refl _ _⟩
      · have hsp : spellB (n : Int) 3 = fourS false (55296 + (n - 65536) / 1024) 4 ++ fourS true (56320 + (n - 65536) % 1024) 4 := by unfold spellB; rw [if_neg (by omega), if_neg (by rw [hS]; rintro ⟨-, -, h⟩; cases h), if_neg (by omega), Int.toNat_natCast]; rfl
        have HSP := Lib.hid hsp; clear hsp hS n34 n92
        have z1 := fourS_size false (55296 + (n - 65536) / 1024) 4
        have z2 := fourS_size true (56320 + (n - 65536) % 1024) 4
        go_enter Try.func21, Try.ntmps21
        go_wp2_with fail
        refine (fourlaw_as (55296 + (n - 65536) / 1024) (by omega) false _ (by omega) _).mono ?_; rintro e w1 ⟨rfl, rfl⟩
        go_wp2_with fail
        refine (fourlaw_as (56320 + (n - 65536) % 1024) (by omega) true _ (by omega) _).mono ?_; rintro e w1 ⟨rfl, rfl⟩
        go_wp2_with fail
        go_ret
        rw [hr, HSP.out]
        exact ⟨rfl, Below.refl _ _⟩
  · have t32 : decide (32 ≤ (n : Int)) = false := by simp; omega
    have tb : decide ((n : Int) < 65536) = true := by simp; omega
    have hbig : n < 65536 := by omega
    rcases hr with hr | hr | hr | hr
    · have hsp : spellB (n : Int) 0 = fourS false n 4 := by unfold spellB; rw [if_neg (by omega), if_neg (by rw [hS]; rintro ⟨-, -, h⟩; cases h), if_pos (by omega), Int.toNat_natCast]; rfl
      have HSP := Lib.hid hsp; clear hsp hS n34 n92
      go_enter Try.func21, Try.ntmps21
      go_wp2_with (refine (fourlaw_as n hbig false _ rfl _).mono ?_; rintro e w1 ⟨rfl, rfl⟩)
      go_ret
      rw [hr, HSP.out]
      exact ⟨rfl, Below.refl _ _⟩
    · have hsp : spellB (n : Int) 1 = fourS false n 4 := by unfold spellB; rw [if_neg (by omega), if_neg (by omega), if_pos (by omega), Int.toNat_natCast]; rfl
      have HSP := Lib.hid hsp; clear hsp hS n34 n92
      go_enter Try.func21, Try.ntmps21
      go_wp2_with (refine (fourlaw_as n hbig false _ rfl _).mono ?_; rintro e w1 ⟨rfl, rfl⟩)
      go_ret
      rw [hr, HSP.out]
      exact ⟨rfl, Below.refl _ _⟩
    · have hsp : spellB (n : Int) 2 = fourS true n 4 := by unfold spellB; rw [if_neg (by omega), if_neg (by omega), if_pos (by omega), Int.toNat_natCast]; rfl
      have HSP := Lib.hid hsp; clear hsp hS n34 n92
      go_enter Try.func21, Try.ntmps21
      go_wp2_with (refine (fourlaw_as n hbig true _ rfl _).mono ?_; rintro e w1 ⟨rfl, rfl⟩)
      go_ret
      rw [hr, HSP.out]
      exact ⟨rfl, Below.refl _ _⟩
    · have hsp : spellB (n : Int) 3 = fourS false n 4 := by unfold spellB; rw [if_neg (by omega), if_neg (by rw [hS]; rintro ⟨-, -, h⟩; cases h), if_pos (by omega), Int.toNat_natCast]; rfl
      have HSP := Lib.hid hsp; clear hsp hS n34 n92
      go_enter Try.func21, Try.ntmps21
      go_wp2_with (refine (fourlaw_as n hbig false _ rfl _).mono ?_; rintro e w1 ⟨rfl, rfl⟩)
      go_ret
      rw [hr, HSP.out]
      exact ⟨rfl, Below.refl _ _⟩
end Go.Proofs.Ytlfkhfmepcnfeaa.Txt
