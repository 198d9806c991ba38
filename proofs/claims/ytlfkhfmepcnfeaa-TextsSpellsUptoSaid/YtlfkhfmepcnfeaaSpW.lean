/- The walk of quarrylaw15.spelled. -/
import Derived.Test.YtlfkhfmepcnfeaaSp
namespace Go.Proofs.Ytlfkhfmepcnfeaa.Txt
set_option linter.unusedVariables false
set_option linter.unusedSimpArgs false
open Go.RowKit Go.Proofs.Ytlfkhfmepcnfeaa.Mem Go.Proofs.Ytlfkhfmepcnfeaa.Own Go.Proofs.Ytlfkhfmepcnfeaa.Utf Go.Proofs.Ytlfkhfmepcnfeaa.Bld

def shortB (c : Int) : ByteArray := if c = 34 then ⟨#[92, 34]⟩ else if c = 92 then ⟨#[92, 92]⟩ else if c = 47 then ⟨#[92, 47]⟩ else if c = 8 then ⟨#[92, 98]⟩ else if c = 12 then ⟨#[92, 102]⟩ else if c = 10 then ⟨#[92, 110]⟩ else if c = 13 then ⟨#[92, 114]⟩ else if c = 9 then ⟨#[92, 116]⟩ else .empty
def special (c : Int) : Bool := c == 34 || c == 92 || c == 47 || c == 8 || c == 12 || c == 10 || c == 13 || c == 9
/-- A character in some way (w: the way's rest by 4). -/
def spellB (c w : Int) : ByteArray :=
  if w = 0 ∧ 32 ≤ c ∧ c ≠ 34 ∧ c ≠ 92 then Utf8.encode c
  else if w ≠ 1 ∧ w ≠ 2 ∧ special c = true then shortB c
  else if c < 65536 then fourS (w == 2) c.toNat 4
  else fourS (w == 2) (55296 + (c.toNat - 65536) / 1024) 4 ++ fourS (w != 2) (56320 + (c.toNat - 65536) % 1024) 4
theorem fourlaw_as (n : Nat) (hn : n < 65536) (g : Bool) (v : Int) (hv : v = (n : Int)) (w : World) : Calls Try.prog 41 #[.int .i64 v, .bool g] w fun e w' => e = .returned (.string (fourS g n 4)) ∧ w = w' := by subst hv; exact fourlaw_w n hn g w
set_option maxHeartbeats 4000000 in
theorem sp_special (c : Int) (hc : special c = true) (way : Int) (h0 : 0 ≤ way) (h1 : way < 256) (w : World) : Calls Try.prog 21 #[.int .i32 c, .int .i64 way] w fun e w' => e = .returned (.string (spellB c (way % 4))) ∧ Below w.heap.size w w' := by
  have hr : way % 4 = 0 ∨ way % 4 = 1 ∨ way % 4 = 2 ∨ way % 4 = 3 := by omega
  have hcc : c = 34 ∨ c = 92 ∨ c = 47 ∨ c = 8 ∨ c = 12 ∨ c = 10 ∨ c = 13 ∨ c = 9 := by
    simp only [special, Bool.or_eq_true, beq_iff_eq] at hc; omega
  clear hc
  rcases hcc with rfl | rfl | rfl | rfl | rfl | rfl | rfl | rfl
  · rcases hr with hr | hr | hr | hr
    · go_enter Try.func21, Try.ntmps21
      go_wp2_with fail
      go_ret
      rw [hr]
      exact ⟨rfl, Below.refl _ _⟩
    · go_enter Try.func21, Try.ntmps21
      go_wp2_with (refine (fourlaw_as 34 (by decide) false _ rfl _).mono ?_; rintro e w1 ⟨rfl, rfl⟩)
      go_ret
      rw [hr]
      exact ⟨rfl, Below.refl _ _⟩
    · go_enter Try.func21, Try.ntmps21
      go_wp2_with (refine (fourlaw_as 34 (by decide) true _ rfl _).mono ?_; rintro e w1 ⟨rfl, rfl⟩)
      go_ret
      rw [hr]
      exact ⟨rfl, Below.refl _ _⟩
    · go_enter Try.func21, Try.ntmps21
      go_wp2_with fail
      go_ret
      rw [hr]
      exact ⟨rfl, Below.refl _ _⟩
  · rcases hr with hr | hr | hr | hr
    · go_enter Try.func21, Try.ntmps21
      go_wp2_with fail
      go_ret
      rw [hr]
      exact ⟨rfl, Below.refl _ _⟩
    · go_enter Try.func21, Try.ntmps21
      go_wp2_with (refine (fourlaw_as 92 (by decide) false _ rfl _).mono ?_; rintro e w1 ⟨rfl, rfl⟩)
      go_ret
      rw [hr]
      exact ⟨rfl, Below.refl _ _⟩
    · go_enter Try.func21, Try.ntmps21
      go_wp2_with (refine (fourlaw_as 92 (by decide) true _ rfl _).mono ?_; rintro e w1 ⟨rfl, rfl⟩)
      go_ret
      rw [hr]
      exact ⟨rfl, Below.refl _ _⟩
    · go_enter Try.func21, Try.ntmps21
      go_wp2_with fail
      go_ret
      rw [hr]
      exact ⟨rfl, Below.refl _ _⟩
  · rcases hr with hr | hr | hr | hr
    · go_enter Try.func21, Try.ntmps21
      go_wp2_with fail
      go_ret
      rw [hr]
      exact ⟨rfl, Below.refl _ _⟩
    · go_enter Try.func21, Try.ntmps21
      go_wp2_with (refine (fourlaw_as 47 (by decide) false _ rfl _).mono ?_; rintro e w1 ⟨rfl, rfl⟩)
      go_ret
      rw [hr]
      exact ⟨rfl, Below.refl _ _⟩
    · go_enter Try.func21, Try.ntmps21
      go_wp2_with (refine (fourlaw_as 47 (by decide) true _ rfl _).mono ?_; rintro e w1 ⟨rfl, rfl⟩)
      go_ret
      rw [hr]
      exact ⟨rfl, Below.refl _ _⟩
    · go_enter Try.func21, Try.ntmps21
      go_wp2_with fail
      go_ret
      rw [hr]
      exact ⟨rfl, Below.refl _ _⟩
  · rcases hr with hr | hr | hr | hr
    · go_enter Try.func21, Try.ntmps21
      go_wp2_with fail
      go_ret
      rw [hr]
      exact ⟨rfl, Below.refl _ _⟩
    · go_enter Try.func21, Try.ntmps21
      go_wp2_with (refine (fourlaw_as 8 (by decide) false _ rfl _).mono ?_; rintro e w1 ⟨rfl, rfl⟩)
      go_ret
      rw [hr]
      exact ⟨rfl, Below.refl _ _⟩
    · go_enter Try.func21, Try.ntmps21
      go_wp2_with (refine (fourlaw_as 8 (by decide) true _ rfl _).mono ?_; rintro e w1 ⟨rfl, rfl⟩)
      go_ret
      rw [hr]
      exact ⟨rfl, Below.refl _ _⟩
    · go_enter Try.func21, Try.ntmps21
      go_wp2_with fail
      go_ret
      rw [hr]
      exact ⟨rfl, Below.refl _ _⟩
  · rcases hr with hr | hr | hr | hr
    · go_enter Try.func21, Try.ntmps21
      go_wp2_with fail
      go_ret
      rw [hr]
      exact ⟨rfl, Below.refl _ _⟩
    · go_enter Try.func21, Try.ntmps21
      go_wp2_with (refine (fourlaw_as 12 (by decide) false _ rfl _).mono ?_; rintro e w1 ⟨rfl, rfl⟩)
      go_ret
      rw [hr]
      exact ⟨rfl, Below.refl _ _⟩
    · go_enter Try.func21, Try.ntmps21
      go_wp2_with (refine (fourlaw_as 12 (by decide) true _ rfl _).mono ?_; rintro e w1 ⟨rfl, rfl⟩)
      go_ret
      rw [hr]
      exact ⟨rfl, Below.refl _ _⟩
    · go_enter Try.func21, Try.ntmps21
      go_wp2_with fail
      go_ret
      rw [hr]
      exact ⟨rfl, Below.refl _ _⟩
  · rcases hr with hr | hr | hr | hr
    · go_enter Try.func21, Try.ntmps21
      go_wp2_with fail
      go_ret
      rw [hr]
      exact ⟨rfl, Below.refl _ _⟩
    · go_enter Try.func21, Try.ntmps21
      go_wp2_with (refine (fourlaw_as 10 (by decide) false _ rfl _).mono ?_; rintro e w1 ⟨rfl, rfl⟩)
      go_ret
      rw [hr]
      exact ⟨rfl, Below.refl _ _⟩
    · go_enter Try.func21, Try.ntmps21
      go_wp2_with (refine (fourlaw_as 10 (by decide) true _ rfl _).mono ?_; rintro e w1 ⟨rfl, rfl⟩)
      go_ret
      rw [hr]
      exact ⟨rfl, Below.refl _ _⟩
    · go_enter Try.func21, Try.ntmps21
      go_wp2_with fail
      go_ret
      rw [hr]
      exact ⟨rfl, Below.refl _ _⟩
  · rcases hr with hr | hr | hr | hr
    · go_enter Try.func21, Try.ntmps21
      go_wp2_with fail
      go_ret
      rw [hr]
      exact ⟨rfl, Below.refl _ _⟩
    · go_enter Try.func21, Try.ntmps21
      go_wp2_with (refine (fourlaw_as 13 (by decide) false _ rfl _).mono ?_; rintro e w1 ⟨rfl, rfl⟩)
      go_ret
      rw [hr]
      exact ⟨rfl, Below.refl _ _⟩
    · go_enter Try.func21, Try.ntmps21
      go_wp2_with (refine (fourlaw_as 13 (by decide) true _ rfl _).mono ?_; rintro e w1 ⟨rfl, rfl⟩)
      go_ret
      rw [hr]
      exact ⟨rfl, Below.refl _ _⟩
    · go_enter Try.func21, Try.ntmps21
      go_wp2_with fail
      go_ret
      rw [hr]
      exact ⟨rfl, Below.refl _ _⟩
  · rcases hr with hr | hr | hr | hr
    · go_enter Try.func21, Try.ntmps21
      go_wp2_with fail
      go_ret
      rw [hr]
      exact ⟨rfl, Below.refl _ _⟩
    · go_enter Try.func21, Try.ntmps21
      go_wp2_with (refine (fourlaw_as 9 (by decide) false _ rfl _).mono ?_; rintro e w1 ⟨rfl, rfl⟩)
      go_ret
      rw [hr]
      exact ⟨rfl, Below.refl _ _⟩
    · go_enter Try.func21, Try.ntmps21
      go_wp2_with (refine (fourlaw_as 9 (by decide) true _ rfl _).mono ?_; rintro e w1 ⟨rfl, rfl⟩)
      go_ret
      rw [hr]
      exact ⟨rfl, Below.refl _ _⟩
    · go_enter Try.func21, Try.ntmps21
      go_wp2_with fail
      go_ret
      rw [hr]
      exact ⟨rfl, Below.refl _ _⟩
end Go.Proofs.Ytlfkhfmepcnfeaa.Txt
