/- The stage's theorem of layer 1: its walk, for each way of turning (printed by gen_there.py beside it). -/
import Derived.Test.YtjebhdncfjijgaaLanesU
import Derived.Test.YtjebhdncfjijgaaLanesV
import Derived.Deep.RegionHeld3
import Derived.Deep.DrawnRows
namespace Go.Proofs.Ytjebhdncfjijgaa.Lanes
set_option linter.unusedVariables false
set_option linter.unusedSimpArgs false
open Go.RowKit Go.Proofs.Ytjebhdncfjijgaa.Bytes
attribute [local go_sem ↓] Go.wp_at_zero Go.wp_at_succ

theorem bdrewN {w A : World} (h : Below w.heap.size w A) (n : Nat) : Below w.heap.size w (A.drewN n) := ⟨h.os, h.tape, h.output, h.size, h.block⟩
theorem load_bytes (x : Nat) (hx : x < 18446744073709551616) : loadI (byteN x 0) (byteN x 1) (byteN x 2) (byteN x 3) (byteN x 4) (byteN x 5) (byteN x 6) (byteN x 7) = (x : Int) := by
  obtain ⟨a0, a1, a2, a3, a4, a5, a6, a7, rfl, ha⟩ := as_pk x hx
  obtain ⟨e0, e1, e2, e3, e4, e5, e6, e7⟩ := byte_pk ha
  rw [e0, e1, e2, e3, e4, e5, e6, e7, load_pk ha]
/-- One bit of eight answers. -/
theorem low_at (p : Nat → Bool) (i : Nat) (hi : i < 8) : (bits .and .u8 (low p 8 : Nat) ((2 ^ i : Nat) : Int) != 0) = p i := by
  have h2 : 2 ^ i ≤ 128 := Nat.le_trans (Nat.pow_le_pow_right (n := 2) (by omega) (show i ≤ 7 by omega)) (by decide)
  have e : low p 8 &&& 2 ^ i = if p i then 2 ^ i else 0 := by
    refine Nat.eq_of_testBit_eq fun j => ?_
    rw [Nat.testBit_and, low_bit, Nat.testBit_two_pow]
    by_cases h : i = j
    · subst h
      cases hp : p i <;> simp [hi]
    · cases hp : p i <;> simp [h]
  rw [u8_and_nat _ _ (low8 p) (by omega), e]
  have : 0 < 2 ^ i := Nat.two_pow_pos i
  cases hp : p i
  · simp
  · rw [bne_iff_ne, if_pos rfl]; omega
theorem atE (X c j : Nat) (hX : X < 18446744073709551616) (hc : c < 256) (hj : j < 8) : (bits .and .u8 (topsI (sameI X c)) ((2 ^ j : Nat) : Int) != 0) = decide (byteN X j = c) := by
  rw [same_low X c hX hc, low_at _ j hj]
theorem atB (X c j : Nat) (hX : X < 18446744073709551616) (hc : c < 256) (hj : j < 8) : (bits .and .u8 (topsI (lessI X (fillI c))) ((2 ^ j : Nat) : Int) != 0) = decide (byteN X j < c) := by
  rw [below_low X c hX hc, low_at _ j hj]
theorem atL (X : Nat) (c : Int) (j : Nat) (hj : j < 8) : (bits .and .u8 (low (lessB X c) 8 : Nat) ((2 ^ j : Nat) : Int) != 0) = decide (sgn (byteN X j) < c) := by
  rw [low_at _ j hj, lessB_sgn]
end Go.Proofs.Ytjebhdncfjijgaa.Lanes
