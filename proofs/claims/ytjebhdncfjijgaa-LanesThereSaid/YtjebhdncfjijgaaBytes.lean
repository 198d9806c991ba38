/- Plain facts on the eight bytes of a 64-bit word: each bitwise operation goes byte by byte, and what the lanes' tricks come to. No Go here. -/
import Derived.WalkKit
namespace Go.Proofs.Ytjebhdncfjijgaa.Bytes
set_option linter.unusedVariables false
set_option linter.unusedSimpArgs false
open Go.RowKit

theorem and_split (a b : Nat) : a &&& b = ((a % 256) &&& (b % 256)) + 256 * ((a / 256) &&& (b / 256)) := by
  have h1 : (a &&& b) % 256 = (a % 256) &&& (b % 256) := Nat.and_mod_two_pow (n := 8)
  have h2 : (a &&& b) / 256 = (a / 256) &&& (b / 256) := by
    have := Nat.shiftRight_and_distrib (a := a) (b := b) (i := 8)
    simpa [Nat.shiftRight_eq_div_pow] using this
  rw [← h1, ← h2]; omega
theorem or_split (a b : Nat) : a ||| b = ((a % 256) ||| (b % 256)) + 256 * ((a / 256) ||| (b / 256)) := by
  have h1 : (a ||| b) % 256 = (a % 256) ||| (b % 256) := Nat.or_mod_two_pow (n := 8)
  have h2 : (a ||| b) / 256 = (a / 256) ||| (b / 256) := by
    have := Nat.shiftRight_or_distrib (a := a) (b := b) (i := 8)
    simpa [Nat.shiftRight_eq_div_pow] using this
  rw [← h1, ← h2]; omega
theorem xor_split (a b : Nat) : a ^^^ b = ((a % 256) ^^^ (b % 256)) + 256 * ((a / 256) ^^^ (b / 256)) := by
  have h1 : (a ^^^ b) % 256 = (a % 256) ^^^ (b % 256) := Nat.xor_mod_two_pow (n := 8)
  have h2 : (a ^^^ b) / 256 = (a / 256) ^^^ (b / 256) := by
    have := Nat.shiftRight_xor_distrib (a := a) (b := b) (i := 8)
    simpa [Nat.shiftRight_eq_div_pow] using this
  rw [← h1, ← h2]; omega

/-- Eight numbers below 256 as a word, the first one lowest. -/
def pk (b0 b1 b2 b3 b4 b5 b6 b7 : Nat) : Nat := b0 + 256 * (b1 + 256 * (b2 + 256 * (b3 + 256 * (b4 + 256 * (b5 + 256 * (b6 + 256 * b7))))))

section
variable {a0 a1 a2 a3 a4 a5 a6 a7 b0 b1 b2 b3 b4 b5 b6 b7 : Nat}
theorem cons_and (a r b s : Nat) (ha : a < 256) (hb : b < 256) : (a + 256 * r) &&& (b + 256 * s) = (a &&& b) + 256 * (r &&& s) := by
  rw [and_split]; congr 2 <;> congr 1 <;> omega
theorem cons_or (a r b s : Nat) (ha : a < 256) (hb : b < 256) : (a + 256 * r) ||| (b + 256 * s) = (a ||| b) + 256 * (r ||| s) := by
  rw [or_split]; congr 2 <;> congr 1 <;> omega
theorem cons_xor (a r b s : Nat) (ha : a < 256) (hb : b < 256) : (a + 256 * r) ^^^ (b + 256 * s) = (a ^^^ b) + 256 * (r ^^^ s) := by
  rw [xor_split]; congr 2 <;> congr 1 <;> omega
theorem pk_and (ha : a0 < 256 ∧ a1 < 256 ∧ a2 < 256 ∧ a3 < 256 ∧ a4 < 256 ∧ a5 < 256 ∧ a6 < 256) (hb : b0 < 256 ∧ b1 < 256 ∧ b2 < 256 ∧ b3 < 256 ∧ b4 < 256 ∧ b5 < 256 ∧ b6 < 256) :
    pk a0 a1 a2 a3 a4 a5 a6 a7 &&& pk b0 b1 b2 b3 b4 b5 b6 b7 = pk (a0 &&& b0) (a1 &&& b1) (a2 &&& b2) (a3 &&& b3) (a4 &&& b4) (a5 &&& b5) (a6 &&& b6) (a7 &&& b7) := by
  unfold pk
  rw [cons_and _ _ _ _ ha.1 hb.1, cons_and _ _ _ _ ha.2.1 hb.2.1, cons_and _ _ _ _ ha.2.2.1 hb.2.2.1, cons_and _ _ _ _ ha.2.2.2.1 hb.2.2.2.1, cons_and _ _ _ _ ha.2.2.2.2.1 hb.2.2.2.2.1, cons_and _ _ _ _ ha.2.2.2.2.2.1 hb.2.2.2.2.2.1, cons_and _ _ _ _ ha.2.2.2.2.2.2 hb.2.2.2.2.2.2]
theorem pk_or (ha : a0 < 256 ∧ a1 < 256 ∧ a2 < 256 ∧ a3 < 256 ∧ a4 < 256 ∧ a5 < 256 ∧ a6 < 256) (hb : b0 < 256 ∧ b1 < 256 ∧ b2 < 256 ∧ b3 < 256 ∧ b4 < 256 ∧ b5 < 256 ∧ b6 < 256) :
    pk a0 a1 a2 a3 a4 a5 a6 a7 ||| pk b0 b1 b2 b3 b4 b5 b6 b7 = pk (a0 ||| b0) (a1 ||| b1) (a2 ||| b2) (a3 ||| b3) (a4 ||| b4) (a5 ||| b5) (a6 ||| b6) (a7 ||| b7) := by
  unfold pk
  rw [cons_or _ _ _ _ ha.1 hb.1, cons_or _ _ _ _ ha.2.1 hb.2.1, cons_or _ _ _ _ ha.2.2.1 hb.2.2.1, cons_or _ _ _ _ ha.2.2.2.1 hb.2.2.2.1, cons_or _ _ _ _ ha.2.2.2.2.1 hb.2.2.2.2.1, cons_or _ _ _ _ ha.2.2.2.2.2.1 hb.2.2.2.2.2.1, cons_or _ _ _ _ ha.2.2.2.2.2.2 hb.2.2.2.2.2.2]
theorem pk_xor (ha : a0 < 256 ∧ a1 < 256 ∧ a2 < 256 ∧ a3 < 256 ∧ a4 < 256 ∧ a5 < 256 ∧ a6 < 256) (hb : b0 < 256 ∧ b1 < 256 ∧ b2 < 256 ∧ b3 < 256 ∧ b4 < 256 ∧ b5 < 256 ∧ b6 < 256) :
    pk a0 a1 a2 a3 a4 a5 a6 a7 ^^^ pk b0 b1 b2 b3 b4 b5 b6 b7 = pk (a0 ^^^ b0) (a1 ^^^ b1) (a2 ^^^ b2) (a3 ^^^ b3) (a4 ^^^ b4) (a5 ^^^ b5) (a6 ^^^ b6) (a7 ^^^ b7) := by
  unfold pk
  rw [cons_xor _ _ _ _ ha.1 hb.1, cons_xor _ _ _ _ ha.2.1 hb.2.1, cons_xor _ _ _ _ ha.2.2.1 hb.2.2.1, cons_xor _ _ _ _ ha.2.2.2.1 hb.2.2.2.1, cons_xor _ _ _ _ ha.2.2.2.2.1 hb.2.2.2.2.1, cons_xor _ _ _ _ ha.2.2.2.2.2.1 hb.2.2.2.2.2.1, cons_xor _ _ _ _ ha.2.2.2.2.2.2 hb.2.2.2.2.2.2]
end

/-- Every word is its eight bytes. -/
theorem as_pk (w : Nat) (h : w < 18446744073709551616) : ∃ b0 b1 b2 b3 b4 b5 b6 b7, w = pk b0 b1 b2 b3 b4 b5 b6 b7 ∧ b0 < 256 ∧ b1 < 256 ∧ b2 < 256 ∧ b3 < 256 ∧ b4 < 256 ∧ b5 < 256 ∧ b6 < 256 ∧ b7 < 256 := by
  refine ⟨w % 256, w / 256 % 256, w / 65536 % 256, w / 16777216 % 256, w / 4294967296 % 256, w / 1099511627776 % 256, w / 281474976710656 % 256, w / 72057594037927936, ?_, ?_, ?_, ?_, ?_, ?_, ?_, ?_, ?_⟩
  · unfold pk; omega
  all_goals omega

theorem and_255 (a : Nat) (h : a < 256) : a &&& 255 = a := by
  have := Nat.and_two_pow_sub_one_eq_mod a 8
  simp at this; omega
theorem sum_pairs {b0 b1 b2 b3 b4 b5 b6 b7 : Nat} (h : b0 < 256 ∧ b1 < 256 ∧ b2 < 256 ∧ b3 < 256 ∧ b4 < 256 ∧ b5 < 256 ∧ b6 < 256 ∧ b7 < 256) :
    ((((pk b0 b1 b2 b3 b4 b5 b6 b7 &&& 71777214294589695) + (pk b0 b1 b2 b3 b4 b5 b6 b7 / 256 &&& 71777214294589695)) % 18446744073709551616 * 281479271743489) % 18446744073709551616) / 281474976710656 = b0 + b1 + b2 + b3 + b4 + b5 + b6 + b7 := by
  obtain ⟨h0, h1, h2, h3, h4, h5, h6, h7⟩ := h
  have e1 : pk b0 b1 b2 b3 b4 b5 b6 b7 &&& 71777214294589695 = pk b0 0 b2 0 b4 0 b6 0 := by
    rw [show 71777214294589695 = pk 255 0 255 0 255 0 255 0 from rfl, pk_and (by omega) (by omega)]
    simp [and_255, *]
  have e2 : pk b0 b1 b2 b3 b4 b5 b6 b7 / 256 &&& 71777214294589695 = pk b1 0 b3 0 b5 0 b7 0 := by
    have : pk b0 b1 b2 b3 b4 b5 b6 b7 / 256 = pk b1 b2 b3 b4 b5 b6 b7 0 := by unfold pk; omega
    rw [this, show 71777214294589695 = pk 255 0 255 0 255 0 255 0 from rfl, pk_and (by omega) (by omega)]
    simp [and_255, *]
  rw [e1, e2]
  have e3 : (pk b0 0 b2 0 b4 0 b6 0 + pk b1 0 b3 0 b5 0 b7 0) % 18446744073709551616 = (b0 + b1) + 65536 * (b2 + b3) + 4294967296 * (b4 + b5) + 281474976710656 * (b6 + b7) := by unfold pk; omega
  rw [e3]
  have e4 : ((b0 + b1) + 65536 * (b2 + b3) + 4294967296 * (b4 + b5) + 281474976710656 * (b6 + b7)) * 281479271743489 =
      ((b0 + b1) + 65536 * (b0 + b1 + b2 + b3) + 4294967296 * (b0 + b1 + b2 + b3 + b4 + b5) + 281474976710656 * (b0 + b1 + b2 + b3 + b4 + b5 + b6 + b7)) +
      18446744073709551616 * ((b2 + b3 + b4 + b5 + b6 + b7) + 65536 * (b4 + b5 + b6 + b7) + 4294967296 * (b6 + b7)) := by omega
  rw [e4, Nat.add_mul_mod_self_left, Nat.mod_eq_of_lt (by omega)]
  omega
end Go.Proofs.Ytjebhdncfjijgaa.Bytes
