/- What the tricks of package lanes come to, byte by byte: plain facts. -/
import Derived.Test.YtjebhdncfjijgaaLanesW
import Derived.Test.YtjebhdncfjijgaaLanesL
namespace Go.Proofs.Ytjebhdncfjijgaa.Lanes
set_option linter.unusedVariables false
set_option linter.unusedSimpArgs false
open Go.RowKit Go.Proofs.Ytjebhdncfjijgaa.Bytes

/-- Eight numbers by their place. -/
def pick (b0 b1 b2 b3 b4 b5 b6 b7 : Nat) : Nat → Nat
  | 0 => b0 | 1 => b1 | 2 => b2 | 3 => b3 | 4 => b4 | 5 => b5 | 6 => b6 | _ => b7
section
variable {a0 a1 a2 a3 a4 a5 a6 a7 b0 b1 b2 b3 b4 b5 b6 b7 : Nat}
theorem pk_lt (h : b0 < 256 ∧ b1 < 256 ∧ b2 < 256 ∧ b3 < 256 ∧ b4 < 256 ∧ b5 < 256 ∧ b6 < 256 ∧ b7 < 256) : pk b0 b1 b2 b3 b4 b5 b6 b7 < 18446744073709551616 := by unfold pk; omega
theorem byte_pk (h : b0 < 256 ∧ b1 < 256 ∧ b2 < 256 ∧ b3 < 256 ∧ b4 < 256 ∧ b5 < 256 ∧ b6 < 256 ∧ b7 < 256) : byteN (pk b0 b1 b2 b3 b4 b5 b6 b7) 0 = b0 ∧ byteN (pk b0 b1 b2 b3 b4 b5 b6 b7) 1 = b1 ∧ byteN (pk b0 b1 b2 b3 b4 b5 b6 b7) 2 = b2 ∧ byteN (pk b0 b1 b2 b3 b4 b5 b6 b7) 3 = b3 ∧ byteN (pk b0 b1 b2 b3 b4 b5 b6 b7) 4 = b4 ∧ byteN (pk b0 b1 b2 b3 b4 b5 b6 b7) 5 = b5 ∧ byteN (pk b0 b1 b2 b3 b4 b5 b6 b7) 6 = b6 ∧ byteN (pk b0 b1 b2 b3 b4 b5 b6 b7) 7 = b7 := by
  unfold byteN pk
  refine ⟨?_, ?_, ?_, ?_, ?_, ?_, ?_, ?_⟩ <;> omega
theorem low_congr {p q : Nat → Bool} : ∀ n, (∀ i, i < n → p i = q i) → low p n = low q n
  | 0, _ => rfl
  | n + 1, h => by rw [low, low, low_congr n (fun i hi => h i (by omega)), h n (by omega)]
theorem and_127 (a : Nat) (h : a < 256) : a &&& 128 = if 128 ≤ a then 128 else 0 := by
  have : ∀ a : Fin 256, a.1 &&& 128 = if 128 ≤ a.1 then 128 else 0 := by decide +kernel
  exact this ⟨a, h⟩
/-- Eight highest bits, brought beside one another. -/
theorem gather (t : Nat → Bool) : (pk (if t 0 then 128 else 0) (if t 1 then 128 else 0) (if t 2 then 128 else 0) (if t 3 then 128 else 0) (if t 4 then 128 else 0) (if t 5 then 128 else 0) (if t 6 then 128 else 0) (if t 7 then 128 else 0) / 128 * 72624976668147840 % 18446744073709551616) / 72057594037927936 % 256 = low t 8 := by
  simp only [low]
  cases t 0 <;> cases t 1 <;> cases t 2 <;> cases t 3 <;> cases t 4 <;> cases t 5 <;> cases t 6 <;> cases t 7 <;> rfl
theorem tops_pk (h : b0 < 256 ∧ b1 < 256 ∧ b2 < 256 ∧ b3 < 256 ∧ b4 < 256 ∧ b5 < 256 ∧ b6 < 256 ∧ b7 < 256) : topsI (pk b0 b1 b2 b3 b4 b5 b6 b7 : Nat) = (low (fun i => decide (128 ≤ pick b0 b1 b2 b3 b4 b5 b6 b7 i)) 8 : Nat) := by
  have hw := pk_lt h
  unfold topsI
  rw [show (9259542123273814144 : Int) = ((9259542123273814144 : Nat) : Int) from rfl, u64_and_nat _ _ hw (by omega)]
  have e : pk b0 b1 b2 b3 b4 b5 b6 b7 &&& 9259542123273814144 = pk (if decide (128 ≤ b0) then 128 else 0) (if decide (128 ≤ b1) then 128 else 0) (if decide (128 ≤ b2) then 128 else 0) (if decide (128 ≤ b3) then 128 else 0) (if decide (128 ≤ b4) then 128 else 0) (if decide (128 ≤ b5) then 128 else 0) (if decide (128 ≤ b6) then 128 else 0) (if decide (128 ≤ b7) then 128 else 0) := by
    rw [show 9259542123273814144 = pk 128 128 128 128 128 128 128 128 from rfl, pk_and (by omega) (by omega)]
    simp only [decide_eq_true_eq]
    rw [and_127 b0 (by omega), and_127 b1 (by omega), and_127 b2 (by omega), and_127 b3 (by omega), and_127 b4 (by omega), and_127 b5 (by omega), and_127 b6 (by omega), and_127 b7 (by omega)]
  have g := gather (fun i => decide (128 ≤ pick b0 b1 b2 b3 b4 b5 b6 b7 i))
  generalize low (fun i => decide (128 ≤ pick b0 b1 b2 b3 b4 b5 b6 b7 i)) 8 = L at *
  simp only [pick] at g
  rw [e, IntKind.wrap_u64, ← g]
  generalize pk (if decide (128 ≤ b0) = true then 128 else 0) _ _ _ _ _ _ _ = z
  rw [Int.natCast_emod, Int.natCast_ediv, Int.natCast_emod, Int.natCast_mul, Int.natCast_ediv]; rfl
theorem fill_pk (c : Nat) (hc : c < 256) : fillI c = (pk c c c c c c c c : Nat) := by
  unfold fillI pk
  rw [IntKind.wrap_u64, IntKind.wrap_u64]
  omega
theorem u64_max : IntKind.u64.max = 18446744073709551615 := by simp [IntKind.max, IntKind.signed, IntKind.bits]
theorem u8_max : IntKind.u8.max = 255 := by simp [IntKind.max, IntKind.signed, IntKind.bits]
/-- The other bits of a byte. -/
theorem not_byte (a : Nat) (h : a < 256) : 255 ^^^ a = 255 - a := by
  have : ∀ a : Fin 256, 255 ^^^ a.1 = 255 - a.1 := by decide +kernel
  exact this ⟨a, h⟩
theorem not_pk (h : b0 < 256 ∧ b1 < 256 ∧ b2 < 256 ∧ b3 < 256 ∧ b4 < 256 ∧ b5 < 256 ∧ b6 < 256 ∧ b7 < 256) : bits .xor .u64 IntKind.u64.max (pk b0 b1 b2 b3 b4 b5 b6 b7 : Nat) = (pk (255 - b0) (255 - b1) (255 - b2) (255 - b3) (255 - b4) (255 - b5) (255 - b6) (255 - b7) : Nat) := by
  rw [u64_max, show (18446744073709551615 : Int) = ((pk 255 255 255 255 255 255 255 255 : Nat) : Int) from rfl, u64_xor_nat _ _ (by decide) (pk_lt h), pk_xor (by omega) (by omega)]
  rw [not_byte b0 (by omega), not_byte b1 (by omega), not_byte b2 (by omega), not_byte b3 (by omega), not_byte b4 (by omega), not_byte b5 (by omega), not_byte b6 (by omega), not_byte b7 (by omega)]
theorem xor_pk (ha : a0 < 256 ∧ a1 < 256 ∧ a2 < 256 ∧ a3 < 256 ∧ a4 < 256 ∧ a5 < 256 ∧ a6 < 256 ∧ a7 < 256) (hb : b0 < 256 ∧ b1 < 256 ∧ b2 < 256 ∧ b3 < 256 ∧ b4 < 256 ∧ b5 < 256 ∧ b6 < 256 ∧ b7 < 256) : bits .xor .u64 (pk a0 a1 a2 a3 a4 a5 a6 a7 : Nat) (pk b0 b1 b2 b3 b4 b5 b6 b7 : Nat) = (pk (a0 ^^^ b0) (a1 ^^^ b1) (a2 ^^^ b2) (a3 ^^^ b3) (a4 ^^^ b4) (a5 ^^^ b5) (a6 ^^^ b6) (a7 ^^^ b7) : Nat) := by
  rw [u64_xor_nat _ _ (pk_lt ha) (pk_lt hb), pk_xor (by omega) (by omega)]
theorem and_pk (ha : a0 < 256 ∧ a1 < 256 ∧ a2 < 256 ∧ a3 < 256 ∧ a4 < 256 ∧ a5 < 256 ∧ a6 < 256 ∧ a7 < 256) (hb : b0 < 256 ∧ b1 < 256 ∧ b2 < 256 ∧ b3 < 256 ∧ b4 < 256 ∧ b5 < 256 ∧ b6 < 256 ∧ b7 < 256) : bits .and .u64 (pk a0 a1 a2 a3 a4 a5 a6 a7 : Nat) (pk b0 b1 b2 b3 b4 b5 b6 b7 : Nat) = (pk (a0 &&& b0) (a1 &&& b1) (a2 &&& b2) (a3 &&& b3) (a4 &&& b4) (a5 &&& b5) (a6 &&& b6) (a7 &&& b7) : Nat) := by
  rw [u64_and_nat _ _ (pk_lt ha) (pk_lt hb), pk_and (by omega) (by omega)]
theorem or_pk (ha : a0 < 256 ∧ a1 < 256 ∧ a2 < 256 ∧ a3 < 256 ∧ a4 < 256 ∧ a5 < 256 ∧ a6 < 256 ∧ a7 < 256) (hb : b0 < 256 ∧ b1 < 256 ∧ b2 < 256 ∧ b3 < 256 ∧ b4 < 256 ∧ b5 < 256 ∧ b6 < 256 ∧ b7 < 256) : bits .or .u64 (pk a0 a1 a2 a3 a4 a5 a6 a7 : Nat) (pk b0 b1 b2 b3 b4 b5 b6 b7 : Nat) = (pk (a0 ||| b0) (a1 ||| b1) (a2 ||| b2) (a3 ||| b3) (a4 ||| b4) (a5 ||| b5) (a6 ||| b6) (a7 ||| b7) : Nat) := by
  rw [u64_or_nat _ _ (pk_lt ha) (pk_lt hb), pk_or (by omega) (by omega)]
theorem andNot_pk (ha : a0 < 256 ∧ a1 < 256 ∧ a2 < 256 ∧ a3 < 256 ∧ a4 < 256 ∧ a5 < 256 ∧ a6 < 256 ∧ a7 < 256) (hb : b0 < 256 ∧ b1 < 256 ∧ b2 < 256 ∧ b3 < 256 ∧ b4 < 256 ∧ b5 < 256 ∧ b6 < 256 ∧ b7 < 256) : bits .andNot .u64 (pk a0 a1 a2 a3 a4 a5 a6 a7 : Nat) (pk b0 b1 b2 b3 b4 b5 b6 b7 : Nat) = (pk (a0 &&& (255 - b0)) (a1 &&& (255 - b1)) (a2 &&& (255 - b2)) (a3 &&& (255 - b3)) (a4 &&& (255 - b4)) (a5 &&& (255 - b5)) (a6 &&& (255 - b6)) (a7 &&& (255 - b7)) : Nat) := by
  have e : 18446744073709551615 - pk b0 b1 b2 b3 b4 b5 b6 b7 = pk (255 - b0) (255 - b1) (255 - b2) (255 - b3) (255 - b4) (255 - b5) (255 - b6) (255 - b7) := by unfold pk; omega
  rw [u64_andNot_nat _ _ (pk_lt ha) (pk_lt hb), e, pk_and (by omega) (by omega)]

theorem top_bit (a : Nat) (h : a < 256) : decide (128 ≤ a) = a.testBit 7 := by
  have : ∀ a : Fin 256, decide (128 ≤ a.1) = a.1.testBit 7 := by decide +kernel
  exact this ⟨a, h⟩
theorem top_not (a : Nat) (h : a < 256) : (255 - a).testBit 7 = !a.testBit 7 := by
  have : ∀ a : Fin 256, (255 - a.1).testBit 7 = !a.1.testBit 7 := by decide +kernel
  exact this ⟨a, h⟩
theorem with_top (x : Nat) (h : x < 256) : x ||| 128 = 128 + x % 128 := by
  have : ∀ x : Fin 256, x.1 ||| 128 = 128 + x.1 % 128 := by decide +kernel
  exact this ⟨x, h⟩
theorem no_top (x : Nat) (h : x < 256) : x &&& (255 - 128) = x % 128 := by
  have : ∀ x : Fin 256, x.1 &&& (255 - 128) = x.1 % 128 := by decide +kernel
  exact this ⟨x, h⟩
theorem xor_low (x y : Nat) : (x ^^^ y) % 128 = (x % 128) ^^^ (y % 128) := Nat.xor_mod_two_pow (n := 7)
theorem xor_none (x y : Nat) : x ^^^ y = 0 ↔ x = y := by
  constructor
  · intro h
    have : x ^^^ (x ^^^ y) = x := by rw [h]; simp
    rw [← Nat.xor_assoc, Nat.xor_self, Nat.zero_xor] at this
    exact this.symm
  · rintro rfl; exact Nat.xor_self x
/-- Below, byte by byte: with its highest bit set, a byte lends to none beside it. -/
theorem less_byte (x y : Nat) (hx : x < 256) (hy : y < 256) : decide (128 ≤ (((255 - x) &&& y) ||| ((255 - (x ^^^ y)) &&& (255 - ((x ||| 128) - (y &&& (255 - 128))))))) = decide (x < y) := by
  have hxy : x ^^^ y < 256 := Nat.xor_lt_two_pow (n := 8) hx hy
  have ho : (((255 - x) &&& y) ||| ((255 - (x ^^^ y)) &&& (255 - ((x ||| 128) - (y &&& (255 - 128)))))) < 256 :=
    Nat.or_lt_two_pow (n := 8) (Nat.and_lt_two_pow (n := 8) _ hy) (Nat.and_lt_two_pow (n := 8) _ (by omega))
  rw [top_bit _ ho, Nat.testBit_or, Nat.testBit_and, Nat.testBit_and, top_not x hx, top_not _ hxy, Nat.testBit_xor, with_top x hx, no_top y hy, top_not _ (by omega),
    ← top_bit x hx, ← top_bit y hy, ← top_bit _ (show 128 + x % 128 - y % 128 < 256 by omega)]
  by_cases h1 : 128 ≤ x <;> by_cases h2 : 128 ≤ y <;> by_cases h3 : x % 128 < y % 128 <;> by_cases h4 : x < y <;> simp [h1, h2, h4] <;> omega
theorem same_byte (x y : Nat) (hx : x < 256) (hy : y < 256) : decide (128 ≤ 255 - ((((x ^^^ y) &&& (255 - 128)) + 127) ||| (x ^^^ y))) = decide (x = y) := by
  have hxy : x ^^^ y < 256 := Nat.xor_lt_two_pow (n := 8) hx hy
  have : ∀ z : Fin 256, decide (128 ≤ 255 - (((z.1 &&& (255 - 128)) + 127) ||| z.1)) = decide (z.1 = 0) := by decide +kernel
  exact (this ⟨x ^^^ y, hxy⟩).trans (decide_eq_decide.2 (xor_none x y))
theorem or_128 (x : Nat) (h : x < 256) : 128 ≤ x ||| 128 ∧ x ||| 128 < 256 := by
  have : ∀ x : Fin 256, 128 ≤ x.1 ||| 128 ∧ x.1 ||| 128 < 256 := by decide +kernel
  exact this ⟨x, h⟩
theorem and_low7 (x : Nat) (h : x < 256) : x &&& (255 - 128) < 128 := by
  have : ∀ x : Fin 256, x.1 &&& (255 - 128) < 128 := by decide +kernel
  exact this ⟨x, h⟩
theorem xor_lt (x y : Nat) (hx : x < 256) (hy : y < 256) : x ^^^ y < 256 := Nat.xor_lt_two_pow (n := 8) hx hy
theorem or_lt (x y : Nat) (hx : x < 256) (hy : y < 256) : x ||| y < 256 := Nat.or_lt_two_pow (n := 8) hx hy
theorem and_lt (x y : Nat) (hy : y < 256) : x &&& y < 256 := Nat.and_lt_two_pow (n := 8) x hy
end
end Go.Proofs.Ytjebhdncfjijgaa.Lanes
