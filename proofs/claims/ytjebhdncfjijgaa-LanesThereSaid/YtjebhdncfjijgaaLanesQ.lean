/- What the questions of package lanes answer, word by word: plain facts. -/
import Derived.Test.YtjebhdncfjijgaaLanesP
namespace Go.Proofs.Ytjebhdncfjijgaa.Lanes
set_option linter.unusedVariables false
set_option linter.unusedSimpArgs false
open Go.RowKit Go.Proofs.Ytjebhdncfjijgaa.Bytes

theorem low_bit (p : Nat → Bool) (i : Nat) : ∀ n, (low p n).testBit i = (decide (i < n) && p i)
  | 0 => by simp [low]
  | n + 1 => by
    have e : low p (n + 1) = low p n ||| (if p n then 2 ^ n else 0) := by
      simp only [low]
      split
      · rw [or_pow _ _ (low_lt p n)]
      · simp
    rw [e, Nat.testBit_or, low_bit p i n]
    by_cases h : i = n
    · subst h
      cases hp : p i <;> simp
    · by_cases h2 : i < n
      · have : i < n + 1 := by omega
        cases hp : p n <;> simp [h2, this, Nat.testBit_two_pow, show n ≠ i by omega]
      · have : ¬ i < n + 1 := by omega
        cases hp : p n <;> simp [h2, this, Nat.testBit_two_pow, show n ≠ i by omega]
theorem low8 (p : Nat → Bool) : low p 8 < 256 := low_lt p 8
theorem low_not (p : Nat → Bool) : bits .xor .u8 IntKind.u8.max (low p 8 : Nat) = (low (fun i => !p i) 8 : Nat) := by
  rw [u8_max, show (255 : Int) = ((255 : Nat) : Int) from rfl, u8_xor_nat _ _ (by omega) (low8 p)]
  congr 1
  refine Nat.eq_of_testBit_eq fun i => ?_
  rw [Nat.testBit_xor, low_bit, low_bit, show 255 = 2 ^ 8 - 1 from rfl, Nat.testBit_two_pow_sub_one]
  by_cases h : i < 8 <;> simp [h]
theorem low_and (p q : Nat → Bool) : bits .and .u8 (low p 8 : Nat) (low q 8 : Nat) = (low (fun i => p i && q i) 8 : Nat) := by
  rw [u8_and_nat _ _ (low8 p) (low8 q)]
  congr 1
  refine Nat.eq_of_testBit_eq fun i => ?_
  rw [Nat.testBit_and, low_bit, low_bit, low_bit]
  by_cases h : i < 8 <;> simp [h]
theorem low_orr (p q : Nat → Bool) : bits .or .u8 (low p 8 : Nat) (low q 8 : Nat) = (low (fun i => p i || q i) 8 : Nat) := by
  rw [u8_or_nat _ _ (low8 p) (low8 q)]
  congr 1
  refine Nat.eq_of_testBit_eq fun i => ?_
  rw [Nat.testBit_or, low_bit, low_bit, low_bit]
  by_cases h : i < 8 <;> simp [h]
theorem low_andNot (p q : Nat → Bool) : bits .andNot .u8 (low p 8 : Nat) (low q 8 : Nat) = (low (fun i => p i && !q i) 8 : Nat) := by
  have e := low_not q
  rw [u8_max, show (255 : Int) = ((255 : Nat) : Int) from rfl, u8_xor_nat _ _ (by omega) (low8 q), not_byte _ (low8 q)] at e
  have e' : 255 - low q 8 = low (fun i => !q i) 8 := by exact_mod_cast e
  rw [u8_andNot_nat _ _ (low8 p) (low8 q), e', ← u8_and_nat _ _ (low8 _) (low8 _), low_and]
section
variable {a0 a1 a2 a3 a4 a5 a6 a7 b0 b1 b2 b3 b4 b5 b6 b7 : Nat}
theorem pk_sub (h : b0 ≤ a0 ∧ b1 ≤ a1 ∧ b2 ≤ a2 ∧ b3 ≤ a3 ∧ b4 ≤ a4 ∧ b5 ≤ a5 ∧ b6 ≤ a6 ∧ b7 ≤ a7) (ha : a0 < 256 ∧ a1 < 256 ∧ a2 < 256 ∧ a3 < 256 ∧ a4 < 256 ∧ a5 < 256 ∧ a6 < 256 ∧ a7 < 256) : IntKind.u64.wrap ((pk a0 a1 a2 a3 a4 a5 a6 a7 : Nat) - (pk b0 b1 b2 b3 b4 b5 b6 b7 : Nat)) = (pk (a0 - b0) (a1 - b1) (a2 - b2) (a3 - b3) (a4 - b4) (a5 - b5) (a6 - b6) (a7 - b7) : Nat) := by
  obtain ⟨h0, h1, h2, h3, h4, h5, h6, h7⟩ := h
  obtain ⟨d0, rfl⟩ := Nat.exists_eq_add_of_le h0
  obtain ⟨d1, rfl⟩ := Nat.exists_eq_add_of_le h1
  obtain ⟨d2, rfl⟩ := Nat.exists_eq_add_of_le h2
  obtain ⟨d3, rfl⟩ := Nat.exists_eq_add_of_le h3
  obtain ⟨d4, rfl⟩ := Nat.exists_eq_add_of_le h4
  obtain ⟨d5, rfl⟩ := Nat.exists_eq_add_of_le h5
  obtain ⟨d6, rfl⟩ := Nat.exists_eq_add_of_le h6
  obtain ⟨d7, rfl⟩ := Nat.exists_eq_add_of_le h7
  simp only [Nat.add_sub_cancel_left]
  rw [IntKind.wrap_u64]; unfold pk; omega
theorem pk_add (h : a0 < 129 ∧ a1 < 129 ∧ a2 < 129 ∧ a3 < 129 ∧ a4 < 129 ∧ a5 < 129 ∧ a6 < 129 ∧ a7 < 129) : IntKind.u64.wrap ((pk a0 a1 a2 a3 a4 a5 a6 a7 : Nat) + 9187201950435737471) = (pk (a0 + 127) (a1 + 127) (a2 + 127) (a3 + 127) (a4 + 127) (a5 + 127) (a6 + 127) (a7 + 127) : Nat) := by
  rw [IntKind.wrap_u64]; unfold pk; omega
theorem below_pk (ha : a0 < 256 ∧ a1 < 256 ∧ a2 < 256 ∧ a3 < 256 ∧ a4 < 256 ∧ a5 < 256 ∧ a6 < 256 ∧ a7 < 256) (hb : b0 < 256 ∧ b1 < 256 ∧ b2 < 256 ∧ b3 < 256 ∧ b4 < 256 ∧ b5 < 256 ∧ b6 < 256 ∧ b7 < 256) : topsI (lessI (pk a0 a1 a2 a3 a4 a5 a6 a7 : Nat) (pk b0 b1 b2 b3 b4 b5 b6 b7 : Nat)) = (low (fun i => decide (pick a0 a1 a2 a3 a4 a5 a6 a7 i < pick b0 b1 b2 b3 b4 b5 b6 b7 i)) 8 : Nat) := by
  have A0 := or_128 a0 (by omega); have A1 := or_128 a1 (by omega); have A2 := or_128 a2 (by omega); have A3 := or_128 a3 (by omega); have A4 := or_128 a4 (by omega); have A5 := or_128 a5 (by omega); have A6 := or_128 a6 (by omega); have A7 := or_128 a7 (by omega)
  have B0 := and_low7 b0 (by omega); have B1 := and_low7 b1 (by omega); have B2 := and_low7 b2 (by omega); have B3 := and_low7 b3 (by omega); have B4 := and_low7 b4 (by omega); have B5 := and_low7 b5 (by omega); have B6 := and_low7 b6 (by omega); have B7 := and_low7 b7 (by omega)
  have X : ∀ x y : Nat, x < 256 → y < 256 → x ^^^ y < 256 := xor_lt
  have x0 := X a0 b0 (by omega) (by omega); have x1 := X a1 b1 (by omega) (by omega); have x2 := X a2 b2 (by omega) (by omega); have x3 := X a3 b3 (by omega) (by omega); have x4 := X a4 b4 (by omega) (by omega); have x5 := X a5 b5 (by omega) (by omega); have x6 := X a6 b6 (by omega) (by omega); have x7 := X a7 b7 (by omega) (by omega)
  have N : ∀ x y : Nat, y < 256 → x &&& y < 256 := and_lt
  have h128 : (9259542123273814144 : Int) = ((pk 128 128 128 128 128 128 128 128 : Nat) : Int) := rfl
  have H1 : (255 - a0) < 256 ∧ (255 - a1) < 256 ∧ (255 - a2) < 256 ∧ (255 - a3) < 256 ∧ (255 - a4) < 256 ∧ (255 - a5) < 256 ∧ (255 - a6) < 256 ∧ (255 - a7) < 256 := ⟨Nat.lt_of_le_of_lt (Nat.sub_le _ _) (by decide), Nat.lt_of_le_of_lt (Nat.sub_le _ _) (by decide), Nat.lt_of_le_of_lt (Nat.sub_le _ _) (by decide), Nat.lt_of_le_of_lt (Nat.sub_le _ _) (by decide), Nat.lt_of_le_of_lt (Nat.sub_le _ _) (by decide), Nat.lt_of_le_of_lt (Nat.sub_le _ _) (by decide), Nat.lt_of_le_of_lt (Nat.sub_le _ _) (by decide), Nat.lt_of_le_of_lt (Nat.sub_le _ _) (by decide)⟩
  have H2 : ((255 - a0) &&& b0) < 256 ∧ ((255 - a1) &&& b1) < 256 ∧ ((255 - a2) &&& b2) < 256 ∧ ((255 - a3) &&& b3) < 256 ∧ ((255 - a4) &&& b4) < 256 ∧ ((255 - a5) &&& b5) < 256 ∧ ((255 - a6) &&& b6) < 256 ∧ ((255 - a7) &&& b7) < 256 := ⟨N _ _ hb.1, N _ _ hb.2.1, N _ _ hb.2.2.1, N _ _ hb.2.2.2.1, N _ _ hb.2.2.2.2.1, N _ _ hb.2.2.2.2.2.1, N _ _ hb.2.2.2.2.2.2.1, N _ _ hb.2.2.2.2.2.2.2⟩
  have H3 : (a0 ^^^ b0) < 256 ∧ (a1 ^^^ b1) < 256 ∧ (a2 ^^^ b2) < 256 ∧ (a3 ^^^ b3) < 256 ∧ (a4 ^^^ b4) < 256 ∧ (a5 ^^^ b5) < 256 ∧ (a6 ^^^ b6) < 256 ∧ (a7 ^^^ b7) < 256 := ⟨x0, x1, x2, x3, x4, x5, x6, x7⟩
  have H4 : (255 - (a0 ^^^ b0)) < 256 ∧ (255 - (a1 ^^^ b1)) < 256 ∧ (255 - (a2 ^^^ b2)) < 256 ∧ (255 - (a3 ^^^ b3)) < 256 ∧ (255 - (a4 ^^^ b4)) < 256 ∧ (255 - (a5 ^^^ b5)) < 256 ∧ (255 - (a6 ^^^ b6)) < 256 ∧ (255 - (a7 ^^^ b7)) < 256 := ⟨Nat.lt_of_le_of_lt (Nat.sub_le _ _) (by decide), Nat.lt_of_le_of_lt (Nat.sub_le _ _) (by decide), Nat.lt_of_le_of_lt (Nat.sub_le _ _) (by decide), Nat.lt_of_le_of_lt (Nat.sub_le _ _) (by decide), Nat.lt_of_le_of_lt (Nat.sub_le _ _) (by decide), Nat.lt_of_le_of_lt (Nat.sub_le _ _) (by decide), Nat.lt_of_le_of_lt (Nat.sub_le _ _) (by decide), Nat.lt_of_le_of_lt (Nat.sub_le _ _) (by decide)⟩
  have H5 : ((a0 ||| 128) - (b0 &&& (255 - 128))) < 256 ∧ ((a1 ||| 128) - (b1 &&& (255 - 128))) < 256 ∧ ((a2 ||| 128) - (b2 &&& (255 - 128))) < 256 ∧ ((a3 ||| 128) - (b3 &&& (255 - 128))) < 256 ∧ ((a4 ||| 128) - (b4 &&& (255 - 128))) < 256 ∧ ((a5 ||| 128) - (b5 &&& (255 - 128))) < 256 ∧ ((a6 ||| 128) - (b6 &&& (255 - 128))) < 256 ∧ ((a7 ||| 128) - (b7 &&& (255 - 128))) < 256 := ⟨Nat.lt_of_le_of_lt (Nat.sub_le _ _) A0.2, Nat.lt_of_le_of_lt (Nat.sub_le _ _) A1.2, Nat.lt_of_le_of_lt (Nat.sub_le _ _) A2.2, Nat.lt_of_le_of_lt (Nat.sub_le _ _) A3.2, Nat.lt_of_le_of_lt (Nat.sub_le _ _) A4.2, Nat.lt_of_le_of_lt (Nat.sub_le _ _) A5.2, Nat.lt_of_le_of_lt (Nat.sub_le _ _) A6.2, Nat.lt_of_le_of_lt (Nat.sub_le _ _) A7.2⟩
  have sub := pk_sub (a0 := a0 ||| 128) (a1 := a1 ||| 128) (a2 := a2 ||| 128) (a3 := a3 ||| 128) (a4 := a4 ||| 128) (a5 := a5 ||| 128) (a6 := a6 ||| 128) (a7 := a7 ||| 128) (b0 := b0 &&& (255 - 128)) (b1 := b1 &&& (255 - 128)) (b2 := b2 &&& (255 - 128)) (b3 := b3 &&& (255 - 128)) (b4 := b4 &&& (255 - 128)) (b5 := b5 &&& (255 - 128)) (b6 := b6 &&& (255 - 128)) (b7 := b7 &&& (255 - 128)) ⟨Nat.le_trans (Nat.le_of_lt B0) A0.1, Nat.le_trans (Nat.le_of_lt B1) A1.1, Nat.le_trans (Nat.le_of_lt B2) A2.1, Nat.le_trans (Nat.le_of_lt B3) A3.1, Nat.le_trans (Nat.le_of_lt B4) A4.1, Nat.le_trans (Nat.le_of_lt B5) A5.1, Nat.le_trans (Nat.le_of_lt B6) A6.1, Nat.le_trans (Nat.le_of_lt B7) A7.1⟩ ⟨A0.2, A1.2, A2.2, A3.2, A4.2, A5.2, A6.2, A7.2⟩
  have H6 : ((255 - (a0 ^^^ b0)) &&& (255 - ((a0 ||| 128) - (b0 &&& (255 - 128))))) < 256 ∧ ((255 - (a1 ^^^ b1)) &&& (255 - ((a1 ||| 128) - (b1 &&& (255 - 128))))) < 256 ∧ ((255 - (a2 ^^^ b2)) &&& (255 - ((a2 ||| 128) - (b2 &&& (255 - 128))))) < 256 ∧ ((255 - (a3 ^^^ b3)) &&& (255 - ((a3 ||| 128) - (b3 &&& (255 - 128))))) < 256 ∧ ((255 - (a4 ^^^ b4)) &&& (255 - ((a4 ||| 128) - (b4 &&& (255 - 128))))) < 256 ∧ ((255 - (a5 ^^^ b5)) &&& (255 - ((a5 ||| 128) - (b5 &&& (255 - 128))))) < 256 ∧ ((255 - (a6 ^^^ b6)) &&& (255 - ((a6 ||| 128) - (b6 &&& (255 - 128))))) < 256 ∧ ((255 - (a7 ^^^ b7)) &&& (255 - ((a7 ||| 128) - (b7 &&& (255 - 128))))) < 256 := ⟨N _ _ (Nat.lt_of_le_of_lt (Nat.sub_le _ _) (by decide)), N _ _ (Nat.lt_of_le_of_lt (Nat.sub_le _ _) (by decide)), N _ _ (Nat.lt_of_le_of_lt (Nat.sub_le _ _) (by decide)), N _ _ (Nat.lt_of_le_of_lt (Nat.sub_le _ _) (by decide)), N _ _ (Nat.lt_of_le_of_lt (Nat.sub_le _ _) (by decide)), N _ _ (Nat.lt_of_le_of_lt (Nat.sub_le _ _) (by decide)), N _ _ (Nat.lt_of_le_of_lt (Nat.sub_le _ _) (by decide)), N _ _ (Nat.lt_of_le_of_lt (Nat.sub_le _ _) (by decide))⟩
  have O : ∀ x y : Nat, x < 256 → y < 256 → x ||| y < 256 := or_lt
  have H7 : (((255 - a0) &&& b0) ||| ((255 - (a0 ^^^ b0)) &&& (255 - ((a0 ||| 128) - (b0 &&& (255 - 128)))))) < 256 ∧ (((255 - a1) &&& b1) ||| ((255 - (a1 ^^^ b1)) &&& (255 - ((a1 ||| 128) - (b1 &&& (255 - 128)))))) < 256 ∧ (((255 - a2) &&& b2) ||| ((255 - (a2 ^^^ b2)) &&& (255 - ((a2 ||| 128) - (b2 &&& (255 - 128)))))) < 256 ∧ (((255 - a3) &&& b3) ||| ((255 - (a3 ^^^ b3)) &&& (255 - ((a3 ||| 128) - (b3 &&& (255 - 128)))))) < 256 ∧ (((255 - a4) &&& b4) ||| ((255 - (a4 ^^^ b4)) &&& (255 - ((a4 ||| 128) - (b4 &&& (255 - 128)))))) < 256 ∧ (((255 - a5) &&& b5) ||| ((255 - (a5 ^^^ b5)) &&& (255 - ((a5 ||| 128) - (b5 &&& (255 - 128)))))) < 256 ∧ (((255 - a6) &&& b6) ||| ((255 - (a6 ^^^ b6)) &&& (255 - ((a6 ||| 128) - (b6 &&& (255 - 128)))))) < 256 ∧ (((255 - a7) &&& b7) ||| ((255 - (a7 ^^^ b7)) &&& (255 - ((a7 ||| 128) - (b7 &&& (255 - 128)))))) < 256 := ⟨O _ _ H2.1 H6.1, O _ _ H2.2.1 H6.2.1, O _ _ H2.2.2.1 H6.2.2.1, O _ _ H2.2.2.2.1 H6.2.2.2.1, O _ _ H2.2.2.2.2.1 H6.2.2.2.2.1, O _ _ H2.2.2.2.2.2.1 H6.2.2.2.2.2.1, O _ _ H2.2.2.2.2.2.2.1 H6.2.2.2.2.2.2.1, O _ _ H2.2.2.2.2.2.2.2 H6.2.2.2.2.2.2.2⟩
  have h128' : 128 < 256 ∧ 128 < 256 ∧ 128 < 256 ∧ 128 < 256 ∧ 128 < 256 ∧ 128 < 256 ∧ 128 < 256 ∧ 128 < 256 := by decide
  unfold lessI
  rw [not_pk ha, and_pk H1 hb, xor_pk ha hb, not_pk H3, h128, or_pk ha h128', andNot_pk hb h128', sub, andNot_pk H4 H5, or_pk H2 H6, tops_pk H7]
  congr 1
  refine low_congr 8 fun i hi => ?_
  have : i = 0 ∨ i = 1 ∨ i = 2 ∨ i = 3 ∨ i = 4 ∨ i = 5 ∨ i = 6 ∨ i = 7 := by omega
  rcases this with rfl | rfl | rfl | rfl | rfl | rfl | rfl | rfl
  · exact less_byte a0 b0 (by omega) (by omega)
  · exact less_byte a1 b1 (by omega) (by omega)
  · exact less_byte a2 b2 (by omega) (by omega)
  · exact less_byte a3 b3 (by omega) (by omega)
  · exact less_byte a4 b4 (by omega) (by omega)
  · exact less_byte a5 b5 (by omega) (by omega)
  · exact less_byte a6 b6 (by omega) (by omega)
  · exact less_byte a7 b7 (by omega) (by omega)
theorem same_pk (c : Nat) (ha : a0 < 256 ∧ a1 < 256 ∧ a2 < 256 ∧ a3 < 256 ∧ a4 < 256 ∧ a5 < 256 ∧ a6 < 256 ∧ a7 < 256) (hc : c < 256) : topsI (sameI (pk a0 a1 a2 a3 a4 a5 a6 a7 : Nat) c) = (low (fun i => decide (pick a0 a1 a2 a3 a4 a5 a6 a7 i = c)) 8 : Nat) := by
  have X : ∀ x y : Nat, x < 256 → y < 256 → x ^^^ y < 256 := xor_lt
  have x0 := X a0 c (by omega) (by omega); have x1 := X a1 c (by omega) (by omega); have x2 := X a2 c (by omega) (by omega); have x3 := X a3 c (by omega) (by omega); have x4 := X a4 c (by omega) (by omega); have x5 := X a5 c (by omega) (by omega); have x6 := X a6 c (by omega) (by omega); have x7 := X a7 c (by omega) (by omega)
  have B0 := and_low7 _ x0; have B1 := and_low7 _ x1; have B2 := and_low7 _ x2; have B3 := and_low7 _ x3; have B4 := and_low7 _ x4; have B5 := and_low7 _ x5; have B6 := and_low7 _ x6; have B7 := and_low7 _ x7
  have h128 : (9259542123273814144 : Int) = ((pk 128 128 128 128 128 128 128 128 : Nat) : Int) := rfl
  have O : ∀ x y : Nat, x < 256 → y < 256 → x ||| y < 256 := or_lt
  have h128' : 128 < 256 ∧ 128 < 256 ∧ 128 < 256 ∧ 128 < 256 ∧ 128 < 256 ∧ 128 < 256 ∧ 128 < 256 ∧ 128 < 256 := by decide
  have hcs : c < 256 ∧ c < 256 ∧ c < 256 ∧ c < 256 ∧ c < 256 ∧ c < 256 ∧ c < 256 ∧ c < 256 := ⟨hc, hc, hc, hc, hc, hc, hc, hc⟩
  have H3 : (a0 ^^^ c) < 256 ∧ (a1 ^^^ c) < 256 ∧ (a2 ^^^ c) < 256 ∧ (a3 ^^^ c) < 256 ∧ (a4 ^^^ c) < 256 ∧ (a5 ^^^ c) < 256 ∧ (a6 ^^^ c) < 256 ∧ (a7 ^^^ c) < 256 := ⟨x0, x1, x2, x3, x4, x5, x6, x7⟩
  have H4 : (((a0 ^^^ c) &&& (255 - 128)) + 127) < 256 ∧ (((a1 ^^^ c) &&& (255 - 128)) + 127) < 256 ∧ (((a2 ^^^ c) &&& (255 - 128)) + 127) < 256 ∧ (((a3 ^^^ c) &&& (255 - 128)) + 127) < 256 ∧ (((a4 ^^^ c) &&& (255 - 128)) + 127) < 256 ∧ (((a5 ^^^ c) &&& (255 - 128)) + 127) < 256 ∧ (((a6 ^^^ c) &&& (255 - 128)) + 127) < 256 ∧ (((a7 ^^^ c) &&& (255 - 128)) + 127) < 256 := ⟨Nat.le_trans (Nat.add_lt_add_of_lt_of_le B0 (Nat.le_refl 127)) (by decide), Nat.le_trans (Nat.add_lt_add_of_lt_of_le B1 (Nat.le_refl 127)) (by decide), Nat.le_trans (Nat.add_lt_add_of_lt_of_le B2 (Nat.le_refl 127)) (by decide), Nat.le_trans (Nat.add_lt_add_of_lt_of_le B3 (Nat.le_refl 127)) (by decide), Nat.le_trans (Nat.add_lt_add_of_lt_of_le B4 (Nat.le_refl 127)) (by decide), Nat.le_trans (Nat.add_lt_add_of_lt_of_le B5 (Nat.le_refl 127)) (by decide), Nat.le_trans (Nat.add_lt_add_of_lt_of_le B6 (Nat.le_refl 127)) (by decide), Nat.le_trans (Nat.add_lt_add_of_lt_of_le B7 (Nat.le_refl 127)) (by decide)⟩
  have add := pk_add (a0 := (a0 ^^^ c) &&& (255 - 128)) (a1 := (a1 ^^^ c) &&& (255 - 128)) (a2 := (a2 ^^^ c) &&& (255 - 128)) (a3 := (a3 ^^^ c) &&& (255 - 128)) (a4 := (a4 ^^^ c) &&& (255 - 128)) (a5 := (a5 ^^^ c) &&& (255 - 128)) (a6 := (a6 ^^^ c) &&& (255 - 128)) (a7 := (a7 ^^^ c) &&& (255 - 128)) ⟨Nat.lt_succ_of_lt B0, Nat.lt_succ_of_lt B1, Nat.lt_succ_of_lt B2, Nat.lt_succ_of_lt B3, Nat.lt_succ_of_lt B4, Nat.lt_succ_of_lt B5, Nat.lt_succ_of_lt B6, Nat.lt_succ_of_lt B7⟩
  have hO : ((((a0 ^^^ c) &&& (255 - 128)) + 127) ||| (a0 ^^^ c)) < 256 ∧ ((((a1 ^^^ c) &&& (255 - 128)) + 127) ||| (a1 ^^^ c)) < 256 ∧ ((((a2 ^^^ c) &&& (255 - 128)) + 127) ||| (a2 ^^^ c)) < 256 ∧ ((((a3 ^^^ c) &&& (255 - 128)) + 127) ||| (a3 ^^^ c)) < 256 ∧ ((((a4 ^^^ c) &&& (255 - 128)) + 127) ||| (a4 ^^^ c)) < 256 ∧ ((((a5 ^^^ c) &&& (255 - 128)) + 127) ||| (a5 ^^^ c)) < 256 ∧ ((((a6 ^^^ c) &&& (255 - 128)) + 127) ||| (a6 ^^^ c)) < 256 ∧ ((((a7 ^^^ c) &&& (255 - 128)) + 127) ||| (a7 ^^^ c)) < 256 := ⟨O _ _ H4.1 H3.1, O _ _ H4.2.1 H3.2.1, O _ _ H4.2.2.1 H3.2.2.1, O _ _ H4.2.2.2.1 H3.2.2.2.1, O _ _ H4.2.2.2.2.1 H3.2.2.2.2.1, O _ _ H4.2.2.2.2.2.1 H3.2.2.2.2.2.1, O _ _ H4.2.2.2.2.2.2.1 H3.2.2.2.2.2.2.1, O _ _ H4.2.2.2.2.2.2.2 H3.2.2.2.2.2.2.2⟩
  have hN : (255 - ((((a0 ^^^ c) &&& (255 - 128)) + 127) ||| (a0 ^^^ c))) < 256 ∧ (255 - ((((a1 ^^^ c) &&& (255 - 128)) + 127) ||| (a1 ^^^ c))) < 256 ∧ (255 - ((((a2 ^^^ c) &&& (255 - 128)) + 127) ||| (a2 ^^^ c))) < 256 ∧ (255 - ((((a3 ^^^ c) &&& (255 - 128)) + 127) ||| (a3 ^^^ c))) < 256 ∧ (255 - ((((a4 ^^^ c) &&& (255 - 128)) + 127) ||| (a4 ^^^ c))) < 256 ∧ (255 - ((((a5 ^^^ c) &&& (255 - 128)) + 127) ||| (a5 ^^^ c))) < 256 ∧ (255 - ((((a6 ^^^ c) &&& (255 - 128)) + 127) ||| (a6 ^^^ c))) < 256 ∧ (255 - ((((a7 ^^^ c) &&& (255 - 128)) + 127) ||| (a7 ^^^ c))) < 256 := ⟨Nat.lt_of_le_of_lt (Nat.sub_le _ _) (by decide), Nat.lt_of_le_of_lt (Nat.sub_le _ _) (by decide), Nat.lt_of_le_of_lt (Nat.sub_le _ _) (by decide), Nat.lt_of_le_of_lt (Nat.sub_le _ _) (by decide), Nat.lt_of_le_of_lt (Nat.sub_le _ _) (by decide), Nat.lt_of_le_of_lt (Nat.sub_le _ _) (by decide), Nat.lt_of_le_of_lt (Nat.sub_le _ _) (by decide), Nat.lt_of_le_of_lt (Nat.sub_le _ _) (by decide)⟩
  unfold sameI
  rw [fill_pk c hc, xor_pk ha hcs, h128, andNot_pk H3 h128', add, or_pk H4 H3, not_pk hO, tops_pk hN]
  congr 1
  refine low_congr 8 fun i hi => ?_
  have : i = 0 ∨ i = 1 ∨ i = 2 ∨ i = 3 ∨ i = 4 ∨ i = 5 ∨ i = 6 ∨ i = 7 := by omega
  rcases this with rfl | rfl | rfl | rfl | rfl | rfl | rfl | rfl
  · exact same_byte a0 c (by omega) (by omega)
  · exact same_byte a1 c (by omega) (by omega)
  · exact same_byte a2 c (by omega) (by omega)
  · exact same_byte a3 c (by omega) (by omega)
  · exact same_byte a4 c (by omega) (by omega)
  · exact same_byte a5 c (by omega) (by omega)
  · exact same_byte a6 c (by omega) (by omega)
  · exact same_byte a7 c (by omega) (by omega)
theorem mid_byte (x lo hi : Nat) : (!decide (x < lo) && !decide (hi < x)) = (decide (lo ≤ x) && decide (x ≤ hi)) := by
  rw [Bool.eq_iff_iff]; simp
theorem mid_pk (lo hi : Nat) (ha : a0 < 256 ∧ a1 < 256 ∧ a2 < 256 ∧ a3 < 256 ∧ a4 < 256 ∧ a5 < 256 ∧ a6 < 256 ∧ a7 < 256) (hlo : lo < 256) (hhi : hi < 256) : midI (pk a0 a1 a2 a3 a4 a5 a6 a7 : Nat) lo hi = (low (fun i => decide (lo ≤ pick a0 a1 a2 a3 a4 a5 a6 a7 i) && decide (pick a0 a1 a2 a3 a4 a5 a6 a7 i ≤ hi)) 8 : Nat) := by
  unfold midI
  have hl : lo < 256 ∧ lo < 256 ∧ lo < 256 ∧ lo < 256 ∧ lo < 256 ∧ lo < 256 ∧ lo < 256 ∧ lo < 256 := ⟨hlo, hlo, hlo, hlo, hlo, hlo, hlo, hlo⟩
  have hh : hi < 256 ∧ hi < 256 ∧ hi < 256 ∧ hi < 256 ∧ hi < 256 ∧ hi < 256 ∧ hi < 256 ∧ hi < 256 := ⟨hhi, hhi, hhi, hhi, hhi, hhi, hhi, hhi⟩
  rw [fill_pk lo hlo, fill_pk hi hhi, below_pk ha hl, below_pk hh ha, low_not, low_not, low_and]
  congr 1
  refine low_congr 8 fun i hi8 => ?_
  have : i = 0 ∨ i = 1 ∨ i = 2 ∨ i = 3 ∨ i = 4 ∨ i = 5 ∨ i = 6 ∨ i = 7 := by omega
  rcases this with rfl | rfl | rfl | rfl | rfl | rfl | rfl | rfl <;> exact mid_byte _ _ _
theorem pick_byte (ha : a0 < 256 ∧ a1 < 256 ∧ a2 < 256 ∧ a3 < 256 ∧ a4 < 256 ∧ a5 < 256 ∧ a6 < 256 ∧ a7 < 256) (i : Nat) (hi : i < 8) : pick a0 a1 a2 a3 a4 a5 a6 a7 i = byteN (pk a0 a1 a2 a3 a4 a5 a6 a7) i := by
  obtain ⟨e0, e1, e2, e3, e4, e5, e6, e7⟩ := byte_pk ha
  have : i = 0 ∨ i = 1 ∨ i = 2 ∨ i = 3 ∨ i = 4 ∨ i = 5 ∨ i = 6 ∨ i = 7 := by omega
  rcases this with rfl | rfl | rfl | rfl | rfl | rfl | rfl | rfl <;> simp [pick, *]
theorem load_pk (ha : a0 < 256 ∧ a1 < 256 ∧ a2 < 256 ∧ a3 < 256 ∧ a4 < 256 ∧ a5 < 256 ∧ a6 < 256 ∧ a7 < 256) : loadI a0 a1 a2 a3 a4 a5 a6 a7 = (pk a0 a1 a2 a3 a4 a5 a6 a7 : Nat) := by
  have e0 : IntKind.u64.wrap (IntKind.u64.wrap (a0 : Int)) = ((pk a0 0 0 0 0 0 0 0 : Nat) : Int) := by rw [IntKind.wrap_u64, IntKind.wrap_u64]; unfold pk; omega
  have e1 : IntKind.u64.wrap (IntKind.u64.wrap (a1 : Int) * 256) = ((pk 0 a1 0 0 0 0 0 0 : Nat) : Int) := by rw [IntKind.wrap_u64, IntKind.wrap_u64]; unfold pk; omega
  have e2 : IntKind.u64.wrap (IntKind.u64.wrap (a2 : Int) * 65536) = ((pk 0 0 a2 0 0 0 0 0 : Nat) : Int) := by rw [IntKind.wrap_u64, IntKind.wrap_u64]; unfold pk; omega
  have e3 : IntKind.u64.wrap (IntKind.u64.wrap (a3 : Int) * 16777216) = ((pk 0 0 0 a3 0 0 0 0 : Nat) : Int) := by rw [IntKind.wrap_u64, IntKind.wrap_u64]; unfold pk; omega
  have e4 : IntKind.u64.wrap (IntKind.u64.wrap (a4 : Int) * 4294967296) = ((pk 0 0 0 0 a4 0 0 0 : Nat) : Int) := by rw [IntKind.wrap_u64, IntKind.wrap_u64]; unfold pk; omega
  have e5 : IntKind.u64.wrap (IntKind.u64.wrap (a5 : Int) * 1099511627776) = ((pk 0 0 0 0 0 a5 0 0 : Nat) : Int) := by rw [IntKind.wrap_u64, IntKind.wrap_u64]; unfold pk; omega
  have e6 : IntKind.u64.wrap (IntKind.u64.wrap (a6 : Int) * 281474976710656) = ((pk 0 0 0 0 0 0 a6 0 : Nat) : Int) := by rw [IntKind.wrap_u64, IntKind.wrap_u64]; unfold pk; omega
  have e7 : IntKind.u64.wrap (IntKind.u64.wrap (a7 : Int) * 72057594037927936) = ((pk 0 0 0 0 0 0 0 a7 : Nat) : Int) := by rw [IntKind.wrap_u64, IntKind.wrap_u64]; unfold pk; omega
  have z : (0 : Int) = ((pk 0 0 0 0 0 0 0 0 : Nat) : Int) := rfl
  have Z : 0 < 256 := by decide
  obtain ⟨h0, h1, h2, h3, h4, h5, h6, h7⟩ := ha
  unfold loadI
  rw [e0, e1, e2, e3, e4, e5, e6, e7, z]
  rw [or_pk ⟨Z, Z, Z, Z, Z, Z, Z, Z⟩ ⟨h0, Z, Z, Z, Z, Z, Z, Z⟩]; simp only [Nat.or_zero, Nat.zero_or]
  rw [or_pk ⟨h0, Z, Z, Z, Z, Z, Z, Z⟩ ⟨Z, h1, Z, Z, Z, Z, Z, Z⟩]; simp only [Nat.or_zero, Nat.zero_or]
  rw [or_pk ⟨h0, h1, Z, Z, Z, Z, Z, Z⟩ ⟨Z, Z, h2, Z, Z, Z, Z, Z⟩]; simp only [Nat.or_zero, Nat.zero_or]
  rw [or_pk ⟨h0, h1, h2, Z, Z, Z, Z, Z⟩ ⟨Z, Z, Z, h3, Z, Z, Z, Z⟩]; simp only [Nat.or_zero, Nat.zero_or]
  rw [or_pk ⟨h0, h1, h2, h3, Z, Z, Z, Z⟩ ⟨Z, Z, Z, Z, h4, Z, Z, Z⟩]; simp only [Nat.or_zero, Nat.zero_or]
  rw [or_pk ⟨h0, h1, h2, h3, h4, Z, Z, Z⟩ ⟨Z, Z, Z, Z, Z, h5, Z, Z⟩]; simp only [Nat.or_zero, Nat.zero_or]
  rw [or_pk ⟨h0, h1, h2, h3, h4, h5, Z, Z⟩ ⟨Z, Z, Z, Z, Z, Z, h6, Z⟩]; simp only [Nat.or_zero, Nat.zero_or]
  rw [or_pk ⟨h0, h1, h2, h3, h4, h5, h6, Z⟩ ⟨Z, Z, Z, Z, Z, Z, Z, h7⟩]; simp only [Nat.or_zero, Nat.zero_or]
theorem sum_pk (ha : a0 < 256 ∧ a1 < 256 ∧ a2 < 256 ∧ a3 < 256 ∧ a4 < 256 ∧ a5 < 256 ∧ a6 < 256 ∧ a7 < 256) : sumI (pk a0 a1 a2 a3 a4 a5 a6 a7 : Nat) = (a0 + a1 + a2 + a3 + a4 + a5 + a6 + a7 : Nat) := by
  have hs := sum_pairs ha
  have hw := pk_lt ha
  have ht : a0 + a1 + a2 + a3 + a4 + a5 + a6 + a7 ≤ 2040 := by omega
  generalize pk a0 a1 a2 a3 a4 a5 a6 a7 = w at *
  unfold sumI
  have e0 : (w : Int) / 256 = ((w / 256 : Nat) : Int) := by omega
  have wu : ∀ x : Nat, IntKind.u64.wrap (x : Int) = ((x % 18446744073709551616 : Nat) : Int) := fun x => by rw [IntKind.wrap_u64]; omega
  rw [e0, show (71777214294589695 : Int) = ((71777214294589695 : Nat) : Int) from rfl, u64_and_nat _ _ hw (by omega), u64_and_nat _ _ (by omega) (by omega), ← Int.natCast_add, wu,
    show (281479271743489 : Int) = ((281479271743489 : Nat) : Int) from rfl, ← Int.natCast_mul, wu]
  generalize ((w &&& 71777214294589695) + (w / 256 &&& 71777214294589695)) % 18446744073709551616 * 281479271743489 % 18446744073709551616 = z at *
  unfold wrap64
  omega
end
end Go.Proofs.Ytjebhdncfjijgaa.Lanes
