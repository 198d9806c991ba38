/- The sum of the eight bytes of a word, as lanes.Sum reckons it in pairs, is what the reference adds up byte by byte; for every word. -/
import Derived.Test.YtjebhdncfjijgaaPLanesSumsx1
import Derived.Test.YtjebhdncfjijgaaBytes
import Derived.OpenShut
namespace Go.Proofs.Ytjebhdncfjijgaa.Pure
open Go.RowKit Go.Proofs.Ytjebhdncfjijgaa.PLanesSums Go.Proofs.YtjebhdncfjijgaaW.PrintWords Go.Proofs.YtjebhdncfjijgaaW.PrintLast Go.Proofs.Ytjebhdncfjijgaa.Bytes

theorem wrap_u64 (x : Nat) : IntKind.u64.wrap (x : Int) = ((x % 18446744073709551616 : Nat) : Int) := by
  rw [IntKind.wrap_u64]; omega

theorem lanes_sum {b0 b1 b2 b3 b4 b5 b6 b7 : Nat} (h : b0 < 256 ∧ b1 < 256 ∧ b2 < 256 ∧ b3 < 256 ∧ b4 < 256 ∧ b5 < 256 ∧ b6 < 256 ∧ b7 < 256) :
    lanes_Sum.f (pk b0 b1 b2 b3 b4 b5 b6 b7 : Nat) = some ((b0 + b1 + b2 + b3 + b4 + b5 + b6 + b7 : Nat) : Int) := by
  have hs := sum_pairs h
  have hw : pk b0 b1 b2 b3 b4 b5 b6 b7 < 18446744073709551616 := by unfold pk; omega
  have ht : b0 + b1 + b2 + b3 + b4 + b5 + b6 + b7 ≤ 2040 := by omega
  generalize pk b0 b1 b2 b3 b4 b5 b6 b7 = w at *
  unfold lanes_Sum.f
  have e0 : (w : Int) / 256 = ((w / 256 : Nat) : Int) := by omega
  rw [e0, show (71777214294589695 : Int) = ((71777214294589695 : Nat) : Int) from rfl, u64_and_nat _ _ hw (by omega), u64_and_nat _ _ (by omega) (by omega), ← Int.natCast_add, wrap_u64,
    show (281479271743489 : Int) = ((281479271743489 : Nat) : Int) from rfl, ← Int.natCast_mul, wrap_u64]
  generalize ((w &&& 71777214294589695) + (w / 256 &&& 71777214294589695)) % 18446744073709551616 * 281479271743489 % 18446744073709551616 = z at *
  congr 1
  unfold wrap64
  omega

theorem byte_f (i : Nat) : ∀ (k : Nat) (w : Nat) (j : Nat), w < 18446744073709551616 → j ≤ i → i < 8 → i - j < k → quarryref01_Byte.l0 k w i j = some ((w / 256 ^ (i - j) % 256 : Nat) : Int) := by
  intro k
  induction k with
  | zero => intro w j _ _ _ h; omega
  | succ k ih =>
    intro w j hw hj hi hk
    simp only [quarryref01_Byte.l0]
    by_cases h : j < i
    · rw [if_pos (by omega)]
      have e1 : IntKind.u64.wrap (Int.tdiv (w : Int) 256) = ((w / 256 : Nat) : Int) := by
        have : Int.tdiv (w : Int) 256 = ((w / 256 : Nat) : Int) := by rw [Int.tdiv_eq_ediv_of_nonneg (by omega)]; omega
        rw [this, wrap_u64]; omega
      have e2 : wrap64 ((j : Int) + 1) = ((j + 1 : Nat) : Int) := by unfold wrap64; omega
      rw [e1, e2, ih (w / 256) (j + 1) (by omega) (by omega) hi (by omega)]
      congr 3
      rw [Nat.div_div_eq_div_mul, show i - j = (i - (j + 1)) + 1 by omega, Nat.pow_succ, Nat.mul_comm]
    · rw [if_neg (by omega)]
      obtain rfl : j = i := by omega
      simp only [Nat.sub_self, Nat.pow_zero, Nat.div_one]
      congr 1
      have : Int.tmod (w : Int) 256 = ((w % 256 : Nat) : Int) := by rw [Int.tmod_eq_emod_of_nonneg (by omega)]; omega
      rw [this]; unfold wrap64; omega

theorem byte_pk {b0 b1 b2 b3 b4 b5 b6 b7 : Nat} (h : b0 < 256 ∧ b1 < 256 ∧ b2 < 256 ∧ b3 < 256 ∧ b4 < 256 ∧ b5 < 256 ∧ b6 < 256 ∧ b7 < 256) (k : Nat) (hk : 10 ≤ k) :
    quarryref01_Byte.f k (pk b0 b1 b2 b3 b4 b5 b6 b7 : Nat) 0 = some (b0 : Int) ∧ quarryref01_Byte.f k (pk b0 b1 b2 b3 b4 b5 b6 b7 : Nat) 1 = some (b1 : Int) ∧
    quarryref01_Byte.f k (pk b0 b1 b2 b3 b4 b5 b6 b7 : Nat) 2 = some (b2 : Int) ∧ quarryref01_Byte.f k (pk b0 b1 b2 b3 b4 b5 b6 b7 : Nat) 3 = some (b3 : Int) ∧
    quarryref01_Byte.f k (pk b0 b1 b2 b3 b4 b5 b6 b7 : Nat) 4 = some (b4 : Int) ∧ quarryref01_Byte.f k (pk b0 b1 b2 b3 b4 b5 b6 b7 : Nat) 5 = some (b5 : Int) ∧
    quarryref01_Byte.f k (pk b0 b1 b2 b3 b4 b5 b6 b7 : Nat) 6 = some (b6 : Int) ∧ quarryref01_Byte.f k (pk b0 b1 b2 b3 b4 b5 b6 b7 : Nat) 7 = some (b7 : Int) := by
  have hw : pk b0 b1 b2 b3 b4 b5 b6 b7 < 18446744073709551616 := by unfold pk; omega
  have H : ∀ i : Nat, i < 8 → quarryref01_Byte.f k (pk b0 b1 b2 b3 b4 b5 b6 b7 : Nat) i = some ((pk b0 b1 b2 b3 b4 b5 b6 b7 / 256 ^ i % 256 : Nat) : Int) := by
    intro i hi
    have := byte_f i k _ 0 hw (by omega) hi (by omega)
    simpa [quarryref01_Byte.f] using this
  refine ⟨?_, ?_, ?_, ?_, ?_, ?_, ?_, ?_⟩
  · have := H 0 (by omega); rw [show ((0 : Int)) = ((0 : Nat) : Int) from rfl, this]; congr 2; unfold pk; omega
  · have := H 1 (by omega); rw [show ((1 : Int)) = ((1 : Nat) : Int) from rfl, this]; congr 2; unfold pk; omega
  · have := H 2 (by omega); rw [show ((2 : Int)) = ((2 : Nat) : Int) from rfl, this]; congr 2; unfold pk; omega
  · have := H 3 (by omega); rw [show ((3 : Int)) = ((3 : Nat) : Int) from rfl, this]; congr 2; unfold pk; omega
  · have := H 4 (by omega); rw [show ((4 : Int)) = ((4 : Nat) : Int) from rfl, this]; congr 2; unfold pk; omega
  · have := H 5 (by omega); rw [show ((5 : Int)) = ((5 : Nat) : Int) from rfl, this]; congr 2; unfold pk; omega
  · have := H 6 (by omega); rw [show ((6 : Int)) = ((6 : Nat) : Int) from rfl, this]; congr 2; unfold pk; omega
  · have := H 7 (by omega); rw [show ((7 : Int)) = ((7 : Nat) : Int) from rfl, this]; congr 2; unfold pk; omega

theorem wrap64_small (a b : Nat) (h : a + b < 65536) : wrap64 ((a : Int) + (b : Int)) = ((a + b : Nat) : Int) := by unfold wrap64; omega
theorem ref_sum {b0 b1 b2 b3 b4 b5 b6 b7 : Nat} (h : b0 < 256 ∧ b1 < 256 ∧ b2 < 256 ∧ b3 < 256 ∧ b4 < 256 ∧ b5 < 256 ∧ b6 < 256 ∧ b7 < 256) :
    quarryref01_Sum.f 20 (pk b0 b1 b2 b3 b4 b5 b6 b7 : Nat) = some ((b0 + b1 + b2 + b3 + b4 + b5 + b6 + b7 : Nat) : Int) := by
  have B := fun k hk => byte_pk h k hk
  obtain ⟨h0, h1, h2, h3, h4, h5, h6, h7⟩ := h
  unfold quarryref01_Sum.f
  simp only [quarryref01_Sum.l0]
  have w1 : wrap64 ((0 : Int) + 1) = 1 := by unfold wrap64; omega
  have w2 : wrap64 ((1 : Int) + 1) = 2 := by unfold wrap64; omega
  have w3 : wrap64 ((2 : Int) + 1) = 3 := by unfold wrap64; omega
  have w4 : wrap64 ((3 : Int) + 1) = 4 := by unfold wrap64; omega
  have w5 : wrap64 ((4 : Int) + 1) = 5 := by unfold wrap64; omega
  have w6 : wrap64 ((5 : Int) + 1) = 6 := by unfold wrap64; omega
  have w7 : wrap64 ((6 : Int) + 1) = 7 := by unfold wrap64; omega
  have w8 : wrap64 ((7 : Int) + 1) = 8 := by unfold wrap64; omega
  rw [if_pos (by omega), (B 19 (by omega)).1, Option.bind_some, w1, if_pos (by omega), (B 18 (by omega)).2.1, Option.bind_some, w2, if_pos (by omega), (B 17 (by omega)).2.2.1, Option.bind_some, w3,
    if_pos (by omega), (B 16 (by omega)).2.2.2.1, Option.bind_some, w4, if_pos (by omega), (B 15 (by omega)).2.2.2.2.1, Option.bind_some, w5, if_pos (by omega), (B 14 (by omega)).2.2.2.2.2.1, Option.bind_some, w6,
    if_pos (by omega), (B 13 (by omega)).2.2.2.2.2.2.1, Option.bind_some, w7, if_pos (by omega), (B 12 (by omega)).2.2.2.2.2.2.2, Option.bind_some, w8, if_neg (by omega)]
  rw [show (0 : Int) = ((0 : Nat) : Int) from rfl, wrap64_small _ _ (by omega), wrap64_small _ _ (by omega), wrap64_small _ _ (by omega), wrap64_small _ _ (by omega), wrap64_small _ _ (by omega), wrap64_small _ _ (by omega), wrap64_small _ _ (by omega), wrap64_small _ _ (by omega)]
  congr 2; omega

theorem LanesSums : quarrylaw01_LanesSums.Pure := by
  intro a0 hwf
  obtain ⟨w, rfl, hw⟩ : ∃ w : Nat, a0 = (w : Int) ∧ w < 18446744073709551616 := by
    have : 0 ≤ a0 ∧ a0 < 18446744073709551616 := by
      have := bounds_u64 hwf
      omega
    exact ⟨a0.toNat, by omega, by omega⟩
  obtain ⟨b0, b1, b2, b3, b4, b5, b6, b7, rfl, h⟩ := as_pk w hw
  refine ⟨20, ?_⟩
  unfold quarrylaw01_LanesSums.f
  rw [lanes_sum h, Option.bind_some, ref_sum h, Option.bind_some, if_pos rfl]
  have e : lanes_Sum.f 513 = some 3 := by
    have := lanes_sum (b0 := 1) (b1 := 2) (b2 := 0) (b3 := 0) (b4 := 0) (b5 := 0) (b6 := 0) (b7 := 0) (by omega)
    simpa [pk] using this
  rw [e]; rfl

end Go.Proofs.Ytjebhdncfjijgaa.Pure
