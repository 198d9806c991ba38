/- Chapters 13 and 14 (floats, shortest): plain words on the fewest digits. No conditions beside those that each contract names. -/
import Derived.Test.YtabmalnandbocaaGreatDoorMN
namespace Go.Proofs.YtabmalnandbocaaGreatDoor.Num
set_option exponentiation.threshold 3000
set_option linter.unusedVariables false
set_option linter.unusedSimpArgs false
set_option exponentiation.threshold 3000
open Go.Proofs.YtabmalnandbocaaGreatDoor.Mem Go.Proofs.YtabmalnandbocaaGreatDoor.Own Go.Proofs.YtabmalnandbocaaGreatDoor.Big
/-- The worth of a number's told form. -/
theorem told_rN (N : Nat) (e : Int) : rN (tl N) (te N e) * rD e = N * 10 ^ e.toNat * rD (te N e) := by
  by_cases hN : N = 0
  · subst hN
    rw [(told_tl 0).zero, rN_nil, Nat.zero_mul, Nat.zero_mul, Nat.zero_mul]
  · have hv := (told_tl N).val
    have he : te N e = e + (tz N : Nat) := by unfold te; rw [if_neg hN]
    rw [he]
    unfold rN rD
    have h1 : (e + (tz N : Nat)).toNat + (-e).toNat = tz N + e.toNat + (-(e + (tz N : Nat))).toNat := by omega
    calc dval (tl N) * 10 ^ (e + (tz N : Nat)).toNat * 10 ^ (-e).toNat = dval (tl N) * 10 ^ ((e + (tz N : Nat)).toNat + (-e).toNat) := by rw [Nat.pow_add, Nat.mul_assoc]
      _ = dval (tl N) * 10 ^ tz N * 10 ^ e.toNat * 10 ^ (-(e + (tz N : Nat))).toNat := by rw [h1, Nat.pow_add, Nat.pow_add]; simp only [Nat.mul_assoc]
      _ = _ := by rw [hv]
theorem tl_shift {N : Nat} (m : Nat) (e : Int) (h : N ≠ 0) : tl (N * 10 ^ m) = tl N ∧ te (N * 10 ^ m) e = te N (e + m) := by
  have hp : N * 10 ^ m ≠ 0 := Nat.ne_of_gt (Nat.mul_pos (by omega) (ten_pos m))
  have ht := told_tl N
  have h1 : Told (N * 10 ^ m) (tl N) (tz N + m) := ⟨ht.digs, ht.head, ht.last, by rw [Nat.pow_add, ← Nat.mul_assoc, ht.val]⟩
  obtain ⟨a, b⟩ := h1.one (told_tl _) hp
  refine ⟨a.symm, ?_⟩
  unfold te
  rw [if_neg hp, if_neg h, ← b]
  omega
/-- A candidate is past a middle. -/
theorem past_cand (N : Nat) (e : Int) (n : Nat) : past 52 1074 (tl N) (te N e) n ↔ (Rung.mid2 52 n * rD e < 2 * (N * 10 ^ e.toNat * 2 ^ 1074) ∨ Rung.mid2 52 n * rD e = 2 * (N * 10 ^ e.toNat * 2 ^ 1074) ∧ n % 2 = 1) := by
  have hw := told_rN N e
  have h1 := rD_pos e
  have h2 := rD_pos (te N e)
  unfold past
  generalize (2 : Nat) ^ 1074 = C at *
  generalize rN (tl N) (te N e) = R at *
  generalize rD (te N e) = D at *
  generalize rD e = E at *
  generalize N * 10 ^ e.toNat = Z at *
  generalize Rung.mid2 52 n = M at *
  have k1 : 2 * (R * C) * E = 2 * (Z * C) * D := by
    calc 2 * (R * C) * E = 2 * C * (R * E) := by grind
      _ = 2 * C * (Z * D) := by rw [hw]
      _ = _ := by grind
  have k2 : M * D * E = M * E * D := by grind
  have a1 : M * D < 2 * (R * C) ↔ M * E < 2 * (Z * C) := by
    rw [← Nat.mul_lt_mul_right h1, k1, k2, Nat.mul_lt_mul_right h2]
  have a2 : M * D = 2 * (R * C) ↔ M * E = 2 * (Z * C) := by
    constructor
    · intro h
      have : M * E * D = 2 * (Z * C) * D := by rw [← k1, ← k2, h]
      exact Nat.eq_of_mul_eq_mul_right h2 this
    · intro h
      have : M * D * E = 2 * (R * C) * E := by rw [k1, k2, h]
      exact Nat.eq_of_mul_eq_mul_right h1 this
  rw [a1, a2]
theorem past_mono {l : List UInt8} {e : Int} {m n : Nat} (h : past 52 1074 l e n) (hmn : m ≤ n) : past 52 1074 l e m := by
  rcases Nat.eq_or_lt_of_le hmn with rfl | hlt
  · exact h
  · have h1 := Nat.mul_lt_mul_of_pos_right (Rung.mid2_lt (b := 52) hlt) (rD_pos e)
    left
    rcases h with h | ⟨h, -⟩ <;> omega
/-- When a decimal comes to a float. -/
theorem near_iff {l : List UInt8} {e : Int} {k : Nat} (h : Canon l) (hk : k < Ieee.double.infRung) : near64 l e = k ↔ (¬ past 52 1074 l e k ∧ (0 < k → past 52 1074 l e (k - 1))) := by
  have hT := tests_64 e h
  have hle : near64 l e ≤ 9218868437227405312 := refF_le _ _ _ _ _
  rw [inf_num] at hk
  generalize near64 l e = R at *
  constructor
  · rintro rfl
    exact ⟨hT.1 hk, hT.2⟩
  · rintro ⟨h1, h2⟩
    rcases Nat.lt_trichotomy R k with h | h | h
    · exact absurd (past_mono (h2 (by omega)) (show R ≤ k - 1 by omega)) (hT.1 (by omega))
    · exact h
    · exact absurd (past_mono (hT.2 (by omega)) (show k ≤ R - 1 by omega)) h1
/-- The digits of a number cut in two. -/
theorem dval_cut (l : List UInt8) (n : Nat) : dval l = dval (l.take n) * 10 ^ (l.length - n) + dval (l.drop n) := by
  conv => lhs; rw [← List.take_append_drop n l]
  rw [dval_app, List.length_drop]
/-- Any number within half a step of the seventeenth digit comes to the float. -/
theorem seventeen {k N : Nat} (hk : k < Ieee.double.infRung) (hl : 17 ≤ (exL k).length) (h1 : 2 * N ≤ 2 * dval (exL k) + 10 ^ ((exL k).length - 17)) (h2 : 2 * dval (exL k) ≤ 2 * N + 10 ^ ((exL k).length - 17)) :
    near64 (tl N) (te N (exE k)) = k := by
  have hw := ex_worth k
  have hne : exL k ≠ [] := by intro h; rw [h] at hl; simp at hl
  have hb := (canon_bounds (told_canon _) hne).1
  rw [near_iff (told_canon N) hk, past_cand, past_cand]
  have hrD := rD_pos (exE k)
  have hC : 0 < (2 : Nat) ^ 1074 := Nat.pow_pos (by decide)
  have h10 := ten_pos (exE k).toNat
  obtain ⟨m, hm⟩ : ∃ m, (exL k).length = m + 17 := ⟨(exL k).length - 17, by omega⟩
  have hU := ten_pos m
  rw [hm, Nat.add_sub_cancel] at h1 h2
  rw [hm, show m + 17 - 1 = m + 16 from rfl, Nat.pow_add] at hb
  unfold rN at hw
  have hk0 : 0 < k := by
    apply Nat.pos_of_ne_zero
    rintro rfl
    exact hne (ex_nil.2 rfl)
  have hW1 : Rung.W 52 (k + 1) = Rung.W 52 k + 2 ^ Rung.expo 52 k := by rw [Rung.W_succ]; unfold Rung.W; grind
  have hW0 : Rung.W 52 k = Rung.W 52 (k - 1) + 2 ^ Rung.expo 52 (k - 1) := by
    have := Rung.W_succ 52 (k - 1)
    rw [show k - 1 + 1 = k by omega] at this
    rw [this]; unfold Rung.W; grind
  have hM1 : Rung.W 52 k < 9007199254740992 * 2 ^ Rung.expo 52 k := Nat.mul_lt_mul_of_pos_right (Nat.lt_of_lt_of_le (Rung.mant_lt 52 k) (by decide)) (Nat.pow_pos (by decide))
  have hM0 : Rung.W 52 k ≤ 9007199254740992 * 2 ^ Rung.expo 52 (k - 1) := by
    have := Rung.W_succ 52 (k - 1)
    rw [show k - 1 + 1 = k by omega] at this
    rw [this]
    exact Nat.mul_le_mul_right _ (Nat.lt_of_lt_of_le (Rung.mant_lt 52 (k - 1)) (by decide))
  have e1 := Rung.mid2_eq 52 k
  have e0 := Rung.mid2_eq 52 (k - 1)
  rw [show k - 1 + 1 = k by omega] at e0
  rw [e1, e0, hW1]
  generalize dval (exL k) = A at *
  generalize (10 : Nat) ^ (exE k).toNat = T at *
  generalize (2 : Nat) ^ 1074 = C at *
  generalize rD (exE k) = D at *
  generalize (10 : Nat) ^ m = U at *
  generalize (2 : Nat) ^ Rung.expo 52 k = G1 at *
  generalize (2 : Nat) ^ Rung.expo 52 (k - 1) = G0 at *
  generalize Rung.W 52 (k - 1) = V0 at *
  generalize Rung.W 52 k = V at *
  have hTC : 0 < T * C := Nat.mul_pos h10 hC
  -- all is scaled by T * C
  have s1 : 2 * (N * T * C) ≤ 2 * (V * D) + U * (T * C) := by
    have := Nat.mul_le_mul_right (T * C) h1
    rw [← hw]
    calc 2 * (N * T * C) = 2 * N * (T * C) := by grind
      _ ≤ (2 * A + U) * (T * C) := this
      _ = _ := by grind
  have s2 : 2 * (V * D) ≤ 2 * (N * T * C) + U * (T * C) := by
    have := Nat.mul_le_mul_right (T * C) h2
    rw [← hw]
    calc 2 * (A * T * C) = 2 * A * (T * C) := by grind
      _ ≤ (2 * N + U) * (T * C) := this
      _ = _ := by grind
  have s3 : U * 10000000000000000 * (T * C) ≤ V * D := by
    rw [← hw, Nat.mul_assoc A]
    exact Nat.mul_le_mul_right _ hb
  have g1 : U * (T * C) < G1 * D := by
    have := Nat.mul_lt_mul_of_pos_right hM1 hrD
    apply Nat.lt_of_not_le
    intro hc
    have : 9007199254740992 * G1 * D = 9007199254740992 * (G1 * D) := Nat.mul_assoc ..
    have : U * 10000000000000000 * (T * C) = 10000000000000000 * (U * (T * C)) := by grind
    omega
  have g0 : U * (T * C) < G0 * D := by
    have := Nat.mul_le_mul_right D hM0
    have : 0 < U * (T * C) := Nat.mul_pos hU hTC
    apply Nat.lt_of_not_le
    intro hc
    have : 9007199254740992 * G0 * D = 9007199254740992 * (G0 * D) := Nat.mul_assoc ..
    have : U * 10000000000000000 * (T * C) = 10000000000000000 * (U * (T * C)) := by grind
    omega
  have f1 : (V + (V + G1)) * D = 2 * (V * D) + G1 * D := by grind
  have f0 : 2 * (V * D) = (V0 + V) * D + G0 * D := by rw [hW0]; grind
  rw [f1]
  refine ⟨?_, fun _ => .inl ?_⟩ <;> omega
end Go.Proofs.YtabmalnandbocaaGreatDoor.Num
namespace Go.Proofs.YtabmalnandbocaaGreatDoor.Num
set_option exponentiation.threshold 3000
set_option linter.unusedVariables false
set_option linter.unusedSimpArgs false
set_option exponentiation.threshold 3000
open Go.Proofs.YtabmalnandbocaaGreatDoor.Mem Go.Proofs.YtabmalnandbocaaGreatDoor.Own Go.Proofs.YtabmalnandbocaaGreatDoor.Big
/-- The search: at each count of digits the nearer candidate first, then the other one. -/
def pickF (ok : Nat → Bool → Bool) (nr : Nat → Bool) : Nat → Nat → Option (Nat × Bool)
  | 0, _ => none
  | k + 1, n => if ok n (nr n) = true then some (n, nr n) else if ok n (!nr n) = true then some (n, !nr n) else pickF ok nr k (n + 1)
theorem pickF_more {ok : Nat → Bool → Bool} {nr : Nat → Bool} : ∀ (k j n : Nat), (∃ i, i < k ∧ ok (n + i) (nr (n + i)) = true) → pickF ok nr (k + j) n = pickF ok nr k n := by
  intro k
  induction k with
  | zero => rintro j n ⟨i, hi, -⟩; omega
  | succ k ih =>
    rintro j n ⟨i, hi, hok⟩
    rw [show k + 1 + j = (k + j) + 1 by omega]
    unfold pickF
    by_cases h1 : ok n (nr n) = true
    · rw [if_pos h1, if_pos h1]
    · rw [if_neg h1, if_neg h1]
      by_cases h2 : ok n (!nr n) = true
      · rw [if_pos h2, if_pos h2]
      · rw [if_neg h2, if_neg h2]
        cases i with
        | zero => exact absurd hok h1
        | succ i => exact ih j (n + 1) ⟨i, by omega, by rw [show n + 1 + i = n + (i + 1) by omega]; exact hok⟩
/-- What is found: it comes, nothing comes earlier, and the nearer one is taken where it comes. -/
theorem pickF_some {ok : Nat → Bool → Bool} {nr : Nat → Bool} : ∀ {k n m : Nat} {u : Bool}, pickF ok nr k n = some (m, u) → n ≤ m ∧ m < n + k ∧ ok m u = true ∧ (u = nr m ∨ ok m (nr m) = false) ∧ ∀ i v, n ≤ i → i < m → ok i v = false := by
  intro k
  induction k with
  | zero => intro n m u h; simp [pickF] at h
  | succ k ih =>
    intro n m u h
    unfold pickF at h
    by_cases h1 : ok n (nr n) = true
    · rw [if_pos h1] at h
      obtain ⟨rfl, rfl⟩ := Prod.mk.inj (Option.some.inj h)
      exact ⟨Nat.le_refl _, by omega, h1, .inl rfl, fun i v a b => by omega⟩
    · rw [if_neg h1] at h
      by_cases h2 : ok n (!nr n) = true
      · rw [if_pos h2] at h
        obtain ⟨rfl, rfl⟩ := Prod.mk.inj (Option.some.inj h)
        exact ⟨Nat.le_refl _, by omega, h2, .inr (by simpa using h1), fun i v a b => by omega⟩
      · rw [if_neg h2] at h
        obtain ⟨a, b, c, d, e⟩ := ih h
        refine ⟨by omega, by omega, c, d, fun i v hi hm => ?_⟩
        by_cases hin : i = n
        · subst hin
          cases hv : nr i <;> rw [hv] at h1 h2 <;> cases v <;> simp_all
        · exact e i v (by omega) hm
theorem pickF_none {ok : Nat → Bool → Bool} {nr : Nat → Bool} : ∀ {k n : Nat}, pickF ok nr k n = none → ∀ i v, n ≤ i → i < n + k → ok i v = false := by
  intro k
  induction k with
  | zero => intro n h i v a b; omega
  | succ k ih =>
    intro n h i v hi hk
    unfold pickF at h
    by_cases h1 : ok n (nr n) = true
    · rw [if_pos h1] at h; cases h
    · rw [if_neg h1] at h
      by_cases h2 : ok n (!nr n) = true
      · rw [if_pos h2] at h; cases h
      · rw [if_neg h2] at h
        by_cases hin : i = n
        · subst hin
          cases hv : nr i <;> rw [hv] at h1 h2 <;> cases v <;> simp_all
        · exact ih h i v (by omega) (by omega)
/-- What is left out against half of the last digit that stays. -/
theorem half_cmp (d : UInt8) (t : List UInt8) (h : isDigs (d :: t)) (hl : ∀ c, (d :: t).getLast? = some c → c.toNat ≠ 48) :
    cmpI (2 * dval (d :: t)) (10 ^ (t.length + 1)) = if d.toNat < 53 then -1 else if 53 < d.toNat then 1 else if t = [] then 0 else 1 := by
  have hd := h d (by simp)
  have ht : isDigs t := fun c hc => h c (by simp [hc])
  have hlt := dval_lt ht
  rw [dval_cons, Nat.pow_succ]
  have hp := ten_pos t.length
  generalize hP : (10 : Nat) ^ t.length = P at *
  obtain ⟨a, ha⟩ : ∃ a, d.toNat = a + 48 := ⟨d.toNat - 48, by omega⟩
  rw [ha, Nat.add_sub_cancel]
  have ha9 : a ≤ 9 := by omega
  by_cases h1 : a + 48 < 53
  · rw [if_pos h1]
    refine cmpI_l ?_
    have : a * P ≤ 4 * P := Nat.mul_le_mul_right _ (by omega)
    omega
  · rw [if_neg h1]
    by_cases h2 : 53 < a + 48
    · rw [if_pos h2]
      refine cmpI_g ?_
      have : 6 * P ≤ a * P := Nat.mul_le_mul_right _ (by omega)
      omega
    · rw [if_neg h2]
      obtain rfl : a = 5 := by omega
      by_cases h3 : t = []
      · rw [if_pos h3]
        subst h3
        refine cmpI_e ?_
        simp [dval] at hP ⊢
        omega
      · rw [if_neg h3]
        refine cmpI_g ?_
        have := last_pos ht (last_tail hl) h3
        omega
/-- Is the upper candidate the nearer one (half way: the one whose last digit is even)? -/
def nrF (l : List UInt8) (n : Nat) : Bool := decide (10 ^ (l.length - n) < 2 * dval (l.drop n)) || (decide (2 * dval (l.drop n) = 10 ^ (l.length - n)) && decide (dval (l.take n) % 2 = 1))
/-- The number of a candidate, in units of its last digit. -/
def cN (l : List UInt8) (n : Nat) (u : Bool) : Nat := dval (l.take n) + (if u then 1 else 0)
noncomputable def cL (l : List UInt8) (n : Nat) (u : Bool) : List UInt8 := tl (cN l n u)
noncomputable def cE (l : List UInt8) (e : Int) (n : Nat) (u : Bool) : Int := te (cN l n u) (e + ((l.length - n : Nat) : Int))
/-- Does it come to the float of a number? -/
noncomputable def okF (k : Nat) (n : Nat) (u : Bool) : Bool := decide (near64 (cL (exL k) n u) (cE (exL k) (exE k) n u) = k)
noncomputable def digF (k : Nat) : Option (Nat × Bool) := pickF (okF k) (nrF (exL k)) ((exL k).length - 1) 1
noncomputable def dL (k : Nat) : List UInt8 := match digF k with | none => exL k | some (n, u) => cL (exL k) n u
noncomputable def dE (k : Nat) : Int := match digF k with | none => exE k | some (n, u) => cE (exL k) (exE k) n u
theorem ok_17 {k : Nat} (hk : k < Ieee.double.infRung) (hl : 17 < (exL k).length) : okF k 17 (nrF (exL k) 17) = true := by
  have hc := told_canon (xN (Rung.mant 52 k) (-1074 + (Rung.expo 52 k : Nat)))
  have hcut := dval_cut (exL k) 17
  have hdl : dval ((exL k).drop 17) < 10 ^ ((exL k).length - 17) := by
    have := dval_lt (l := (exL k).drop 17) (fun c hc' => hc.digs c (List.mem_of_mem_drop hc'))
    rwa [List.length_drop] at this
  have ht0 : cN (exL k) 17 (nrF (exL k) 17) ≠ 0 := by
    have h1 : HeadOk ((exL k).take 17) := by
      refine ⟨fun c hc' => hc.digs c (List.mem_of_mem_take hc'), fun c hc' => hc.head c ?_⟩
      rw [List.head?_take] at hc'
      simpa using hc'
    have h2 : (exL k).take 17 ≠ [] := by
      intro h
      have := congrArg List.length h
      rw [List.length_take, List.length_nil] at this
      omega
    have h3 := rN_pos h1 h2 0
    unfold rN at h3
    have : dval ((exL k).take 17) ≠ 0 := by intro h; rw [h] at h3; simp at h3
    unfold cN
    exact Nat.ne_of_gt (Nat.lt_of_lt_of_le (Nat.pos_of_ne_zero this) (Nat.le_add_right _ _))
  obtain ⟨s1, s2⟩ := tl_shift ((exL k).length - 17) (exE k) ht0
  unfold okF cL cE
  rw [decide_eq_true_iff, ← s1, ← s2]
  refine seventeen hk (by omega) ?_ ?_
  all_goals
    unfold cN nrF
    generalize dval ((exL k).drop 17) = R at *
    generalize dval ((exL k).take 17) = T at *
    generalize dval (exL k) = A at *
    generalize 10 ^ ((exL k).length - 17) = U at *
    subst hcut
    by_cases h1 : U < 2 * R
    · simp only [h1, decide_true, Bool.true_or, if_true]
      have : (T + 1) * U = T * U + U := by grind
      omega
    · simp only [h1, decide_false, Bool.false_or]
      by_cases h2 : (decide (2 * R = U) && decide (T % 2 = 1)) = true
      · rw [h2, if_pos rfl]
        have h3 : 2 * R = U := by simp at h2; exact h2.1
        have : (T + 1) * U = T * U + U := by grind
        omega
      · rw [if_neg h2]
        rw [Nat.add_zero]
        omega
/-- Seventeen digits are enough: the program's bound changes nothing. -/
theorem dig_most {k : Nat} (hk : k < Ieee.double.infRung) : pickF (okF k) (nrF (exL k)) (min ((exL k).length - 1) 17) 1 = digF k := by
  unfold digF
  by_cases h : (exL k).length - 1 ≤ 17
  · rw [Nat.min_eq_left h]
  · rw [Nat.min_eq_right (by omega)]
    obtain ⟨j, hj⟩ : ∃ j, (exL k).length - 1 = 17 + j := ⟨(exL k).length - 1 - 17, by omega⟩
    rw [hj]
    exact (pickF_more 17 j 1 ⟨16, by decide, ok_17 hk (by omega)⟩).symm
end Go.Proofs.YtabmalnandbocaaGreatDoor.Num
namespace Go.Proofs.YtabmalnandbocaaGreatDoor.Num
set_option exponentiation.threshold 3000
set_option linter.unusedVariables false
set_option linter.unusedSimpArgs false
set_option exponentiation.threshold 3000
open Go.Proofs.YtabmalnandbocaaGreatDoor.Mem Go.Proofs.YtabmalnandbocaaGreatDoor.Own Go.Proofs.YtabmalnandbocaaGreatDoor.Big
theorem tl_len_le {N n : Nat} (hn : 1 ≤ n) (h : N ≤ 10 ^ n) : (tl N).length ≤ n := by
  have lt : ∀ M m : Nat, M < 10 ^ m → (tl M).length ≤ m := by
    intro M m hM
    by_cases h0 : tl M = []
    · rw [h0]; simp
    · have h1 := (canon_bounds (told_canon M) h0).1
      have h2 := (told_tl M).val
      have h3 : dval (tl M) ≤ M := by
        conv => rhs; rw [← h2]
        exact Nat.le_mul_of_pos_right _ (ten_pos _)
      have := (Nat.pow_lt_pow_iff_right (show 1 < 10 by decide)).1 (Nat.lt_of_le_of_lt h1 (Nat.lt_of_le_of_lt h3 hM))
      omega
  rcases Nat.eq_or_lt_of_le h with rfl | h
  · have := (tl_shift (N := 1) n 0 (by decide)).1
    rw [Nat.one_mul] at this
    rw [this]
    exact Nat.le_trans (lt 1 1 (by decide)) hn
  · exact lt N n h
theorem take_lt {l : List UInt8} (h : Canon l) (n : Nat) : dval (l.take n) < 10 ^ n := by
  have h1 := dval_lt (l := l.take n) (fun c hc => h.digs c (List.mem_of_mem_take hc))
  exact Nat.lt_of_lt_of_le h1 (Nat.pow_le_pow_right (by decide) (List.length_take_le _ _))
theorem take_ge {l : List UInt8} (h : Canon l) {n : Nat} (h1 : 1 ≤ n) (h2 : n ≤ l.length) : 10 ^ (n - 1) ≤ dval (l.take n) := by
  cases l with
  | nil => simp at h2; omega
  | cons c t =>
    obtain ⟨n, rfl⟩ : ∃ m, n = m + 1 := ⟨n - 1, by omega⟩
    rw [List.take_succ_cons, Nat.add_sub_cancel]
    have hg := dval_ge (l := t.take n) (c := c) (fun d hd => h.digs d (by
      rcases List.mem_cons.1 hd with rfl | hd
      · simp
      · exact List.mem_cons_of_mem _ (List.mem_of_mem_take hd))) (h.head c rfl)
    rw [List.length_take, Nat.min_eq_left (by simpa using h2)] at hg
    exact hg
theorem cN_le {l : List UInt8} (h : Canon l) (n : Nat) (u : Bool) : cN l n u ≤ 10 ^ n := by
  have := take_lt h n
  unfold cN
  cases u <;> simp <;> omega
theorem cN_pos {l : List UInt8} (h : Canon l) {n : Nat} (h1 : 1 ≤ n) (h2 : n ≤ l.length) (u : Bool) : cN l n u ≠ 0 := by
  have := take_ge h h1 h2
  have := ten_pos (n - 1)
  unfold cN
  cases u <;> simp <;> omega
theorem cross_le {N : Nat} {E : Int} {l : List UInt8} {e : Int} (h : N * 10 ^ E.toNat * rD e ≤ rN l e * rD E) : rN (tl N) (te N E) * rD e ≤ rN l e * rD (te N E) := by
  have hw := told_rN N E
  have h2 := rD_pos (te N E)
  refine Nat.le_of_mul_le_mul_right ?_ (rD_pos E)
  have := Nat.mul_le_mul_right (rD (te N E)) h
  generalize rN (tl N) (te N E) = R at *
  generalize rD (te N E) = D at *
  calc R * rD e * rD E = R * rD E * rD e := by grind
    _ = N * 10 ^ E.toNat * rD e * D := by rw [hw]; grind
    _ ≤ rN l e * rD E * D := this
    _ = _ := by grind
theorem cross_ge {N : Nat} {E : Int} {l : List UInt8} {e : Int} (h : rN l e * rD E ≤ N * 10 ^ E.toNat * rD e) : rN l e * rD (te N E) ≤ rN (tl N) (te N E) * rD e := by
  have hw := told_rN N E
  have h2 := rD_pos (te N E)
  refine Nat.le_of_mul_le_mul_right ?_ (rD_pos E)
  have := Nat.mul_le_mul_right (rD (te N E)) h
  generalize rN (tl N) (te N E) = R at *
  generalize rD (te N E) = D at *
  calc rN l e * D * rD E = rN l e * rD E * D := by grind
    _ ≤ N * 10 ^ E.toNat * rD e * D := this
    _ = R * rD E * rD e := by rw [hw]; grind
    _ = _ := by grind
/-- The decimal lies at a lower exponent. -/
theorem low_scale (N A d : Nat) (l : List UInt8) (hA : dval l = A) {e E : Int} (h : E = e + d) : ∃ Q, N * 10 ^ E.toNat * rD e = N * 10 ^ d * Q ∧ rN l e * rD E = A * Q := by
  subst hA
  refine ⟨10 ^ e.toNat * 10 ^ (-E).toNat, ?_, ?_⟩
  · unfold rD
    have : E.toNat + (-e).toNat = d + (e.toNat + (-E).toNat) := by omega
    rw [Nat.mul_assoc, ← Nat.pow_add, this, Nat.pow_add, Nat.pow_add, Nat.mul_assoc]
  · unfold rN rD; rw [Nat.mul_assoc]
/-- The decimal lies at a higher exponent. -/
theorem high_scale (N A d : Nat) (l : List UInt8) (hA : dval l = A) {e E : Int} (h : e = E + d) : ∃ Q, N * 10 ^ E.toNat * rD e = N * Q ∧ rN l e * rD E = A * 10 ^ d * Q := by
  subst hA
  refine ⟨10 ^ E.toNat * 10 ^ (-e).toNat, ?_, ?_⟩
  · unfold rD; rw [Nat.mul_assoc]
  · unfold rN rD
    have : e.toNat + (-E).toNat = d + (E.toNat + (-e).toNat) := by omega
    rw [Nat.mul_assoc, ← Nat.pow_add, this, Nat.pow_add, Nat.pow_add, Nat.mul_assoc]
theorem near64_le {la lb : List UInt8} {ea eb : Int} (ha : Canon la) (hb : Canon lb) (hle : rN la ea * rD eb ≤ rN lb eb * rD ea) : near64 la ea ≤ near64 lb eb :=
  near_le (by decide) (by decide) (by decide) over_64 ha hb hle
/-- The candidates lie about the float's worth. -/
theorem about_low (k n : Nat) : near64 (cL (exL k) n false) (cE (exL k) (exE k) n false) ≤ near64 (exL k) (exE k) := by
  refine near64_le (told_canon _) (told_canon _) (cross_le ?_)
  obtain ⟨Q, q1, q2⟩ := low_scale (cN (exL k) n false) (dval (exL k)) ((exL k).length - n) (exL k) rfl (e := exE k) rfl
  rw [q1, q2]
  refine Nat.mul_le_mul_right _ ?_
  have := dval_cut (exL k) n
  unfold cN
  simp
  omega
theorem about_high {k : Nat} (n : Nat) : near64 (exL k) (exE k) ≤ near64 (cL (exL k) n true) (cE (exL k) (exE k) n true) := by
  have hc : Canon (exL k) := told_canon _
  refine near64_le (told_canon _) (told_canon _) (cross_ge ?_)
  obtain ⟨Q, q1, q2⟩ := low_scale (cN (exL k) n true) (dval (exL k)) ((exL k).length - n) (exL k) rfl (e := exE k) rfl
  rw [q1, q2]
  refine Nat.mul_le_mul_right _ ?_
  have h1 := dval_cut (exL k) n
  have h2 := dval_lt (l := (exL k).drop n) (fun c hc' => hc.digs c (List.mem_of_mem_drop hc'))
  rw [List.length_drop] at h2
  unfold cN
  simp only [if_true]
  have : (dval ((exL k).take n) + 1) * 10 ^ ((exL k).length - n) = dval ((exL k).take n) * 10 ^ ((exL k).length - n) + 10 ^ ((exL k).length - n) := by grind
  omega
/-- A decimal of so many digits that comes to the float: a candidate of as many comes to it. -/
theorem ok_of {k : Nat} {l : List UInt8} {e : Int} (hk : k < Ieee.double.infRung) (h : Canon l) (hn : near64 l e = k) (h1 : 1 ≤ l.length) (h2 : l.length < (exL k).length) : ∃ u, okF k l.length u = true := by
  have hc : Canon (exL k) := told_canon _
  have hx := near_ex hk
  have hlt := dval_lt h.digs
  have hge := take_ge hc h1 (by omega)
  have hA := about_low k l.length
  have hB := about_high (k := k) l.length
  rw [hx] at hA hB
  have key : rN l e * rD (cE (exL k) (exE k) l.length false) ≤ rN (cL (exL k) l.length false) (cE (exL k) (exE k) l.length false) * rD e ∨ rN (cL (exL k) l.length true) (cE (exL k) (exE k) l.length true) * rD e ≤ rN l e * rD (cE (exL k) (exE k) l.length true) := by
    obtain ⟨E, hE⟩ : ∃ E, E = exE k + (((exL k).length - l.length : Nat) : Int) := ⟨_, rfl⟩
    have e1 : ∀ u, cE (exL k) (exE k) l.length u = te (cN (exL k) l.length u) E := fun u => by rw [hE]; rfl
    rw [e1, e1]
    by_cases hEe : E ≤ e
    · obtain ⟨d, hd⟩ : ∃ d : Nat, e = E + d := ⟨(e - E).toNat, by omega⟩
      by_cases hM : dval l * 10 ^ d ≤ cN (exL k) l.length false
      · left
        refine cross_ge ?_
        obtain ⟨Q, q1, q2⟩ := high_scale (cN (exL k) l.length false) _ d l rfl hd
        rw [q1, q2]
        exact Nat.mul_le_mul_right _ hM
      · right
        refine cross_le ?_
        obtain ⟨Q, q1, q2⟩ := high_scale (cN (exL k) l.length true) _ d l rfl hd
        rw [q1, q2]
        refine Nat.mul_le_mul_right _ ?_
        unfold cN at hM ⊢
        simp at hM ⊢
        omega
    · left
      obtain ⟨d, hd⟩ : ∃ d : Nat, E = e + d := ⟨(E - e).toNat, by omega⟩
      refine cross_ge ?_
      obtain ⟨Q, q1, q2⟩ := low_scale (cN (exL k) l.length false) _ d l rfl hd
      rw [q1, q2]
      refine Nat.mul_le_mul_right _ ?_
      obtain ⟨d', rfl⟩ : ∃ d', d = d' + 1 := ⟨d - 1, by omega⟩
      have h10 : 10 ^ l.length = 10 ^ (l.length - 1) * 10 := by rw [← Nat.pow_succ]; congr 1; omega
      have hp := ten_pos d'
      have h3 : 10 ^ (l.length - 1) * 10 ≤ cN (exL k) l.length false * 10 ^ (d' + 1) := by
        rw [Nat.pow_succ, ← Nat.mul_assoc]
        refine Nat.mul_le_mul_right _ (Nat.le_trans ?_ (Nat.le_mul_of_pos_right _ hp))
        unfold cN
        simpa using hge
      omega
  rcases key with h' | h'
  · refine ⟨false, ?_⟩
    have := near64_le h (told_canon _) h'
    rw [hn] at this
    unfold okF
    rw [decide_eq_true_iff]
    exact Nat.le_antisymm hA this
  · refine ⟨true, ?_⟩
    have := near64_le (told_canon _) h h'
    rw [hn] at this
    unfold okF
    rw [decide_eq_true_iff]
    exact Nat.le_antisymm this hB
theorem dL_len {k : Nat} {n : Nat} {u : Bool} (h : digF k = some (n, u)) : dL k = cL (exL k) n u ∧ dE k = cE (exL k) (exE k) n u := by
  unfold dL dE; rw [h]; exact ⟨rfl, rfl⟩
theorem dL_none {k : Nat} (h : digF k = none) : dL k = exL k ∧ dE k = exE k := by
  unfold dL dE; rw [h]; exact ⟨rfl, rfl⟩
/-- No decimal that comes to the float has fewer digits. -/
theorem dig_fewest {k : Nat} {l : List UInt8} {e : Int} (hk : k < Ieee.double.infRung) (h : Canon l) (hn : near64 l e = k) : (dL k).length ≤ l.length := by
  have hc : Canon (exL k) := told_canon _
  by_cases h0 : l.length = 0
  · obtain rfl : l = [] := List.eq_nil_of_length_eq_zero h0
    have : k = 0 := by rw [← hn]; show refF 52 1074 _ [] e = 0; unfold refF; rw [if_pos (.inl rfl)]
    subst this
    have hx : exL 0 = [] := ex_nil.2 rfl
    cases hd : digF 0 with
    | none => rw [(dL_none hd).1, hx]; simp
    | some p =>
      obtain ⟨n, u⟩ := p
      unfold digF at hd
      rw [hx] at hd
      simp [pickF] at hd
  · cases hd : digF k with
    | none =>
      rw [(dL_none hd).1]
      apply Nat.le_of_not_lt
      intro hlt
      obtain ⟨u, hu⟩ := ok_of hk h hn (by omega) hlt
      rw [pickF_none hd l.length u (by omega) (by omega)] at hu
      cases hu
    | some p =>
      obtain ⟨n, u⟩ := p
      obtain ⟨a, b, c, d, f⟩ := pickF_some hd
      rw [(dL_len hd).1]
      have h3 : (cL (exL k) n u).length ≤ n := tl_len_le a (cN_le hc n u)
      apply Nat.le_of_not_lt
      intro hlt
      obtain ⟨v, hv⟩ := ok_of hk h hn (by omega) (by omega)
      rw [f l.length v (by omega) (by omega)] at hv
      cases hv
theorem dig_near {k : Nat} (hk : k < Ieee.double.infRung) : near64 (dL k) (dE k) = k := by
  cases hd : digF k with
  | none => rw [(dL_none hd).1, (dL_none hd).2]; exact near_ex hk
  | some p =>
    obtain ⟨n, u⟩ := p
    rw [(dL_len hd).1, (dL_len hd).2]
    have := (pickF_some hd).2.2.1
    unfold okF at this
    exact of_decide_eq_true this
theorem dig_17 {k : Nat} (hk : k < Ieee.double.infRung) : (dL k).length ≤ 17 := by
  have hc : Canon (exL k) := told_canon _
  have hm := dig_most hk
  cases hd : digF k with
  | none =>
    rw [(dL_none hd).1]
    apply Nat.le_of_not_lt
    intro hlt
    have h1 := ok_17 hk hlt
    rw [pickF_none hd 17 _ (by decide) (by omega)] at h1
    cases h1
  | some p =>
    obtain ⟨n, u⟩ := p
    rw [hd] at hm
    obtain ⟨a, b, -⟩ := pickF_some hm
    rw [(dL_len hd).1]
    exact Nat.le_trans (tl_len_le a (cN_le hc n u)) (by omega)
theorem dig_canon (k : Nat) : Canon (dL k) := by
  cases hd : digF k with
  | none => rw [(dL_none hd).1]; exact told_canon _
  | some p => rw [(dL_len (u := p.2) (n := p.1) hd).1]; exact told_canon _
/-- The digits that are found are as many as the search says. -/
theorem dig_count {k n : Nat} {u : Bool} (hk : k < Ieee.double.infRung) (h : digF k = some (n, u)) : (dL k).length = n := by
  have hc : Canon (exL k) := told_canon _
  obtain ⟨a, b, c, d, f⟩ := pickF_some h
  have hle : (dL k).length ≤ n := by rw [(dL_len h).1]; exact tl_len_le a (cN_le hc n u)
  rcases Nat.eq_or_lt_of_le hle with h1 | h1
  · exact h1
  · exfalso
    have hn := dig_near hk
    have h0 : 1 ≤ (dL k).length := by
      apply Nat.pos_of_ne_zero
      intro h0
      have hnil : dL k = [] := List.eq_nil_of_length_eq_zero h0
      have hx : exL k = [] := by
        rw [ex_nil]
        rw [hnil] at hn
        rw [← hn]; show refF 52 1074 _ [] _ = 0; unfold refF; rw [if_pos (.inl rfl)]
      rw [hx] at b
      simp at b
      omega
    obtain ⟨v, hv⟩ := ok_of hk (dig_canon k) hn h0 (by omega)
    rw [f _ v h0 h1] at hv
    cases hv
theorem tz_lt {N n : Nat} (h0 : N ≠ 0) (h : N ≤ 10 ^ n) : tz N ≤ n := by
  have hv := (told_tl N).val
  have hp := dval_pos (told_tl N).ok ((told_tl N).ne h0)
  refine (Nat.pow_le_pow_iff_right (show 1 < 10 by decide)).1 (Nat.le_trans ?_ h)
  calc 10 ^ tz N = 1 * 10 ^ tz N := (Nat.one_mul _).symm
    _ ≤ dval (tl N) * 10 ^ tz N := Nat.mul_le_mul_right _ (by omega)
    _ = N := hv
theorem ex_bounds {k : Nat} (hk : k < Ieee.double.infRung) : (exL k).length ≤ 3000 ∧ -3000 ≤ exE k ∧ exE k ≤ 3000 := by
  have hx := expo_52 hk
  have hm := Nat.lt_of_lt_of_le (Rung.mant_lt 52 k) (show 2 ^ (52 + 1) ≤ 100000000000000000000 by decide)
  obtain ⟨j, hj, hlt⟩ := xN_lt (e := -1074 + ((Rung.expo 52 k : Nat) : Int)) hm
  have hj2 : j ≤ 1100 := by split at hj <;> omega
  have hle : xN (Rung.mant 52 k) (-1074 + ((Rung.expo 52 k : Nat) : Int)) ≤ 10 ^ (20 + j) := Nat.le_of_lt hlt
  have h1 : (exL k).length ≤ 20 + j := tl_len_le (by omega) hle
  refine ⟨by omega, ?_⟩
  show -3000 ≤ te _ (xE _) ∧ te _ (xE _) ≤ 3000
  by_cases h0 : xN (Rung.mant 52 k) (-1074 + ((Rung.expo 52 k : Nat) : Int)) = 0
  · unfold te; rw [if_pos h0]; omega
  · have := tz_lt h0 hle
    unfold te xE
    rw [if_neg h0]
    split <;> omega
/-- The decimal that is found is one in its one form. -/
theorem dig_form {k : Nat} (hk : k < Ieee.double.infRung) : Form (dL k) (dE k) := by
  have hc : Canon (exL k) := told_canon _
  have hf := ex_form hk
  obtain ⟨b1, b2, b3⟩ := ex_bounds hk
  cases hd : digF k with
  | none => rw [(dL_none hd).1, (dL_none hd).2]; exact hf
  | some p =>
    obtain ⟨n, u⟩ := p
    obtain ⟨a, b, c, d, f⟩ := pickF_some hd
    have h0 := cN_pos hc a (by omega) u
    have hz := tz_lt h0 (cN_le hc n u)
    rw [(dL_len hd).1, (dL_len hd).2]
    refine .inr ⟨(told_tl _).ne h0, told_canon _, ?_⟩
    unfold cE te
    rw [if_neg h0]
    omega
end Go.Proofs.YtabmalnandbocaaGreatDoor.Num
namespace Go.Proofs.YtabmalnandbocaaGreatDoor.Num
set_option exponentiation.threshold 3000
set_option linter.unusedVariables false
set_option linter.unusedSimpArgs false
set_option exponentiation.threshold 3000
open Go.Proofs.YtabmalnandbocaaGreatDoor.Mem Go.Proofs.YtabmalnandbocaaGreatDoor.Own Go.Proofs.YtabmalnandbocaaGreatDoor.Big
/-- The reference's search: the lower one, if it comes and is not the farther of two; else the upper one, if it comes. -/
def pickR (ok : Nat → Bool → Bool) (nr : Nat → Bool) : Nat → Nat → Option (Nat × Bool)
  | 0, _ => none
  | k + 1, n => if (ok n false && (!ok n true || !nr n)) = true then some (n, false) else if ok n true = true then some (n, true) else pickR ok nr k (n + 1)
theorem pickR_is (ok : Nat → Bool → Bool) (nr : Nat → Bool) : ∀ k n, pickR ok nr k n = pickF ok nr k n := by
  intro k
  induction k with
  | zero => intro n; rfl
  | succ k ih =>
    intro n
    unfold pickR pickF
    rw [ih]
    cases h1 : nr n <;> cases h2 : ok n true <;> cases h3 : ok n false <;> simp [h2, h3]
theorem dcmp_pos (la : List UInt8) (ea : Int) (lb : List UInt8) (eb : Int) : dcmp false la ea false lb eb = cmpI (rN la ea * rD eb) (rN lb eb * rD ea) := by
  unfold dcmp Rung.sgn
  simp only [Bool.false_eq_true, if_false]
  exact cmpZ_nat _ _
theorem cmpI_m {x y : Nat} : cmpI x y = -1 ↔ x < y := by
  unfold cmpI
  by_cases h : x < y
  · simp [h]
  · rw [if_neg h]; split <;> simp [h]
theorem cmpI_z {x y : Nat} : cmpI x y = 0 ↔ x = y := by
  unfold cmpI
  by_cases h : x < y
  · rw [if_pos h]; simp; omega
  · rw [if_neg h]; split <;> simp [*]
/-- The reference's test: between the middles about the float, or on one of them where the float is even. -/
theorem comes_iff {l : List UInt8} {e : Int} {k : Nat} (h : Canon l) (hk : k < Ieee.double.infRung) (h0 : 0 < k) :
    near64 l e = k ↔ ((dcmp false (btL (k - 1)) (btE (k - 1)) false l e = -1 ∨ dcmp false (btL (k - 1)) (btE (k - 1)) false l e = 0 ∧ k % 2 = 0) ∧ (dcmp false l e false (btL k) (btE k) = -1 ∨ dcmp false l e false (btL k) (btE k) = 0 ∧ k % 2 = 0)) := by
  rw [near_iff h hk]
  have m1 := cmp_mid l e (k - 1)
  have m2 := cmp_mid l e k
  rw [dcmp_pos] at m1
  rw [m2, dcmp_pos, cmpI_m, cmpI_z, cmpI_m, cmpI_z]
  have a1 : rN (btL (k - 1)) (btE (k - 1)) * rD e < rN l e * rD (btE (k - 1)) ↔ Rung.mid2 52 (k - 1) * rD e < 2 * (rN l e * 2 ^ 1074) := by
    have hc := m1
    constructor
    · intro h
      rw [cmpI_g h] at hc
      apply Nat.lt_of_not_le
      intro hh
      rcases Nat.eq_or_lt_of_le hh with h3 | h3
      · rw [cmpI_e h3] at hc; cases hc
      · rw [cmpI_l h3] at hc; cases hc
    · intro h
      rw [cmpI_g h] at hc
      apply Nat.lt_of_not_le
      intro hh
      rcases Nat.eq_or_lt_of_le hh with h3 | h3
      · rw [cmpI_e h3] at hc; cases hc
      · rw [cmpI_l h3] at hc; cases hc
  have a2 : rN (btL (k - 1)) (btE (k - 1)) * rD e = rN l e * rD (btE (k - 1)) ↔ Rung.mid2 52 (k - 1) * rD e = 2 * (rN l e * 2 ^ 1074) := by
    have hc := m1
    constructor
    · intro h
      rw [cmpI_e h.symm] at hc
      exact (cmpI_z.1 hc.symm).symm
    · intro h
      rw [cmpI_e h.symm] at hc
      exact (cmpI_z.1 hc).symm
  rw [a1, a2]
  unfold past
  generalize 2 * (rN l e * 2 ^ 1074) = Z at *
  generalize Rung.mid2 52 k * rD e = M1 at *
  generalize Rung.mid2 52 (k - 1) * rD e = M0 at *
  clear m1 m2 a1 a2
  have hpar : (k - 1) % 2 = 1 ↔ k % 2 = 0 := by omega
  rw [hpar]
  simp only [h0, true_imp_iff]
  omega
theorem take_last {l : List UInt8} (hd : isDigs l) {n : Nat} (h1 : 1 ≤ n) (h2 : n ≤ l.length) : dval (l.take n) % 2 = (l[n - 1]'(by omega)).toNat % 2 := by
  obtain ⟨n, rfl⟩ : ∃ m, n = m + 1 := ⟨n - 1, by omega⟩
  have hc := hd (l[n]'(by omega)) (List.getElem_mem _)
  rw [List.take_succ_eq_append_getElem (by omega), dval_snoc]
  simp only [Nat.add_sub_cancel]
  omega
theorem drop_cons {l : List UInt8} {n : Nat} (h : n < l.length) : ∃ d t, l.drop n = d :: t ∧ t.length + 1 = l.length - n := by
  refine ⟨l[n], l.drop (n + 1), List.drop_eq_getElem_cons h, ?_⟩
  rw [List.length_drop]; omega
/-- What is left out against a half, as the reference counts it. -/
theorem half_is {l : List UInt8} (h : Canon l) {n : Nat} (h2 : n < l.length) {d : UInt8} {t : List UInt8} (hd : l.drop n = d :: t) :
    cmpI (2 * dval (l.drop n)) (10 ^ (l.length - n)) = if d.toNat < 53 then -1 else if 53 < d.toNat then 1 else if t = [] then 0 else 1 := by
  have hl : t.length + 1 = l.length - n := by
    have := congrArg List.length hd
    rw [List.length_drop, List.length_cons] at this
    omega
  rw [hd, ← hl]
  refine half_cmp d t (fun c hc => h.digs c (List.mem_of_mem_drop (by rw [hd]; exact hc))) (fun c hc => h.last c ?_)
  rw [← hd, List.getLast?_drop] at hc
  rwa [if_neg (by omega)] at hc
/-- What is left out against the text "5", as the program compares it. -/
theorem cb_half {l : List UInt8} (h : Canon l) {n : Nat} (h2 : n < l.length) : Lib.compareBytes (l.drop n) [53] = cmpI (2 * dval (l.drop n)) (10 ^ (l.length - n)) := by
  obtain ⟨d, t, hd, -⟩ := drop_cons h2
  rw [half_is h h2 hd, hd]
  unfold Lib.compareBytes
  have e1 : d < 53 ↔ d.toNat < 53 := UInt8.lt_iff_toNat_lt
  have e2 : 53 < d ↔ 53 < d.toNat := UInt8.lt_iff_toNat_lt
  simp only [e1, e2]
  split
  · rfl
  · split
    · rfl
    · cases t <;> simp [Lib.compareBytes]
theorem nr_cmp {l : List UInt8} (h : Canon l) {n : Nat} (h1 : 1 ≤ n) (h2 : n < l.length) :
    nrF l n = (decide (0 < Lib.compareBytes (l.drop n) [53]) || (decide (Lib.compareBytes (l.drop n) [53] = 0) && decide ((l[n - 1]'(by omega)).toNat % 2 = 1))) := by
  rw [cb_half h h2]
  unfold nrF
  rw [take_last h.digs h1 (by omega)]
  generalize (l[n - 1]'(by omega)).toNat % 2 = b
  generalize 2 * dval (l.drop n) = R
  generalize 10 ^ (l.length - n) = U
  rcases Nat.lt_trichotomy R U with h | h | h
  · rw [cmpI_l h]; simp; omega
  · rw [cmpI_e h]; simp [h]
  · rw [cmpI_g h]; simp; omega
end Go.Proofs.YtabmalnandbocaaGreatDoor.Num
namespace Go.Proofs.YtabmalnandbocaaGreatDoor.Num
set_option exponentiation.threshold 3000
set_option linter.unusedVariables false
set_option linter.unusedSimpArgs false
set_option exponentiation.threshold 3000
open Go.Proofs.YtabmalnandbocaaGreatDoor.Mem Go.Proofs.YtabmalnandbocaaGreatDoor.Own Go.Proofs.YtabmalnandbocaaGreatDoor.Big
theorem dval_zeros (l : List UInt8) (z : Nat) : dval (l ++ List.replicate z 48) = dval l * 10 ^ z := by
  rw [dval_app, List.length_replicate]
  have : ∀ z, dval (List.replicate z 48) = 0 := by
    intro z
    induction z with
    | zero => rfl
    | succ z ih => rw [List.replicate_succ, dval_cons, ih, show (48 : UInt8).toNat - 48 = 0 from rfl, Nat.zero_mul]
  rw [this]; omega
/-- A digit below nine takes the carry. -/
theorem carry_stop (p : List UInt8) (c : UInt8) (z : Nat) (hc : 48 ≤ c.toNat ∧ c.toNat ≤ 56) : dval (p ++ [c + 1] ++ List.replicate z 48) = (dval (p ++ [c]) + 1) * 10 ^ z := by
  rw [dval_zeros, dval_snoc, dval_snoc]
  have : (c + 1).toNat = c.toNat + 1 := by
    rw [UInt8.toNat_add]
    show (c.toNat + 1) % 256 = _
    omega
  rw [this]
  congr 1
  omega
/-- A nine hands it on. -/
theorem carry_on (p : List UInt8) (z : Nat) : (dval (p ++ [57]) + 1) * 10 ^ z = (dval p + 1) * 10 ^ (z + 1) := by
  rw [dval_snoc, Nat.pow_succ, show (57 : UInt8).toNat - 48 = 9 from rfl]
  grind
/-- Nothing is left to take it. -/
theorem carry_out (z : Nat) : dval (49 :: List.replicate z 48) = (dval [] + 1) * 10 ^ z := by
  have := dval_zeros [49] z
  rw [show [(49 : UInt8)] ++ List.replicate z 48 = 49 :: List.replicate z 48 from rfl] at this
  rw [this]; rfl
theorem digs_snoc {p : List UInt8} {c : UInt8} (h : isDigs p) (hc : 48 ≤ c.toNat ∧ c.toNat ≤ 57) (z : Nat) : isDigs (p ++ [c] ++ List.replicate z 48) := by
  intro d hd
  rcases List.mem_append.1 hd with hd | hd
  · rcases List.mem_append.1 hd with hd | hd
    · exact h d hd
    · simp at hd; subst hd; exact hc
  · rw [List.eq_of_mem_replicate hd]; decide
/-- Told forms of different numbers differ. -/
theorem told_inj {N N' : Nat} {e : Int} (h1 : tl N = tl N') (h2 : te N e = te N' e) : N = N' := by
  have a := told_rN N e
  have b := told_rN N' e
  rw [h1, h2] at a
  rw [a] at b
  have h3 := rD_pos (te N' e)
  have h4 := ten_pos e.toNat
  rw [← h2] at b h3
  exact Nat.eq_of_mul_eq_mul_right h4 (Nat.eq_of_mul_eq_mul_right h3 (by rw [b, h2]))
theorem cand_ne (l : List UInt8) (e : Int) (n : Nat) : ¬ (cL l n true = cL l n false ∧ cE l e n true = cE l e n false) := by
  rintro ⟨h1, h2⟩
  have := told_inj h1 h2
  unfold cN at this
  simp at this
/-- What ShortestFewest asks of the digits that are found. -/
theorem fewest_law {k : Nat} (hk : k < Ieee.double.infRung) (h0 : 0 < k) :
    dL k ≠ [] ∧ (dL k).length ≤ 17 ∧ ((exL k).length ≤ (dL k).length → dL k = exL k ∧ dE k = exE k) ∧
    ((dL k).length < (exL k).length → (∀ v, 1 < (dL k).length → okF k ((dL k).length - 1) v = false) ∧
      ∃ u, dL k = cL (exL k) (dL k).length u ∧ dE k = cE (exL k) (exE k) (dL k).length u ∧ (u = nrF (exL k) (dL k).length ∨ okF k (dL k).length (!u) = false)) := by
  have hn := dig_near hk
  have hne : dL k ≠ [] := by
    intro h
    rw [h] at hn
    have : near64 [] (dE k) = 0 := by show refF 52 1074 _ [] _ = 0; unfold refF; rw [if_pos (.inl rfl)]
    omega
  refine ⟨hne, dig_17 hk, fun h => ?_, fun h => ?_⟩
  · cases hd : digF k with
    | none => exact dL_none hd
    | some p =>
      obtain ⟨n, u⟩ := p
      have := dig_count hk hd
      have := pickF_some hd
      omega
  · cases hd : digF k with
    | none => rw [(dL_none hd).1] at h; omega
    | some p =>
      obtain ⟨n, u⟩ := p
      have hc := dig_count hk hd
      obtain ⟨a, b, c, d, f⟩ := pickF_some hd
      rw [hc]
      refine ⟨fun v hv => f (n - 1) v (by omega) (by omega), u, (dL_len hd).1, (dL_len hd).2, ?_⟩
      rcases d with d | d
      · exact .inl d
      · cases u <;> cases hr : nrF (exL k) n <;> simp_all
end Go.Proofs.YtabmalnandbocaaGreatDoor.Num
namespace Go.Proofs.YtabmalnandbocaaGreatDoor.Num
set_option exponentiation.threshold 3000
set_option linter.unusedVariables false
set_option linter.unusedSimpArgs false
set_option exponentiation.threshold 3000
open Go.Proofs.YtabmalnandbocaaGreatDoor.Mem Go.Proofs.YtabmalnandbocaaGreatDoor.Own Go.Proofs.YtabmalnandbocaaGreatDoor.Big
/-- One more digit of the exponent, as the program takes it. -/
def tenP (a : Nat) (c : UInt8) : Nat := if a < 1125899906842624 then 10 * a + (c.toNat - 48) else a
def tenV (a : Nat) (c : UInt8) : Nat := a * 10 + (c.toNat - 48)
theorem tenV_ge (l : List UInt8) (a : Nat) : a ≤ l.foldl tenV a := by
  induction l generalizing a with
  | nil => exact Nat.le_refl _
  | cons c l ih => exact Nat.le_trans (by unfold tenV; omega) (ih _)
theorem tenP_far (l : List UInt8) (a : Nat) (h : 1125899906842624 ≤ a) : l.foldl tenP a = a := by
  induction l generalizing a with
  | nil => rfl
  | cons c l ih =>
    have : tenP a c = a := by unfold tenP; rw [if_neg (by omega)]
    rw [List.foldl_cons, this]; exact ih a h
theorem tenP_is {l : List UInt8} (hd : isDigs l) (a : Nat) (ha : a < 11258999068426250) : l.foldl tenP a < 11258999068426250 ∧ (l.foldl tenP a = l.foldl tenV a ∨ 1125899906842624 ≤ l.foldl tenP a ∧ 1125899906842624 ≤ l.foldl tenV a) := by
  induction l generalizing a with
  | nil => exact ⟨ha, .inl rfl⟩
  | cons c l ih =>
    have hc := hd c (by simp)
    by_cases h : a < 1125899906842624
    · have h1 : tenP a c = tenV a c := by unfold tenP tenV; rw [if_pos h]; omega
      rw [List.foldl_cons, List.foldl_cons, h1]
      exact ih (fun d hd' => hd d (by simp [hd'])) _ (by unfold tenV; omega)
    · rw [tenP_far _ _ (by omega)]
      exact ⟨ha, .inr ⟨by omega, Nat.le_trans (by omega) (tenV_ge _ _)⟩⟩
/-- One more digit, as the reference takes it: up to a bound. -/
def tenR (a : Nat) (c : UInt8) : Nat := if a ≤ 1000000000000000 then a * 10 + (c.toNat - 48) else a
theorem tenR_far (l : List UInt8) (a : Nat) (h : 1000000000000000 < a) : l.foldl tenR a = a := by
  induction l generalizing a with
  | nil => rfl
  | cons c l ih =>
    have : tenR a c = a := by unfold tenR; rw [if_neg (by omega)]
    rw [List.foldl_cons, this]; exact ih a h
theorem tenR_is {l : List UInt8} (hd : isDigs l) (a : Nat) (ha : a < 10000000000000010) : l.foldl tenR a < 10000000000000010 ∧ (l.foldl tenR a = l.foldl tenV a ∨ 1000000000000000 < l.foldl tenR a ∧ 1000000000000000 < l.foldl tenV a) := by
  induction l generalizing a with
  | nil => exact ⟨ha, .inl rfl⟩
  | cons c l ih =>
    have hc := hd c (by simp)
    by_cases h : a ≤ 1000000000000000
    · have h1 : tenR a c = tenV a c := by unfold tenR tenV; rw [if_pos h]
      rw [List.foldl_cons, List.foldl_cons, h1]
      exact ih (fun d hd' => hd d (by simp [hd'])) _ (by unfold tenV; omega)
    · rw [tenR_far _ _ (by omega)]
      exact ⟨ha, .inr ⟨by omega, Nat.lt_of_lt_of_le (by omega) (tenV_ge _ _)⟩⟩
/-- What a number's digits, its exponent and how many of its digits stand behind the point come to: none, if the exponent of its one form is out of bounds. -/
noncomputable def madeF (neg : Bool) (N : Nat) (X : Int) : Option (Bool × List UInt8 × Int) :=
  if N = 0 then some (neg, [], 0) else if 1073741824 < te N X ∨ te N X < -1073741824 then none else some (neg, tl N, te N X)
/-- Exponents far out come to the same. -/
theorem made_far {neg : Bool} {N : Nat} {X Y : Int} {ds b : Nat} (hN : N < 10 ^ ds) (hds : ds < 140737488355328) (hb : b < 140737488355328) (h : X = Y ∨ 1000000000000000 < X ∧ 1000000000000000 < Y ∨ X < -1000000000000000 ∧ Y < -1000000000000000) :
    madeF neg N (X - (b : Nat)) = madeF neg N (Y - (b : Nat)) := by
  rcases h with rfl | h
  · rfl
  · unfold madeF
    by_cases h0 : N = 0
    · rw [if_pos h0, if_pos h0]
    · have hz := tz_lt h0 (Nat.le_of_lt hN)
      have e1 : te N (X - (b : Nat)) = X - (b : Nat) + (tz N : Nat) := by unfold te; rw [if_neg h0]
      have e2 : te N (Y - (b : Nat)) = Y - (b : Nat) + (tz N : Nat) := by unfold te; rw [if_neg h0]
      rw [if_neg h0, if_neg h0, e1, e2, if_pos (by omega), if_pos (by omega)]
end Go.Proofs.YtabmalnandbocaaGreatDoor.Num
