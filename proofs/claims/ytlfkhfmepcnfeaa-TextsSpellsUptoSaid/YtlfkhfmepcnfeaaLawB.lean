/- Plain laws: Escape and back. -/
import Derived.Test.YtlfkhfmepcnfeaaLawG
namespace Go.Proofs.Ytlfkhfmepcnfeaa.Txt
set_option linter.unusedVariables false
set_option linter.unusedSimpArgs false
open Go.RowKit Go.Proofs.Ytlfkhfmepcnfeaa.Utf Go.Proofs.Ytlfkhfmepcnfeaa.Ends

theorem one_two {y : UInt8} (m : List UInt8) (h1 : (y.toNat : Int) ≠ 117) (h2 : 0 ≤ small (y.toNat : Int)) : oneL (92 :: y :: m) = (small (y.toNat : Int), 2) := by
  have hy : (((92 : UInt8) :: y :: m).getD 1 0) = y := rfl
  unfold oneL
  rw [if_neg (by simp), hy, if_neg h1, if_neg (by omega)]
theorem one_four {c d e f : UInt8} (m : List UInt8) (h1 : 0 ≤ digF (c.toNat : Int)) (h2 : 0 ≤ digF (d.toNat : Int)) (h3 : 0 ≤ digF (e.toNat : Int)) (h4 : 0 ≤ digF (f.toNat : Int)) :
    oneL (92 :: 117 :: c :: d :: e :: f :: m) = (((digF (c.toNat : Int) * 16 + digF (d.toNat : Int)) * 16 + digF (e.toNat : Int)) * 16 + digF (f.toNat : Int), 6) := by
  unfold oneL
  rw [if_neg (by simp), if_pos (show ((((92 : UInt8) :: 117 :: c :: d :: e :: f :: m).getD 1 0).toNat : Int) = 117 from rfl)]
  unfold fourL
  rw [if_pos ⟨by simp, h1, h2, h3, h4⟩]
  show (((((0 : Int) * 16 + _) * 16 + _) * 16 + _) * 16 + _, 6) = _
  simp only [Prod.mk.injEq, and_true]
  show ((((0 : Int) * 16 + digF (c.toNat : Int)) * 16 + digF (d.toNat : Int)) * 16 + digF (e.toNat : Int)) * 16 + digF (f.toNat : Int) = _
  rw [Int.zero_mul, Int.zero_add]
/-- An escape that is no half of a pair. -/
theorem un_esc {l : List UInt8} {r : Int} {n : Nat} (m : List UInt8) (h : oneL (92 :: m) = (r, n)) (hn : n ≠ 0) (hs : ¬(55296 ≤ r ∧ r < 57344)) : unF (92 :: m) = (unF ((92 :: m).drop n)).map (encL r ++ ·) := by
  rw [unF_esc 92 m rfl]
  have : escU (92 :: m) = some (r, n) := by
    unfold escU
    rw [h]
    simp only []
    rw [if_neg hn, if_neg (by omega), if_neg (by omega)]
  rw [this]
theorem esc_shape : ∀ n : Fin 256, (escN n.val = [UInt8.ofNat n.val] ∧ okB (UInt8.ofNat n.val) = true ∧ bs (UInt8.ofNat n.val) = false) ∨
    (escN n.val = [92, (escN n.val).getD 1 0] ∧ (((escN n.val).getD 1 0).toNat : Int) ≠ 117 ∧ small (((escN n.val).getD 1 0).toNat : Int) = (n.val : Int) ∧ n.val < 128) ∨
    (escN n.val = [92, 117, 48, 48, (escN n.val).getD 4 0, (escN n.val).getD 5 0] ∧ 0 ≤ digF (((escN n.val).getD 4 0).toNat : Int) ∧ 0 ≤ digF (((escN n.val).getD 5 0).toNat : Int) ∧
      digF (((escN n.val).getD 4 0).toNat : Int) * 16 + digF (((escN n.val).getD 5 0).toNat : Int) = (n.val : Int) ∧ n.val < 128) := by decide +kernel
theorem esc_tells : ∀ n : Fin 256, ((escN n.val).all fun y => decide (32 ≤ y.toNat)) = true ∧ (n.val < 128 → ((escN n.val).all fun y => decide (y.toNat < 128)) = true) ∧ (128 ≤ n.val → escN n.val = [UInt8.ofNat n.val]) ∧ qs false (escN n.val) = some false := by decide +kernel
theorem un_esc1 (x : UInt8) (m : List UInt8) : unF (esc1 x ++ m) = (unF m).map ([x] ++ ·) := by
  have hx := x.toNat_lt
  have h := esc_shape ⟨x.toNat, hx⟩
  simp only [UInt8.ofNat_toNat] at h
  unfold esc1
  rcases h with ⟨h1, h2, h3⟩ | ⟨h1, h2, h3, h4⟩ | ⟨h1, h2, h3, h4, h5⟩
  · rw [h1]; exact unF_plain x m h2 h3
  · generalize (escN x.toNat).getD 1 0 = y at *
    rw [h1]
    have e := un_esc (l := []) (y :: m) (one_two m h2 (by omega)) (by decide) (by omega)
    rw [h3] at e
    rw [enc_one (by omega) (by omega), toB_self] at e
    exact e
  · generalize (escN x.toNat).getD 4 0 = y at *
    generalize (escN x.toNat).getD 5 0 = z at *
    rw [h1]
    have o := one_four (c := 48) (d := 48) m (by decide) (by decide) h2 h3
    have ev : ((digF (((48 : UInt8).toNat : Nat) : Int) * 16 + digF (((48 : UInt8).toNat : Nat) : Int)) * 16 + digF (y.toNat : Int)) * 16 + digF (z.toNat : Int) = (x.toNat : Int) := by
      rw [show digF (((48 : UInt8).toNat : Nat) : Int) = 0 by decide]; omega
    rw [ev] at o
    have e := un_esc (l := []) (117 :: 48 :: 48 :: y :: z :: m) o (by decide) (by omega)
    rw [enc_one (by omega) (by omega), toB_self] at e
    exact e
theorem un_back : ∀ l : List UInt8, unF (escL l) = some l
  | [] => unF_nil
  | x :: l => by
    have e : escL (x :: l) = esc1 x ++ escL l := rfl
    rw [e, un_esc1, un_back l]; rfl
theorem qs_back : ∀ l : List UInt8, qs false (escL l) = some false
  | [] => rfl
  | x :: l => by
    have e : escL (x :: l) = esc1 x ++ escL l := rfl
    rw [e]
    exact qs_two (esc_tells ⟨x.toNat, x.toNat_lt⟩).2.2.2 (qs_back l)
theorem low_back (l : List UInt8) : ∀ y ∈ escL l, 32 ≤ y.toNat := by
  intro y hy
  unfold escL at hy
  obtain ⟨x, -, hx⟩ := List.mem_flatMap.1 hy
  have h := (esc_tells ⟨x.toNat, x.toNat_lt⟩).1
  rw [List.all_eq_true] at h
  simpa using h y hx
theorem esc_fine : ∀ (l : List UInt8) (c : Sc), Ok c.st → Fine (runL c l) → Fine (runL c (escL l))
  | [], c, _, h => h
  | x :: l, c, hok, h => by
    have e : escL (x :: l) = esc1 x ++ escL l := rfl
    rw [e, run_app]
    rw [run_cons] at h
    have ih := esc_fine l _ (run_ok [x] hok) h
    have hnb := run_notbad h.1
    obtain ⟨-, h2, h3, -⟩ := esc_tells ⟨x.toNat, x.toNat_lt⟩
    simp only [UInt8.ofNat_toNat] at h2 h3
    by_cases hx : x.toNat < 128
    · have hc : Fine c := ascii_want hx hok hnb
      have h4 := h2 hx
      rw [List.all_eq_true] at h4
      have hE : Fine (runL c (esc1 x)) := run_ascii _ (fun y hy => by simpa using h4 y hy) hc
      exact (fine_any hE (one_ascii hc hx) _).2 ih
    · have : esc1 x = [x] := h3 (by omega)
      rw [this]
      exact ih
theorem esc_badL {l : List UInt8} (h : badL l = -1) : badL (escL l) = -1 := (bad_fine _).2 (esc_fine l sc0 ok0 ((bad_fine l).1 h))
end Go.Proofs.Ytlfkhfmepcnfeaa.Txt
