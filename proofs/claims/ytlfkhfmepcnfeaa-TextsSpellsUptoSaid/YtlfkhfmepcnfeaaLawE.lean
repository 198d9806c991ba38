/- Plain laws: quotes and backslashes; what is right between quotes has no end of its own. -/
import Derived.Test.YtlfkhfmepcnfeaaUnP
import Derived.Test.YtlfkhfmepcnfeaaEndsL
namespace Go.Proofs.Ytlfkhfmepcnfeaa.Txt
set_option linter.unusedVariables false
set_option linter.unusedSimpArgs false
open Go.RowKit Go.Proofs.Ytlfkhfmepcnfeaa.Utf Go.Proofs.Ytlfkhfmepcnfeaa.Ends

/-- Gone over bytes: none where a quote stands that nothing escapes; else, is the next byte escaped? -/
def qs : Bool → List UInt8 → Option Bool
  | e, [] => some e
  | e, x :: l => if (x == 34 && !e) = true then none else qs (x == 92 && !e) l
theorem qs_app : ∀ (a b : List UInt8) (e : Bool), qs e (a ++ b) = (qs e a).bind fun e' => qs e' b
  | [], b, e => rfl
  | x :: a, b, e => by
    rw [List.cons_append, qs, qs]
    split
    · rfl
    · exact qs_app a b _
theorem qs_two {a b : List UInt8} {e e2 e3 : Bool} (h1 : qs e a = some e2) (h2 : qs e2 b = some e3) : qs e (a ++ b) = some e3 := by rw [qs_app, h1]; exact h2
theorem isB_get (l : List UInt8) (c : UInt8) (i : Nat) (h : i < l.length) : isB ⟨l.toArray⟩ c i = (l[i] == c) := by
  simp [isB, List.getD_eq_getElem?_getD, h]
theorem qs_esc (R B : List UInt8) (e : Bool) (h : qs false R = some e) : ∀ k, k ≤ R.length → qs false (R.take k) = some (esc (fun j => isB ⟨(R ++ B).toArray⟩ 92 (0 + j)) k) ∧ ∀ j, j < k → endsAt ⟨(R ++ B).toArray⟩ 0 j = false
  | 0, _ => ⟨rfl, fun j hj => by omega⟩
  | k + 1, hk => by
    obtain ⟨h1, h2⟩ := qs_esc R B e h k (by omega)
    have hlt : k < R.length := by omega
    have hlt2 : k < (R ++ B).length := by rw [List.length_append]; omega
    have hs : R = R.take (k + 1) ++ R.drop (k + 1) := (List.take_append_drop _ _).symm
    have hne : qs false (R.take (k + 1)) ≠ none := by
      intro e0
      rw [hs, qs_app, e0] at h
      cases h
    rw [List.take_succ_eq_append_getElem hlt, qs_app, h1] at hne ⊢
    have hg : (R ++ B)[k] = R[k] := List.getElem_append_left hlt
    have e34 : isB ⟨(R ++ B).toArray⟩ 34 (0 + k) = (R[k] == 34) := by rw [Nat.zero_add, isB_get _ _ _ hlt2, hg]
    have e92 : isB ⟨(R ++ B).toArray⟩ 92 (0 + k) = (R[k] == 92) := by rw [Nat.zero_add, isB_get _ _ _ hlt2, hg]
    simp only [Option.bind_some, qs] at hne ⊢
    by_cases c : (R[k] == 34 && !esc (fun j => isB ⟨(R ++ B).toArray⟩ 92 (0 + j)) k) = true
    · rw [if_pos c] at hne
      exact absurd rfl hne
    · rw [if_neg c]
      refine ⟨by rw [esc, e92], fun j hj => ?_⟩
      by_cases hjk : j < k
      · exact h2 j hjk
      · obtain rfl : j = k := by omega
        unfold endsAt
        rw [e34]
        simpa using c
theorem qs_end (R B : List UInt8) (h : qs false R = some false) : endN ⟨(R ++ 34 :: B).toArray⟩ 0 = R.length ∧ endE ⟨(R ++ 34 :: B).toArray⟩ 0 = 0 := by
  obtain ⟨h1, h2⟩ := qs_esc R (34 :: B) false h R.length (Nat.le_refl _)
  rw [List.take_of_length_le (Nat.le_refl _), h] at h1
  simp only [Option.some.injEq] at h1
  have hsz : (⟨(R ++ 34 :: B).toArray⟩ : ByteArray).size = R.length + (B.length + 1) := by
    show (R ++ 34 :: B).toArray.size = _
    simp
  have hlt2 : R.length < (R ++ 34 :: B).length := by rw [List.length_append]; simp
  have hf : first (endsAt ⟨(R ++ 34 :: B).toArray⟩ 0) ((⟨(R ++ 34 :: B).toArray⟩ : ByteArray).size - 0) = some R.length := by
    refine first_some (by omega) ?_ h2
    unfold endsAt
    rw [← h1, Nat.zero_add, isB_get _ _ _ hlt2]
    simp
  unfold endN endE
  rw [hf]
  exact ⟨by simp, rfl⟩
theorem dig_not {x : UInt8} (h : 0 ≤ digF (x.toNat : Int)) : (x == 34) = false ∧ (x == 92) = false := by
  have h1 : x ≠ 34 := by rintro rfl; exact absurd h (by decide)
  have h2 : x ≠ 92 := by rintro rfl; exact absurd h (by decide)
  exact ⟨by simpa using h1, by simpa using h2⟩
theorem qs_plain {x : UInt8} (h1 : (x == 34) = false) (h2 : (x == 92) = false) (l : List UInt8) : qs false (x :: l) = qs false l := by
  rw [qs, h1, h2]; rfl
theorem len6 {l : List UInt8} (h : 6 ≤ l.length) : ∃ a b c d e f m, l = a :: b :: c :: d :: e :: f :: m := by
  match l, h with
  | a :: b :: c :: d :: e :: f :: m, _ => exact ⟨a, b, c, d, e, f, m, rfl⟩
theorem len2 {l : List UInt8} (h : 2 ≤ l.length) : ∃ a b m, l = a :: b :: m := by
  match l, h with
  | a :: b :: m, _ => exact ⟨a, b, m, rfl⟩
/-- The shapes of an escape. -/
theorem one_shape (l : List UInt8) (h : (oneL l).2 ≠ 0) :
    (∃ y m, l = 92 :: y :: m ∧ (y.toNat : Int) ≠ 117 ∧ 0 ≤ small (y.toNat : Int) ∧ oneL l = (small (y.toNat : Int), 2)) ∨
    (∃ c d e f m, l = 92 :: 117 :: c :: d :: e :: f :: m ∧ 0 ≤ digF (c.toNat : Int) ∧ 0 ≤ digF (d.toNat : Int) ∧ 0 ≤ digF (e.toNat : Int) ∧ 0 ≤ digF (f.toNat : Int) ∧
      oneL l = (((digF (c.toNat : Int) * 16 + digF (d.toNat : Int)) * 16 + digF (e.toNat : Int)) * 16 + digF (f.toNat : Int), 6)) := by
  have hq : ∀ p, oneL l = p → p.2 ≠ 0 := fun p e => by rw [← e]; exact h
  unfold oneL at h hq
  by_cases h0 : l.length < 2 ∨ ((l.getD 0 0).toNat : Int) ≠ 92
  · rw [if_pos h0] at h; exact absurd rfl h
  rw [if_neg h0] at h
  simp only [not_or, Decidable.not_not] at h0
  obtain ⟨a, y, m, rfl⟩ := len2 (l := l) (by omega)
  have ha : a = 92 := UInt8.toNat_inj.1 (by have := h0.2; rw [List.getD_cons_zero] at this; show a.toNat = 92; omega)
  subst ha
  have hy : (((92 : UInt8) :: y :: m).getD 1 0) = y := rfl
  rw [hy] at h
  by_cases h1 : (y.toNat : Int) = 117
  · right
    rw [if_pos h1] at h
    have hy' : y = 117 := UInt8.toNat_inj.1 (by show y.toNat = 117; omega)
    subst hy'
    have h4 := h
    unfold fourL at h4
    split at h4
    · rename_i hh
      obtain ⟨g1, g2, g3, g4, g5⟩ := hh
      obtain ⟨a', b', c, d, e, f, m', hl⟩ := len6 g1
      simp only [List.cons.injEq] at hl
      obtain ⟨rfl, rfl, rfl⟩ := hl
      refine ⟨c, d, e, f, m', rfl, g2, g3, g4, g5, ?_⟩
      unfold oneL
      rw [if_neg (by simp), hy, if_pos h1]
      unfold fourL
      rw [if_pos ⟨g1, g2, g3, g4, g5⟩]
      show (((((0 : Int) * 16 + _) * 16 + _) * 16 + _) * 16 + _, 6) = _
      simp only [Prod.mk.injEq, and_true]
      show ((((0 : Int) * 16 + digF (c.toNat : Int)) * 16 + digF (d.toNat : Int)) * 16 + digF (e.toNat : Int)) * 16 + digF (f.toNat : Int) = _
      rw [Int.zero_mul, Int.zero_add]
    · exact absurd rfl h4
  · left
    rw [if_neg h1] at h
    by_cases h2 : small (y.toNat : Int) < 0
    · rw [if_pos h2] at h; exact absurd rfl h
    · refine ⟨y, m, rfl, h1, by omega, ?_⟩
      unfold oneL
      rw [if_neg (by simp), hy, if_neg h1, if_neg h2]
theorem one_qs (l : List UInt8) (h : (oneL l).2 ≠ 0) : qs false (l.take (oneL l).2) = some false := by
  rcases one_shape l h with ⟨y, m, rfl, h1, h2, h3⟩ | ⟨c, d, e, f, m, rfl, h1, h2, h3, h4, h5⟩
  · rw [h3]
    show qs false [92, y] = some false
    have a : qs false [92, y] = qs true [y] := rfl
    rw [a, qs]
    simp [qs]
  · rw [h5]
    show qs false [92, 117, c, d, e, f] = some false
    have a : qs false [92, 117, c, d, e, f] = qs false [c, d, e, f] := rfl
    rw [a, qs_plain (dig_not h1).1 (dig_not h1).2, qs_plain (dig_not h2).1 (dig_not h2).2, qs_plain (dig_not h3).1 (dig_not h3).2, qs_plain (dig_not h4).1 (dig_not h4).2]
    rfl
theorem esc_qs {l : List UInt8} {r : Int} {c : Nat} (h : escU l = some (r, c)) : qs false (l.take c) = some false := by
  unfold escU at h
  split at h
  · cases h
  rename_i h0
  have h1 := one_qs l h0
  split at h
  · split at h
    · rename_i h2
      have h3 := one_qs (l.drop (oneL l).2) (by omega)
      simp only [Option.some.injEq, Prod.mk.injEq] at h
      obtain ⟨-, rfl⟩ := h
      rw [List.take_add]
      rw [h2.1] at h3
      exact qs_two h1 h3
    · simp only [Option.some.injEq, Prod.mk.injEq] at h
      obtain ⟨-, rfl⟩ := h
      exact h1
  · split at h <;>
    · simp only [Option.some.injEq, Prod.mk.injEq] at h
      obtain ⟨-, rfl⟩ := h
      exact h1
theorem bs_eq {x : UInt8} (h : bs x = true) : x = 92 := by
  unfold bs at h
  rw [beq_iff_eq] at h
  exact UInt8.toNat_inj.1 (by show x.toNat = 92; omega)
theorem ok_ne {x : UInt8} (h : okB x = true) : (x == 34) = false := by
  rw [beq_eq_false_iff_ne]
  rintro rfl
  exact absurd h (by decide)
theorem bs_ne {x : UInt8} (h : bs x = false) : (x == 92) = false := by
  rw [beq_eq_false_iff_ne]
  rintro rfl
  exact absurd h (by decide)
theorem un_qs : ∀ (n : Nat) (l : List UInt8), l.length ≤ n → ∀ o, unF l = some o → qs false l = some false
  | _, [], _, o, _ => rfl
  | 0, x :: m, hn, o, _ => by simp at hn
  | n + 1, x :: m, hn, o, h => by
    rw [List.length_cons] at hn
    cases hk : okB x with
    | false => rw [unF_bad x m hk] at h; cases h
    | true =>
      cases hb : bs x with
      | false =>
        rw [unF_plain x m hk hb] at h
        obtain ⟨o', ho, -⟩ := Option.map_eq_some_iff.1 h
        rw [qs_plain (ok_ne hk) (bs_ne hb)]
        exact un_qs n m (by omega) o' ho
      | true =>
        rw [unF_esc x m hb] at h
        cases he : escU (x :: m) with
        | none => rw [he] at h; cases h
        | some p =>
          obtain ⟨r, c⟩ := p
          rw [he] at h
          simp only [] at h
          obtain ⟨o', ho, -⟩ := Option.map_eq_some_iff.1 h
          have hf := esc_facts he
          have ih := un_qs n ((x :: m).drop c) (by rw [List.length_drop, List.length_cons]; omega) o' ho
          have := qs_two (esc_qs he) ih
          rwa [List.take_append_drop] at this
end Go.Proofs.Ytlfkhfmepcnfeaa.Txt
