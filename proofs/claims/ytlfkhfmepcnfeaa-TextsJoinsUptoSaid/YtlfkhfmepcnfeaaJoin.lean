/- The walks of half, and of the law TextsJoins. -/
import Derived.Test.YtlfkhfmepcnfeaaBack
namespace Go.Proofs.Ytlfkhfmepcnfeaa.Txt
set_option linter.unusedVariables false
set_option linter.unusedSimpArgs false
open Go.RowKit Go.Proofs.Ytlfkhfmepcnfeaa.Mem Go.Proofs.Ytlfkhfmepcnfeaa.Own Go.Proofs.Ytlfkhfmepcnfeaa.Utf Go.Proofs.Ytlfkhfmepcnfeaa.Bld

/-- What half answers, told by the four bytes that it looks at. -/
def halfN (a b c d : Int) (high : Bool) : Bool :=
  if a ≠ 92 ∨ b ≠ 117 ∨ (c ≠ 100 ∧ c ≠ 68) then false
  else if high then decide (d = 56 ∨ d = 57 ∨ d = 97 ∨ d = 65 ∨ d = 98 ∨ d = 66) else decide ((99 ≤ d ∧ d ≤ 102) ∨ (67 ≤ d ∧ d ≤ 70))
def halfL (l : List UInt8) (high : Bool) : Bool :=
  if l.length < 6 then false
  else halfN ((l.getD (if high then l.length - 6 else 0) 0).toNat : Int) ((l.getD ((if high then l.length - 6 else 0) + 1) 0).toNat : Int) ((l.getD ((if high then l.length - 6 else 0) + 2) 0).toNat : Int) ((l.getD ((if high then l.length - 6 else 0) + 3) 0).toNat : Int) high
theorem no_d {x : Int} (h : (x != 100) = true ∧ (x != 68) = true) : x ≠ 100 ∧ x ≠ 68 := by simpa using h
theorem is_d {x : Int} (h : (x != 100) = false ∨ (x != 68) = false) : x = 100 ∨ x = 68 := by simpa using h
set_option maxHeartbeats 4000000 in
theorem half_low (s : ByteArray) (w : World) : Calls Try.prog 22 #[.string s, .bool false] w fun e w' => e = .returned (.bool (halfL s.data.toList false)) ∧ Below w.heap.size w w' := by
  by_cases h6 : s.size < 6
  · have hf : halfL s.data.toList false = false := by unfold halfL; rw [if_pos (by simpa using h6)]
    have t6 : decide ((s.size : Int) < 6) = true := by simp; omega
    have HF := Lib.hid hf; clear hf
    go_enter Try.func22, Try.ntmps22
    go_wp2_with fail
    go_ret
    exact ⟨by rw [HF.out]; rfl, Below.refl _ _⟩
  · have t6 : decide ((s.size : Int) < 6) = false := by simp; omega
    have l0 : 0 < s.size := by omega
    have l1 : 1 < s.size := by omega
    have l2 : 2 < s.size := by omega
    have l3 : 3 < s.size := by omega
    have hf : halfL s.data.toList false = halfN (s[0].toNat : Int) (s[1].toNat : Int) (s[2].toNat : Int) (s[3].toNat : Int) false := by
      unfold halfL
      rw [if_neg (by simpa using h6)]
      show halfN ((s.data.toList.getD 0 0).toNat : Int) ((s.data.toList.getD 1 0).toNat : Int) ((s.data.toList.getD 2 0).toNat : Int) ((s.data.toList.getD 3 0).toNat : Int) false = _
      rw [b_at s 0 l0, b_at s 1 l1, b_at s 2 l2, b_at s 3 l3]
    rw [hf]
    clear hf
    go_enter Try.func22, Try.ntmps22
    go_wp2_with fail
    have i2 : (2 : Int) < (s.size : Int) := by omega
    have i3 : (3 : Int) < (s.size : Int) := by omega
    go_region
    all_goals go_wp2_with fail
    all_goals
      go_ret
      refine ⟨?_, Below.drew (Below.refl _ w)⟩
      show Ending.returned (.bool _) = Ending.returned (.bool _)
      refine congrArg (fun b => Ending.returned (.bool b)) ?_
    all_goals
      unfold halfN
      repeat' split
      all_goals first
        | rfl
        | contradiction
        | (exfalso; omega)
        | (exfalso; have hk := no_d (x := (s[2].toNat : Int)) (by assumption); omega)
        | (exfalso; have hk := is_d (x := (s[2].toNat : Int)) (by assumption); omega)
        | (rw [Bool.eq_iff_iff]; simp only [Bool.or_eq_true, Bool.false_eq_true, decide_eq_true_eq, beq_iff_eq, true_iff, false_iff, iff_true, iff_false]; omega)
set_option maxHeartbeats 4000000 in
theorem half_high (s : ByteArray) (hs : s.size ≤ 2097152) (w : World) : Calls Try.prog 22 #[.string s, .bool true] w fun e w' => e = .returned (.bool (halfL s.data.toList true)) ∧ Below w.heap.size w w' := by
  by_cases h6 : s.size < 6
  · have hf : halfL s.data.toList true = false := by unfold halfL; rw [if_pos (by simpa using h6)]
    have t6 : decide ((s.size : Int) < 6) = true := by simp; omega
    have HF := Lib.hid hf; clear hf
    go_enter Try.func22, Try.ntmps22
    go_wp2_with fail
    go_ret
    exact ⟨by rw [HF.out]; rfl, Below.refl _ _⟩
  · have t6 : decide ((s.size : Int) < 6) = false := by simp; omega
    obtain ⟨k, hk⟩ : ∃ k, s.size = k + 6 := ⟨s.size - 6, by omega⟩
    have l0 : k < s.size := by omega
    have l1 : k + 1 < s.size := by omega
    have l2 : k + 2 < s.size := by omega
    have l3 : k + 3 < s.size := by omega
    have hf : halfL s.data.toList true = halfN (s[k].toNat : Int) (s[k + 1].toNat : Int) (s[k + 2].toNat : Int) (s[k + 3].toNat : Int) true := by
      unfold halfL
      have hl : s.data.toList.length = k + 6 := by simpa using hk
      rw [if_neg (by omega), if_pos rfl, hl, show k + 6 - 6 = k by omega]
      rw [b_at s k l0, b_at s (k + 1) l1, b_at s (k + 2) l2, b_at s (k + 3) l3]
    rw [hf]
    have e0 : (s.size : Int) - 6 = (k : Int) := by omega
    have HK := Lib.hid hk
    have hkb : k < 2097152 := by omega
    clear hk hs
    clear hf
    go_enter Try.func22, Try.ntmps22
    go_wp2_with fail
    have i2 : (k : Int) + 2 < (s.size : Int) := by omega
    have i3 : (k : Int) + 3 < (s.size : Int) := by omega
    have j2 : 0 ≤ (k : Int) + 2 := by omega
    have j3 : 0 ≤ (k : Int) + 3 := by omega
    go_region
    all_goals go_wp2_with fail
    all_goals
      go_ret
      refine ⟨?_, Below.drew (Below.refl _ w)⟩
      show Ending.returned (.bool _) = Ending.returned (.bool _)
      refine congrArg (fun b => Ending.returned (.bool b)) ?_
    all_goals
      unfold halfN
      repeat' split
      all_goals first
        | rfl
        | contradiction
        | (exfalso; omega)
        | (exfalso; have hk := no_d (x := (s[k + 2].toNat : Int)) (by assumption); omega)
        | (exfalso; have hk := is_d (x := (s[k + 2].toNat : Int)) (by assumption); omega)
        | (rw [Bool.eq_iff_iff]; simp only [Bool.or_eq_true, Bool.false_eq_true, decide_eq_true_eq, beq_iff_eq, true_iff, false_iff, iff_true, iff_false]; omega)
theorem un_len : ∀ (n : Nat) (l : List UInt8), l.length ≤ n → ∀ o, unF l = some o → o.length ≤ l.length
  | _, [], _, o, h => by rw [unF_nil] at h; cases h; exact Nat.le_refl _
  | 0, x :: m, hn, o, h => by simp at hn
  | n + 1, x :: m, hn, o, h => by
    rw [List.length_cons] at hn
    cases hk : okB x with
    | false => rw [unF_bad x m hk] at h; cases h
    | true =>
      cases hb : bs x with
      | false =>
        rw [unF_plain x m hk hb] at h
        obtain ⟨o', ho, rfl⟩ := Option.map_eq_some_iff.1 h
        have := un_len n m (by omega) o' ho
        simp; omega
      | true =>
        rw [unF_esc x m hb] at h
        cases he : escU (x :: m) with
        | none => rw [he] at h; cases h
        | some p =>
          obtain ⟨r, c⟩ := p
          rw [he] at h
          simp only [] at h
          obtain ⟨o', ho, rfl⟩ := Option.map_eq_some_iff.1 h
          have hf := esc_facts he
          have hl : ((x :: m).drop c).length = (x :: m).length - c := List.length_drop ..
          have ih := un_len n ((x :: m).drop c) (by rw [hl, List.length_cons]; omega) o' ho
          rw [List.length_append]
          omega
theorem un_cases (s : ByteArray) : unE s ≠ 0 ∨ (badF s = -1 ∧ unE s = 0 ∧ ∃ o, unF s.data.toList = some o ∧ unB s = ⟨o.toArray⟩) := by
  by_cases hb : badF s = -1
  · cases h : unF s.data.toList with
    | none => left; rw [(un_none hb h).2]; decide
    | some o => right; obtain ⟨h1, h2⟩ := un_some hb h; exact ⟨hb, h2, o, rfl, h1⟩
  · left; unfold unE; rw [if_pos hb]; decide
theorem dig13 {x : UInt8} (h : digF (x.toNat : Int) = 13) : (x.toNat : Int) = 100 ∨ (x.toNat : Int) = 68 := by
  unfold digF at h
  repeat' split at h
  all_goals omega
theorem dig_high {x : UInt8} (h : 8 ≤ digF (x.toNat : Int)) (h2 : digF (x.toNat : Int) ≤ 11) : (x.toNat : Int) = 56 ∨ (x.toNat : Int) = 57 ∨ (x.toNat : Int) = 97 ∨ (x.toNat : Int) = 65 ∨ (x.toNat : Int) = 98 ∨ (x.toNat : Int) = 66 := by
  unfold digF at h h2
  repeat' split at h
  all_goals omega
theorem dig_low {x : UInt8} (h : 12 ≤ digF (x.toNat : Int)) : (99 ≤ (x.toNat : Int) ∧ (x.toNat : Int) ≤ 102) ∨ (67 ≤ (x.toNat : Int) ∧ (x.toNat : Int) ≤ 70) := by
  unfold digF at h
  repeat' split at h
  all_goals omega
theorem half_is_low {l : List UInt8} (h : isLow (oneL l)) : halfL l false = true := by
  rcases one_shape l (by rw [h.1]; decide) with ⟨y, m, rfl, h1, h2, h3⟩ | ⟨c, d, e, f, m, rfl, h1, h2, h3, h4, h5⟩
  · exact absurd h.1 (by rw [h3]; show ¬(2 = 6); decide)
  · have hv := h.2
    rw [h5] at hv
    simp only [] at hv
    have b1 := digF_le (c.toNat : Int); have b2 := digF_le (d.toNat : Int); have b3 := digF_le (e.toNat : Int); have b4 := digF_le (f.toNat : Int)
    have hc := dig13 (x := c) (by omega)
    have hd := dig_low (x := d) (by omega)
    unfold halfL
    rw [if_neg (by simp)]
    show halfN 92 117 (c.toNat : Int) (d.toNat : Int) false = true
    unfold halfN
    rw [if_neg (by omega)]
    simpa using hd
theorem half_is_high {a : List UInt8} (h : endsHigh a) : halfL a true = true := by
  obtain ⟨h6, h⟩ := h
  obtain ⟨l, hl⟩ : ∃ l, a.drop (a.length - 6) = l := ⟨_, rfl⟩
  have hg : ∀ i, a.getD (a.length - 6 + i) 0 = l.getD i 0 := fun i => by rw [← hl, List.getD_eq_getElem?_getD, List.getD_eq_getElem?_getD, List.getElem?_drop]
  rw [hl] at h
  unfold halfL
  rw [if_neg (by omega), if_pos rfl, show a.length - 6 = a.length - 6 + 0 from rfl, hg, Nat.add_assoc, Nat.add_assoc, Nat.add_assoc, hg, hg, hg]
  rcases one_shape l (by rw [h.1]; decide) with ⟨y, m, rfl, h1, h2, h3⟩ | ⟨c, d, e, f, m, rfl, h1, h2, h3, h4, h5⟩
  · exact absurd h.1 (by rw [h3]; show ¬(2 = 6); decide)
  · have hv := h.2
    rw [h5] at hv
    simp only [] at hv
    have b1 := digF_le (c.toNat : Int); have b2 := digF_le (d.toNat : Int); have b3 := digF_le (e.toNat : Int); have b4 := digF_le (f.toNat : Int)
    have hc := dig13 (x := c) (by omega)
    have hd := dig_high (x := d) (by omega) (by omega)
    show halfN 92 117 (c.toNat : Int) (d.toNat : Int) true = true
    unfold halfN
    rw [if_neg (by omega)]
    simpa using hd
end Go.Proofs.Ytlfkhfmepcnfeaa.Txt
