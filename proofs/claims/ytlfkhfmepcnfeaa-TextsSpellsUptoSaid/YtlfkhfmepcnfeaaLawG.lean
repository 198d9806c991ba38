/- Plain laws: what means something means UTF-8; two behind one another; Escape and back. -/
import Derived.Test.YtlfkhfmepcnfeaaLawE
import Derived.Test.YtlfkhfmepcnfeaaEscW
namespace Go.Proofs.Ytlfkhfmepcnfeaa.Txt
set_option linter.unusedVariables false
set_option linter.unusedSimpArgs false
open Go.RowKit Go.Proofs.Ytlfkhfmepcnfeaa.Utf Go.Proofs.Ytlfkhfmepcnfeaa.Ends

/-- Not bad, and at a form's end. -/
def Fine (c : Sc) : Prop := c.bad = false ∧ c.st.want = 0
theorem fine0 : Fine sc0 := ⟨rfl, rfl⟩
theorem bad_fine (l : List UInt8) : badL l = -1 ↔ Fine (runL sc0 l) := bad_neg l
theorem fine_from {c : Sc} (hc : Fine c) (l : List UInt8) : Fine (runL c l) ↔ Fine (runL sc0 l) := by
  by_cases e : l = []
  · subst e; exact ⟨fun _ => fine0, fun _ => hc⟩
  · have := run_from c hc.1 hc.2 l e
    unfold Fine
    rw [this.1, this.2]
theorem fine_any {c d : Sc} (hc : Fine c) (hd : Fine d) (l : List UInt8) : Fine (runL c l) ↔ Fine (runL d l) := (fine_from hc l).trans (fine_from hd l).symm
theorem one_ascii {c : Sc} (hc : Fine c) {x : UInt8} (h : x.toNat < 128) : Fine (oneF c (x.toNat : Int)) := by
  have hs : stepF c.st (x.toNat : Int) = (true, ⟨0, 128, 191, (x.toNat : Int)⟩) := by
    unfold stepF beginF
    rw [if_pos hc.2, if_pos (by omega)]
  unfold oneF
  rw [hs]
  simp only [hc.1]
  exact ⟨rfl, rfl⟩
theorem run_ascii : ∀ (l : List UInt8), (∀ x ∈ l, x.toNat < 128) → ∀ {c : Sc}, Fine c → Fine (runL c l)
  | [], _, c, hc => hc
  | x :: l, h, c, hc => by
    rw [run_cons]
    exact run_ascii l (fun y hy => h y (by simp [hy])) (one_ascii hc (h x (by simp)))
/-- A byte below 128 that is not bad stands between forms. -/
theorem ascii_want {c : Sc} {x : UInt8} (h : x.toNat < 128) (hok : Ok c.st) (hb : (oneF c (x.toNat : Int)).bad = false) : Fine c := by
  obtain ⟨h1, h2⟩ := one_not hb
  refine ⟨h1, ?_⟩
  by_cases hw : c.st.want = 0
  · exact hw
  · exfalso
    unfold stepF at h2
    rw [if_neg hw, if_pos (by have := hok.2.2.1 hw; omega)] at h2
    cases h2
theorem enc_good {r : Int} (h0 : 0 ≤ r) (h1 : r ≤ 1114111) (hs : ¬(55296 ≤ r ∧ r ≤ 57343)) : Fine (runL sc0 (encL r)) := by
  have one : ∀ {c : Sc} {x : Int} {st : St}, 0 ≤ x → x < 256 → c.bad = false → stepF c.st x = (true, st) → oneF c ((toB x).toNat : Int) = ⟨st, c.came + 1, false⟩ := fun {c x st} a b hc hst => by
    rw [toB_int a b]; unfold oneF; rw [hst]; simp [hc]
  by_cases a : r < 128
  · rw [enc_one h0 a, run_cons, run_nil, one (st := ⟨0, 128, 191, r⟩) (by omega) (by omega) rfl (by unfold stepF beginF; rw [if_pos (show sc0.st.want = 0 from rfl), if_pos (by omega)])]
    exact ⟨rfl, rfl⟩
  by_cases b : r < 2048
  · rw [enc_two (by omega) b, run_cons, run_cons, run_nil,
      one (c := sc0) (st := ⟨1, 128, 191, 192 + r / 64 - 192⟩) (by omega) (by omega) rfl (by unfold stepF beginF; rw [if_pos (show sc0.st.want = 0 from rfl), if_neg (by omega), if_neg (by omega), if_neg (by omega), if_pos (by omega)]),
      one (st := ⟨0, 128, 191, _⟩) (by omega) (by omega) rfl (by unfold stepF; rw [if_neg (by simp), if_neg (by simp only []; omega)]; rfl)]
    exact ⟨rfl, rfl⟩
  by_cases c : r < 65536
  · obtain ⟨lo, hi, hb, hl, hh⟩ : ∃ lo hi : Int, beginF (224 + r / 4096) = (true, ⟨2, lo, hi, 224 + r / 4096 - 224⟩) ∧ lo ≤ 128 + r / 64 % 64 ∧ 128 + r / 64 % 64 ≤ hi := by
      by_cases e1 : r / 4096 = 0
      · exact ⟨160, 191, by unfold beginF; rw [if_neg (by omega), if_neg (by omega), if_neg (by omega), if_neg (by omega), if_pos (by omega)], by omega, by omega⟩
      by_cases e2 : r / 4096 = 13
      · exact ⟨128, 159, by unfold beginF; rw [if_neg (by omega), if_neg (by omega), if_neg (by omega), if_neg (by omega), if_neg (by omega), if_pos (by omega)], by omega, by omega⟩
      · exact ⟨128, 191, by unfold beginF; rw [if_neg (by omega), if_neg (by omega), if_neg (by omega), if_neg (by omega), if_neg (by omega), if_neg (by omega), if_pos (by omega)], by omega, by omega⟩
    rw [enc_three (by omega) c hs, run_cons, run_cons, run_cons, run_nil,
      one (c := sc0) (st := ⟨2, lo, hi, 224 + r / 4096 - 224⟩) (by omega) (by omega) rfl (by unfold stepF; rw [if_pos (show sc0.st.want = 0 from rfl)]; exact hb),
      one (c := ⟨⟨2, lo, hi, 224 + r / 4096 - 224⟩, sc0.came + 1, false⟩) (st := ⟨1, 128, 191, _⟩) (by omega) (by omega) rfl (by unfold stepF; rw [if_neg (by simp), if_neg (by simp only []; omega)]; rfl),
      one (st := ⟨0, 128, 191, _⟩) (by omega) (by omega) rfl (by unfold stepF; rw [if_neg (by simp), if_neg (by simp only []; omega)]; rfl)]
    exact ⟨rfl, rfl⟩
  · obtain ⟨lo, hi, hb, hl, hh⟩ : ∃ lo hi : Int, beginF (240 + r / 262144) = (true, ⟨3, lo, hi, 240 + r / 262144 - 240⟩) ∧ lo ≤ 128 + r / 4096 % 64 ∧ 128 + r / 4096 % 64 ≤ hi := by
      by_cases e1 : r / 262144 = 0
      · exact ⟨144, 191, by unfold beginF; rw [if_neg (by omega), if_neg (by omega), if_neg (by omega), if_neg (by omega), if_neg (by omega), if_neg (by omega), if_neg (by omega), if_pos (by omega)], by omega, by omega⟩
      by_cases e2 : r / 262144 = 4
      · exact ⟨128, 143, by unfold beginF; rw [if_neg (by omega), if_neg (by omega), if_neg (by omega), if_neg (by omega), if_neg (by omega), if_neg (by omega), if_neg (by omega), if_neg (by omega), if_pos (by omega)], by omega, by omega⟩
      · exact ⟨128, 191, by unfold beginF; rw [if_neg (by omega), if_neg (by omega), if_neg (by omega), if_neg (by omega), if_neg (by omega), if_neg (by omega), if_neg (by omega), if_neg (by omega), if_neg (by omega)], by omega, by omega⟩
    rw [enc_four (by omega) h1, run_cons, run_cons, run_cons, run_cons, run_nil,
      one (c := sc0) (st := ⟨3, lo, hi, 240 + r / 262144 - 240⟩) (by omega) (by omega) rfl (by unfold stepF; rw [if_pos (show sc0.st.want = 0 from rfl)]; exact hb),
      one (c := ⟨⟨3, lo, hi, 240 + r / 262144 - 240⟩, sc0.came + 1, false⟩) (st := ⟨2, 128, 191, (240 + r / 262144 - 240) * 64 + (128 + r / 4096 % 64 - 128)⟩) (by omega) (by omega) rfl (by unfold stepF; rw [if_neg (by simp), if_neg (by simp only []; omega)]; rfl),
      one (c := ⟨⟨2, 128, 191, (240 + r / 262144 - 240) * 64 + (128 + r / 4096 % 64 - 128)⟩, sc0.came + 1 + 1, false⟩) (st := ⟨1, 128, 191, _⟩) (by omega) (by omega) rfl (by unfold stepF; rw [if_neg (by simp), if_neg (by simp only []; omega)]; rfl),
      one (st := ⟨0, 128, 191, _⟩) (by omega) (by omega) rfl (by unfold stepF; rw [if_neg (by simp), if_neg (by simp only []; omega)]; rfl)]
    exact ⟨rfl, rfl⟩
theorem dig_ascii {x : UInt8} (h : 0 ≤ digF (x.toNat : Int)) : x.toNat < 128 := by
  unfold digF at h
  repeat' split at h
  all_goals omega
theorem small_ascii {x : Int} (h : 0 ≤ small x) : x < 128 := by
  unfold small at h
  repeat' split at h
  all_goals omega
theorem one_ascii_all (l : List UInt8) (h : (oneL l).2 ≠ 0) : ∀ x ∈ l.take (oneL l).2, x.toNat < 128 := by
  rcases one_shape l h with ⟨y, m, rfl, h1, h2, h3⟩ | ⟨c, d, e, f, m, rfl, h1, h2, h3, h4, h5⟩
  · rw [h3]
    have := small_ascii h2
    intro x hx
    simp only [List.take_succ_cons, List.take_zero, List.mem_cons, List.not_mem_nil, or_false] at hx
    rcases hx with rfl | rfl
    · decide
    · omega
  · rw [h5]
    intro x hx
    simp only [List.take_succ_cons, List.take_zero, List.mem_cons, List.not_mem_nil, or_false] at hx
    rcases hx with rfl | rfl | rfl | rfl | rfl | rfl
    · decide
    · decide
    · exact dig_ascii h1
    · exact dig_ascii h2
    · exact dig_ascii h3
    · exact dig_ascii h4
theorem esc_ascii {l : List UInt8} {r : Int} {c : Nat} (h : escU l = some (r, c)) : ∀ x ∈ l.take c, x.toNat < 128 := by
  unfold escU at h
  split at h
  · cases h
  rename_i h0
  have h1 := one_ascii_all l h0
  split at h
  · split at h
    · rename_i h2
      have h3 := one_ascii_all (l.drop (oneL l).2) (by omega)
      simp only [Option.some.injEq, Prod.mk.injEq] at h
      obtain ⟨-, rfl⟩ := h
      rw [List.take_add]
      rw [h2.1] at h3
      intro x hx
      rcases List.mem_append.1 hx with hx | hx
      · exact h1 x hx
      · exact h3 x hx
    · simp only [Option.some.injEq, Prod.mk.injEq] at h
      obtain ⟨-, rfl⟩ := h
      exact h1
  · split at h <;>
    · simp only [Option.some.injEq, Prod.mk.injEq] at h
      obtain ⟨-, rfl⟩ := h
      exact h1
theorem un_good : ∀ (n : Nat) (l : List UInt8), l.length ≤ n → ∀ o, unF l = some o → ∀ c : Sc, Ok c.st → Fine (runL c l) → Fine (runL c o)
  | _, [], _, o, h, c, hok, hc => by rw [unF_nil] at h; cases h; exact hc
  | 0, x :: m, hn, o, _, _, _, _ => by simp at hn
  | n + 1, x :: m, hn, o, h, c, hok, hc => by
    rw [List.length_cons] at hn
    cases hk : okB x with
    | false => rw [unF_bad x m hk] at h; cases h
    | true =>
      have hnb := run_notbad (l := m) (by rw [← run_cons]; exact hc.1)
      cases hb : bs x with
      | false =>
        rw [unF_plain x m hk hb] at h
        obtain ⟨o', ho, rfl⟩ := Option.map_eq_some_iff.1 h
        rw [run_cons] at hc
        rw [List.singleton_append, run_cons]
        exact un_good n m (by omega) o' ho _ (run_ok [x] hok) hc
      | true =>
        have hx := bs_eq hb
        have hfc : Fine c := ascii_want (x := x) (by rw [hx]; decide) hok hnb
        rw [unF_esc x m hb] at h
        cases he : escU (x :: m) with
        | none => rw [he] at h; cases h
        | some p =>
          obtain ⟨r, k⟩ := p
          rw [he] at h
          simp only [] at h
          obtain ⟨o', ho, rfl⟩ := Option.map_eq_some_iff.1 h
          have hf := esc_facts he
          have hE : Fine (runL c ((x :: m).take k)) := run_ascii _ (esc_ascii he) hfc
          have hc2 : Fine (runL (runL c ((x :: m).take k)) ((x :: m).drop k)) := by rw [← run_app, List.take_append_drop]; exact hc
          have ih := un_good n ((x :: m).drop k) (by rw [List.length_drop, List.length_cons]; omega) o' ho _ (run_ok _ hok) hc2
          have hd : Fine (runL c (encL r)) := (fine_any hfc fine0 _).2 (enc_good hf.1 hf.2.1 hf.2.2.1)
          rw [run_app]
          exact (fine_any hd hE o').2 ih
/-- What means something means UTF-8. -/
theorem un_bad {l o : List UInt8} (h : unF l = some o) (hl : badL l = -1) : badL o = -1 :=
  (bad_fine o).2 (un_good _ l (Nat.le_refl _) o h sc0 ok0 ((bad_fine l).1 hl))
/-- An escape that is whole stays what it is, whatever stands behind it. -/
theorem one_more (l b : List UInt8) (h : (oneL l).2 ≠ 0) : oneL (l ++ b) = oneL l := by
  rcases one_shape l h with ⟨y, m, rfl, h1, h2, h3⟩ | ⟨c, d, e, f, m, rfl, h1, h2, h3, h4, h5⟩
  · rw [h3]
    show oneL (92 :: y :: (m ++ b)) = _
    have hy : (((92 : UInt8) :: y :: (m ++ b)).getD 1 0) = y := rfl
    unfold oneL
    rw [if_neg (by simp), hy, if_neg h1, if_neg (by omega)]
  · rw [h5]
    show oneL (92 :: 117 :: c :: d :: e :: f :: (m ++ b)) = _
    unfold oneL
    rw [if_neg (by simp), if_pos (show ((((92 : UInt8) :: 117 :: c :: d :: e :: f :: (m ++ b)).getD 1 0).toNat : Int) = 117 from rfl)]
    unfold fourL
    rw [if_pos ⟨by simp, h1, h2, h3, h4⟩]
    show (((((0 : Int) * 16 + _) * 16 + _) * 16 + _) * 16 + _, 6) = _
    simp only [Prod.mk.injEq, and_true]
    show ((((0 : Int) * 16 + digF (c.toNat : Int)) * 16 + digF (d.toNat : Int)) * 16 + digF (e.toNat : Int)) * 16 + digF (f.toNat : Int) = _
    rw [Int.zero_mul, Int.zero_add]
def isHigh (p : Int × Nat) : Prop := p.2 = 6 ∧ 55296 ≤ p.1 ∧ p.1 < 56320
def isLow (p : Int × Nat) : Prop := p.2 = 6 ∧ 56320 ≤ p.1 ∧ p.1 < 57344
/-- The text's last six bytes are a high half. -/
def endsHigh (a : List UInt8) : Prop := 6 ≤ a.length ∧ isHigh (oneL (a.drop (a.length - 6)))
theorem endsHigh_drop {a : List UInt8} {k : Nat} (h : endsHigh (a.drop k)) : endsHigh a := by
  obtain ⟨h1, h2⟩ := h
  rw [List.length_drop] at h1 h2
  rw [List.drop_drop, show k + (a.length - k - 6) = a.length - 6 by omega] at h2
  exact ⟨by omega, h2⟩
theorem one_first {x : UInt8} {m : List UInt8} (h : bs x = false) : oneL (x :: m) = (0, 0) := by
  unfold oneL
  rw [List.getD_cons_zero, if_pos (.inr (by unfold bs at h; rwa [beq_eq_false_iff_ne] at h))]
theorem esc_more {a b : List UInt8} {r : Int} {c : Nat} (he : escU a = some (r, c)) (hu : unF (a.drop c) ≠ none) (hj : ¬(endsHigh a ∧ isLow (oneL b))) : escU (a ++ b) = some (r, c) := by
  have hoc := one_cases a
  unfold escU at he ⊢
  by_cases h0 : (oneL a).2 = 0
  · rw [if_pos h0] at he; cases he
  have e1 := one_more a b h0
  rw [e1]
  rw [if_neg h0] at he ⊢
  have hlen : (oneL a).2 ≤ a.length := by
    rcases hoc with q | q | q
    · rw [q] at h0; exact absurd rfl h0
    · omega
    · omega
  by_cases h1 : 55296 ≤ (oneL a).1 ∧ (oneL a).1 < 56320
  · rw [if_pos h1] at he ⊢
    have h6 : (oneL a).2 = 6 := by
      rcases hoc with q | q | q
      · rw [q] at h0; exact absurd rfl h0
      · omega
      · exact q.2.2.1
    rw [List.drop_append_of_le_length hlen]
    by_cases h2 : (oneL (a.drop (oneL a).2)).2 = 6 ∧ 56320 ≤ (oneL (a.drop (oneL a).2)).1 ∧ (oneL (a.drop (oneL a).2)).1 < 57344
    · rw [one_more _ b (by omega)]
      exact he
    · rw [if_neg h2] at he
      simp only [Option.some.injEq, Prod.mk.injEq] at he
      obtain ⟨rfl, hc⟩ := he
      rw [hc] at h2 h6 hlen ⊢
      have : ¬((oneL (a.drop c ++ b)).2 = 6 ∧ 56320 ≤ (oneL (a.drop c ++ b)).1 ∧ (oneL (a.drop c ++ b)).1 < 57344) := by
        cases hd : a.drop c with
        | nil =>
          rw [List.nil_append]
          intro hl
          refine hj ⟨⟨by omega, ?_⟩, hl⟩
          have hle : a.length ≤ c := by
            have := congrArg List.length hd
            rw [List.length_drop] at this
            simpa [Nat.sub_eq_zero_iff_le] using this
          rw [show a.length - 6 = 0 by omega, List.drop_zero]
          exact ⟨hc.trans h6, h1⟩
        | cons x m =>
          rw [hd] at hu h2
          cases hb : bs x with
          | false => rw [List.cons_append, one_first hb]; rintro ⟨q, -⟩; cases q
          | true =>
            have hn : (oneL (x :: m)).2 ≠ 0 := by
              intro hz
              rw [unF_esc x m hb] at hu
              have : escU (x :: m) = none := by unfold escU; rw [if_pos hz]
              rw [this] at hu
              exact hu rfl
            rw [one_more _ b hn]
            exact h2
      rw [if_neg this]
  · rw [if_neg h1] at he ⊢
    exact he
/-- Two that are right, one behind the other. -/
theorem joins : ∀ (n : Nat) (a : List UInt8), a.length ≤ n → ∀ o b, unF a = some o → ¬(endsHigh a ∧ isLow (oneL b)) → unF (a ++ b) = (unF b).map (o ++ ·)
  | _, [], _, o, b, h, _ => by rw [unF_nil] at h; cases h; simp
  | 0, x :: m, hn, o, b, _, _ => by simp at hn
  | n + 1, x :: m, hn, o, b, h, hj => by
    rw [List.length_cons] at hn
    cases hk : okB x with
    | false => rw [unF_bad x m hk] at h; cases h
    | true =>
      cases hb : bs x with
      | false =>
        rw [unF_plain x m hk hb] at h
        obtain ⟨o', ho, rfl⟩ := Option.map_eq_some_iff.1 h
        rw [List.cons_append, unF_plain x _ hk hb, joins n m (by omega) o' b ho fun q => hj ⟨endsHigh_drop (a := x :: m) (k := 1) q.1, q.2⟩]
        cases unF b <;> simp
      | true =>
        rw [unF_esc x m hb] at h
        cases he : escU (x :: m) with
        | none => rw [he] at h; cases h
        | some p =>
          obtain ⟨r, k⟩ := p
          rw [he] at h
          simp only [] at h
          obtain ⟨o', ho, rfl⟩ := Option.map_eq_some_iff.1 h
          have hf := esc_facts he
          have hm := esc_more (b := b) he (by rw [ho]; simp) hj
          rw [List.cons_append, unF_esc x _ hb, ← List.cons_append, hm]
          simp only []
          rw [List.drop_append_of_le_length hf.2.2.2.2.1, joins n ((x :: m).drop k) (by rw [List.length_drop, List.length_cons]; omega) o' b ho fun q => hj ⟨endsHigh_drop q.1, q.2⟩]
          cases unF b <;> simp
end Go.Proofs.Ytlfkhfmepcnfeaa.Txt
