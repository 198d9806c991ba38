/- Plain laws of one character's form: what it is told as; its beginnings. -/
import Derived.Test.YtlfkhfmepcnfeaaUtfQ
import Derived.Test.YtlfkhfmepcnfeaaUtfK
namespace Go.Proofs.Ytlfkhfmepcnfeaa.Utf
set_option linter.unusedVariables false
set_option linter.unusedSimpArgs false

theorem one_not {c : Sc} {x : Int} (h : (oneF c x).bad = false) : c.bad = false ∧ stepF c.st x = (true, (oneF c x).st) := by
  unfold oneF at h ⊢
  cases hb : c.bad with
  | true => simp [hb] at h
  | false =>
    cases hs : (stepF c.st x).1 with
    | true => exact ⟨rfl, by simp [hs]; rw [← hs]⟩
    | false => simp [hb, hs] at h
theorem run_ok1 (l : List UInt8) : Ok (runL sc0 l).st := run_ok l ok0
/-- Within what is UTF-8: ahead of a byte that goes on, the run is within a form. -/
theorem within {L : List UInt8} (h : badL L = -1) {k : Nat} (hk : k < L.length) (h1 : 128 ≤ (L[k].toNat : Int)) (h2 : (L[k].toNat : Int) ≤ 191) :
    (runL sc0 (L.take k)).bad = false ∧ (runL sc0 (L.take k)).st.want ≠ 0 := by
  have hn := ((bad_neg L).1 h).1
  have hs : L = L.take k ++ L[k] :: L.drop (k + 1) := by rw [← List.drop_eq_getElem_cons hk, List.take_append_drop]
  have hb : (runL sc0 (L.take k)).bad = false := by
    cases hq : (runL sc0 (L.take k)).bad with
    | false => rfl
    | true => rw [hs, run_bad' _ _ _ hq, hq] at hn; exact hn
  refine ⟨hb, fun hw => ?_⟩
  rw [hs, run_app, run_cons] at hn
  have := run_notbad hn
  obtain ⟨-, hst⟩ := one_not this
  unfold stepF at hst
  rw [if_pos hw] at hst
  have hf : (beginF (L[k].toNat : Int)).1 = false := by
    unfold beginF
    rw [if_neg (by omega), if_pos (by omega)]
  rw [hst] at hf
  cases hf
theorem cut_bad {L : List UInt8} (h : badL L = -1) {k : Nat} (hk : k < L.length) (h1 : 128 ≤ (L[k].toNat : Int)) (h2 : (L[k].toNat : Int) ≤ 191) : badL (L.take k) = (k : Int) := by
  obtain ⟨hb, hw⟩ := within h hk h1 h2
  rcases run_place (L.take k) with ⟨-, hc⟩ | ⟨hb', -⟩
  · unfold badL
    have hp : 0 < (runL sc0 (L.take k)).st.want := by have := run_ok1 (L.take k); unfold Ok at this; omega
    rw [end_want hp, hc, List.length_take]; omega
  · rw [hb] at hb'; cases hb'
theorem cut_on {L : List UInt8} (h : badL L = -1) {k : Nat} (hk : k < L.length) (h1 : 128 ≤ (L[k].toNat : Int)) (h2 : (L[k].toNat : Int) ≤ 191) (x : UInt8) (hx : (x.toNat : Int) < 128 ∨ 191 < (x.toNat : Int)) (m : List UInt8) :
    badL (L.take k ++ x :: m) = (k : Int) := by
  obtain ⟨hb, hw⟩ := within h hk h1 h2
  have hok := run_ok1 (L.take k)
  have hlim : 128 ≤ (runL sc0 (L.take k)).st.lo ∧ (runL sc0 (L.take k)).st.hi ≤ 191 := by unfold Ok at hok; exact ⟨hok.2.2.1 hw, hok.2.2.2.1 hw⟩
  have hc : (runL sc0 (L.take k)).came = k := by
    rcases run_place (L.take k) with ⟨-, hc⟩ | ⟨hb', -⟩
    · rw [hc, List.length_take]; omega
    · rw [hb] at hb'; cases hb'
  have hst : stepF (runL sc0 (L.take k)).st (x.toNat : Int) = (false, (runL sc0 (L.take k)).st) := by
    unfold stepF; rw [if_neg hw, if_pos (by omega)]
  have ho : (oneF (runL sc0 (L.take k)) (x.toNat : Int)).bad = true ∧ (oneF (runL sc0 (L.take k)) (x.toNat : Int)).came = k := by
    unfold oneF; rw [hb]; simp [hst, hc]
  unfold badL
  rw [run_app, run_cons, run_bad ho.1, end_bad ho.1, ho.2]
/-- The bytes behind a form's first one go on; the first one does not. -/
def Lead (L : List UInt8) : Prop := (∀ k (hk : k < L.length), 0 < k → 128 ≤ (L[k].toNat : Int) ∧ (L[k].toNat : Int) ≤ 191) ∧ (1 < L.length → ∃ x m, L = x :: m ∧ 191 < (x.toNat : Int))
theorem toB_nat {x : Int} (h0 : 0 ≤ x) (h : x < 256) : ((toB x).toNat : Int) = x := toB_int h0 h
theorem valid_of {r : Int} (h : sizeF r ≠ 0) : 0 ≤ r ∧ r ≤ 1114111 ∧ ¬(55296 ≤ r ∧ r ≤ 57343) := by
  unfold sizeF at h
  split at h
  · exact absurd rfl h
  · omega
theorem enc_lead {r : Int} (h : sizeF r ≠ 0) : Lead (encL r) := by
  have hr := valid_of h
  by_cases h1 : r < 128
  · rw [enc_one hr.1 h1]
    exact ⟨fun k hk h0 => by simp at hk; omega, fun h => by simp at h⟩
  by_cases h2 : r < 2048
  · rw [enc_two (by omega) h2]
    refine ⟨fun k hk h0 => ?_, fun _ => ⟨_, _, rfl, by rw [toB_nat (by omega) (by omega)]; omega⟩⟩
    match k, hk, h0 with
    | 1, _, _ => simp only [List.getElem_cons_succ, List.getElem_cons_zero]; rw [toB_nat (by omega) (by omega)]; omega
  by_cases h3 : r < 65536
  · rw [enc_three (by omega) h3 hr.2.2]
    refine ⟨fun k hk h0 => ?_, fun _ => ⟨_, _, rfl, by rw [toB_nat (by omega) (by omega)]; omega⟩⟩
    match k, hk, h0 with
    | 1, _, _ => simp only [List.getElem_cons_succ, List.getElem_cons_zero]; rw [toB_nat (by omega) (by omega)]; omega
    | 2, _, _ => simp only [List.getElem_cons_succ, List.getElem_cons_zero]; rw [toB_nat (by omega) (by omega)]; omega
  · rw [enc_four (by omega) hr.2.1]
    refine ⟨fun k hk h0 => ?_, fun _ => ⟨_, _, rfl, by rw [toB_nat (by omega) (by omega)]; omega⟩⟩
    match k, hk, h0 with
    | 1, _, _ => simp only [List.getElem_cons_succ, List.getElem_cons_zero]; rw [toB_nat (by omega) (by omega)]; omega
    | 2, _, _ => simp only [List.getElem_cons_succ, List.getElem_cons_zero]; rw [toB_nat (by omega) (by omega)]; omega
    | 3, _, _ => simp only [List.getElem_cons_succ, List.getElem_cons_zero]; rw [toB_nat (by omega) (by omega)]; omega
theorem enc_inj {a b : Int} (ha : sizeF a ≠ 0) (hb : sizeF b ≠ 0) (h : encL a = encL b) : a = b := by
  have ra := valid_of ha
  have rb := valid_of hb
  have key : ∀ {x y : Int}, 0 ≤ x → x < 256 → 0 ≤ y → y < 256 → toB x = toB y → x = y := fun {x y} h0 h1 h2 h3 e => by
    have : ((toB x).toNat : Int) = ((toB y).toNat : Int) := congrArg (fun u : UInt8 => (u.toNat : Int)) e
    rwa [toB_int h0 h1, toB_int h2 h3] at this
  by_cases a1 : a < 128
  · rw [enc_one ra.1 a1] at h
    by_cases b1 : b < 128
    · rw [enc_one rb.1 b1] at h; simp at h; exact key (by omega) (by omega) (by omega) (by omega) h
    by_cases b2 : b < 2048
    · rw [enc_two (by omega) b2] at h; simp at h
    by_cases b3 : b < 65536
    · rw [enc_three (by omega) b3 rb.2.2] at h; simp at h
    · rw [enc_four (by omega) rb.2.1] at h; simp at h
  by_cases a2 : a < 2048
  · rw [enc_two (by omega) a2] at h
    by_cases b1 : b < 128
    · rw [enc_one rb.1 b1] at h; simp at h
    by_cases b2 : b < 2048
    · rw [enc_two (by omega) b2] at h; simp at h
      have e1 := key (by omega) (by omega) (by omega) (by omega) h.1
      have e2 := key (by omega) (by omega) (by omega) (by omega) h.2
      omega
    by_cases b3 : b < 65536
    · rw [enc_three (by omega) b3 rb.2.2] at h; simp at h
    · rw [enc_four (by omega) rb.2.1] at h; simp at h
  by_cases a3 : a < 65536
  · rw [enc_three (by omega) a3 ra.2.2] at h
    by_cases b1 : b < 128
    · rw [enc_one rb.1 b1] at h; simp at h
    by_cases b2 : b < 2048
    · rw [enc_two (by omega) b2] at h; simp at h
    by_cases b3 : b < 65536
    · rw [enc_three (by omega) b3 rb.2.2] at h; simp at h
      have e1 := key (by omega) (by omega) (by omega) (by omega) h.1
      have e2 := key (by omega) (by omega) (by omega) (by omega) h.2.1
      have e3 := key (by omega) (by omega) (by omega) (by omega) h.2.2
      omega
    · rw [enc_four (by omega) rb.2.1] at h; simp at h
  · rw [enc_four (by omega) ra.2.1] at h
    by_cases b1 : b < 128
    · rw [enc_one rb.1 b1] at h; simp at h
    by_cases b2 : b < 2048
    · rw [enc_two (by omega) b2] at h; simp at h
    by_cases b3 : b < 65536
    · rw [enc_three (by omega) b3 rb.2.2] at h; simp at h
    · rw [enc_four (by omega) rb.2.1] at h; simp at h
      have e1 := key (by omega) (by omega) (by omega) (by omega) h.1
      have e2 := key (by omega) (by omega) (by omega) (by omega) h.2.1
      have e3 := key (by omega) (by omega) (by omega) (by omega) h.2.2.1
      have e4 := key (by omega) (by omega) (by omega) (by omega) h.2.2.2
      omega
/-- What a form's remaining bytes tell: the one character, if they all go on. -/
theorem runes_one : ∀ (l p : List UInt8) (st : St), Part p st → (runL ⟨st, p.length, false⟩ l).bad = false → (∀ k, k < l.length → (runL ⟨st, p.length, false⟩ (l.take k)).st.want = 0 → k = 0 ∧ p = []) →
    (runL ⟨st, p.length, false⟩ l).st.want = 0 → (l ≠ [] ∨ p ≠ []) → ∃ c, runesF st 0 p.length l = [(0, c)] ∧ encL c = p ++ l ∧ sizeF c ≠ 0
  | [], p, st, hp, hb, hk, hw, hne => by
    obtain ⟨-, hz⟩ := part_len hp
    have : p = [] := hz.2 hw
    subst this
    rcases hne with h | h <;> exact absurd rfl h
  | x :: l, p, st, hp, hb, hk, hw, hne => by
    rw [run_cons] at hb hw
    obtain ⟨-, hst⟩ := one_not (run_notbad hb)
    have hs1 : (stepF st (x.toNat : Int)).1 = true := by rw [hst]
    have e3 : oneF ⟨st, p.length, false⟩ (x.toNat : Int) = ⟨(oneF ⟨st, p.length, false⟩ (x.toNat : Int)).st, p.length + 1, false⟩ := by
      have : oneF ⟨st, p.length, false⟩ (x.toNat : Int) = ⟨(stepF st (x.toNat : Int)).2, p.length + 1, false⟩ := by simp [oneF, hs1]
      rw [this]
    generalize (oneF ⟨st, p.length, false⟩ (x.toNat : Int)).st = s2 at *
    rcases part_step hp hst with ⟨hw2, henc, hsz⟩ | ⟨hw2, hpart⟩
    · have hl : l = [] := by
        cases l with
        | nil => rfl
        | cons y l =>
          have := hk 1 (by simp) (by
            rw [List.take_succ_cons, List.take_zero, run_cons, run_nil, e3]; exact hw2)
          omega
      subst hl
      exact ⟨s2.ch, by simp [runesF, hst, hw2], by rw [henc], by rw [hsz]; omega⟩
    · rw [e3] at hb hw
      have el : p.length + 1 = (p ++ [x]).length := by simp
      rw [el] at hb hw
      have hz2 := part_len hpart
      obtain ⟨c, h1, h2, h3⟩ := runes_one l (p ++ [x]) s2 hpart hb (fun k hkl hkw => by
        exfalso
        by_cases k0 : k = 0
        · subst k0
          have : s2.want = 0 := hkw
          exact hw2 this
        · have := hk (k + 1) (by simp; omega) (by rw [List.take_succ_cons, run_cons, e3, el]; exact hkw)
          omega) hw (.inr (by simp))
      exact ⟨c, by rw [runesF, hst]; simp only [if_true, if_neg hw2]; rw [el]; exact h1, by rw [h2, List.append_assoc]; rfl, h3⟩
theorem enc_runes {r : Int} (h : sizeF r ≠ 0) (hg : badL (encL r) = -1) (hn : encL r ≠ []) : runesL (encL r) = [(0, r)] := by
  have hl := enc_lead h
  have hb := (bad_neg _).1 hg
  obtain ⟨c, h1, h2, h3⟩ := runes_one (encL r) [] st0 (.inl ⟨rfl, rfl⟩) hb.1 (fun k hk hw => by
    by_cases k0 : k = 0
    · exact ⟨k0, rfl⟩
    · exfalso
      obtain ⟨a, b⟩ := hl.1 k hk (by omega)
      exact (within hg hk a b).2 hw) hb.2 (.inl hn)
  have := enc_inj h3 h h2
  rw [← this]
  rw [this] at h1 ⊢
  exact h1
end Go.Proofs.Ytlfkhfmepcnfeaa.Utf
