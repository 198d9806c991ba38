/- Plain laws of the run over a text's bytes: where it is bad; what can go on. -/
import Derived.Test.YtlfkhfmepcnfeaaUtfF
namespace Go.Proofs.Ytlfkhfmepcnfeaa.Utf
set_option linter.unusedVariables false
set_option linter.unusedSimpArgs false

def runL (c : Sc) (l : List UInt8) : Sc := l.foldl (fun c x => oneF c (x.toNat : Int)) c
def badL (l : List UInt8) : Int := endF (runL sc0 l)
theorem up_run (s : ByteArray) (c : Sc) : ∀ n, n ≤ s.size → upF s c n = runL c (s.data.toList.take n)
  | 0, _ => by simp [upF, runL]
  | n + 1, h => by
    have hl : n < s.data.toList.length := by simp; omega
    show oneF (upF s c n) _ = _
    rw [up_run s c n (by omega), List.take_succ_eq_append_getElem hl]
    simp only [runL, List.foldl_append, List.foldl_cons, List.foldl_nil]
    rw [List.getD_eq_getElem?_getD, List.getElem?_eq_getElem hl]
    rfl
theorem up_all (s : ByteArray) (c : Sc) : upF s c s.size = runL c s.data.toList := by
  rw [up_run s c s.size (Nat.le_refl _), List.take_of_length_le (by simp)]
theorem badF_run (s : ByteArray) : badF s = badL s.data.toList := by unfold badF badL; rw [up_all]
theorem run_nil (c : Sc) : runL c [] = c := rfl
theorem run_cons (c : Sc) (x : UInt8) (l : List UInt8) : runL c (x :: l) = runL (oneF c (x.toNat : Int)) l := rfl
theorem run_app (c : Sc) (a b : List UInt8) : runL c (a ++ b) = runL (runL c a) b := by simp [runL]
theorem run_bad {c : Sc} (h : c.bad = true) : ∀ l, runL c l = c
  | [] => rfl
  | x :: l => by rw [run_cons, show oneF c (x.toNat : Int) = c by unfold oneF; rw [if_pos h]]; exact run_bad h l
theorem run_bad' (c : Sc) (a b : List UInt8) (h : (runL c a).bad = true) : runL c (a ++ b) = runL c a := by rw [run_app, run_bad h]
theorem run_notbad {c : Sc} {l : List UInt8} (h : (runL c l).bad = false) : c.bad = false := by
  cases hc : c.bad with
  | false => rfl
  | true => rw [run_bad hc] at h; rw [h] at hc; cases hc
/-- After n bytes: not bad, and all have come; or bad at a place k. -/
theorem run_place (l : List UInt8) : ((runL sc0 l).bad = false ∧ (runL sc0 l).came = l.length) ∨
    ((runL sc0 l).bad = true ∧ ∃ k, k < l.length ∧ (runL sc0 l).came = k ∧ (runL sc0 (l.take k)).bad = false ∧ (runL sc0 (l.take (k + 1))).bad = true) := by
  suffices H : ∀ n, n ≤ l.length → ((runL sc0 (l.take n)).bad = false ∧ (runL sc0 (l.take n)).came = n) ∨
      ((runL sc0 (l.take n)).bad = true ∧ ∃ k, k < n ∧ (runL sc0 (l.take n)).came = k ∧ (runL sc0 (l.take k)).bad = false ∧ (runL sc0 (l.take (k + 1))).bad = true) by
    have := H l.length (Nat.le_refl _)
    rwa [List.take_of_length_le (Nat.le_refl _)] at this
  intro n
  induction n with
  | zero => intro _; left; simp [runL, sc0]
  | succ n ih =>
    intro h
    have hn : n < l.length := by omega
    have e : runL sc0 (l.take (n + 1)) = oneF (runL sc0 (l.take n)) (l[n].toNat : Int) := by
      rw [List.take_succ_eq_append_getElem hn, run_app]; rfl
    rcases ih (by omega) with ⟨hb, hc⟩ | ⟨hb, k, hk, hc, h1, h2⟩
    · by_cases hs : (stepF (runL sc0 (l.take n)).st (l[n].toNat : Int)).1 = true
      · left
        rw [e]; unfold oneF; rw [hb]; simp [hs, hc]
      · right
        have hbad : (runL sc0 (l.take (n + 1))).bad = true ∧ (runL sc0 (l.take (n + 1))).came = n := by
          rw [e]; unfold oneF; rw [hb]; simp [hs, hc]
        exact ⟨hbad.1, n, by omega, hbad.2, hb, hbad.1⟩
    · right
      have e2 : runL sc0 (l.take (n + 1)) = runL sc0 (l.take n) := by rw [e]; unfold oneF; rw [if_pos hb]
      rw [e2]
      exact ⟨hb, k, by omega, hc, h1, h2⟩
/-- Which bytes may come next, of a state that a run can come to. -/
def Ok2 (st : St) : Prop := st.want = 0 ∨ (1 ≤ st.want ∧ st.want ≤ 3 ∧ ((st.lo = 128 ∧ 143 ≤ st.hi ∧ st.hi ≤ 191) ∨ (st.lo = 160 ∧ st.hi = 191) ∨ (st.lo = 144 ∧ st.hi = 191)))
theorem begin_ok2 (x : Int) : Ok2 (beginF x).2 := by
  unfold beginF Ok2
  repeat' split
  all_goals simp
theorem step_ok2 {st : St} (h : Ok2 st) (x : Int) : Ok2 (stepF st x).2 := by
  unfold stepF
  split
  · exact begin_ok2 x
  split
  · exact h
  · unfold Ok2 at h ⊢
    by_cases e : st.want = 1
    · exact .inl (by show st.want - 1 = 0; omega)
    · exact .inr ⟨by show 1 ≤ st.want - 1; omega, by show st.want - 1 ≤ 3; omega, .inl ⟨rfl, by show (143 : Int) ≤ 191; decide, by show (191 : Int) ≤ 191; decide⟩⟩
theorem one_ok2 {c : Sc} (h : Ok2 c.st) (x : Int) : Ok2 (oneF c x).st := by
  unfold oneF
  have := step_ok2 h x
  repeat' split
  all_goals first | exact h | exact this
theorem run_ok2 (l : List UInt8) : ∀ {c : Sc}, Ok2 c.st → Ok2 (runL c l).st := by
  induction l with
  | nil => exact fun h => h
  | cons x l ih => exact fun h => ih (one_ok2 h _)
theorem ok2_0 : Ok2 sc0.st := .inl rfl
theorem end_notbad {c : Sc} (h : c.bad = false) (hw : c.st.want = 0) : endF c = -1 := by
  unfold endF; rw [if_neg (by simp [h, hw])]
theorem end_bad {c : Sc} (h : c.bad = true) : endF c = c.came := by
  unfold endF; rw [if_pos (.inl h)]
theorem end_want {c : Sc} (h : 0 < c.st.want) : endF c = c.came := by
  unfold endF; rw [if_pos (.inr h)]
/-- What Bad says of a row of bytes. -/
theorem bad_cases (l : List UInt8) : (badL l = -1 ∧ (runL sc0 l).bad = false ∧ (runL sc0 l).st.want = 0) ∨
    ∃ k : Nat, k ≤ l.length ∧ badL l = k ∧ (runL sc0 (l.take k)).bad = false ∧ ((k = l.length ∧ 0 < (runL sc0 l).st.want) ∨ (k < l.length ∧ (runL sc0 (l.take (k + 1))).bad = true)) := by
  have hok := run_ok2 l ok2_0
  rcases run_place l with ⟨hb, hc⟩ | ⟨hb, k, hk, hc, h1, h2⟩
  · by_cases hw : (runL sc0 l).st.want = 0
    · exact .inl ⟨end_notbad hb hw, hb, hw⟩
    · have hw' : 0 < (runL sc0 l).st.want := by unfold Ok2 at hok; omega
      exact .inr ⟨l.length, Nat.le_refl _, by unfold badL; rw [end_want hw', hc], by rw [List.take_of_length_le (Nat.le_refl _)]; exact hb, .inl ⟨rfl, hw'⟩⟩
  · exact .inr ⟨k, by omega, by unfold badL; rw [end_bad hb, hc], h1, .inr ⟨hk, h2⟩⟩
/-- Whatever follows what is bad is bad. -/
theorem bad_on (a b : List UInt8) (h : (runL sc0 a).bad = true) : badL (a ++ b) ≠ -1 := by
  unfold badL
  rw [run_bad' sc0 a b h, end_bad h]
  omega
theorem one_in {c : Sc} (hb : c.bad = false) (hw : c.st.want ≠ 0) (x : Int) (hl : c.st.lo ≤ x) (hh : x ≤ c.st.hi) :
    (oneF c x).bad = false ∧ (oneF c x).st.want = c.st.want - 1 ∧ (oneF c x).st.lo = 128 ∧ (oneF c x).st.hi = 191 := by
  have h : stepF c.st x = (true, ⟨c.st.want - 1, 128, 191, c.st.ch * 64 + (x - 128)⟩) := by unfold stepF; rw [if_neg hw, if_neg (by omega)]
  simp [oneF, h, hb]
def tryB : Nat → UInt8
  | 0 => 128
  | 1 => 144
  | 2 => 160
  | 3 => 143
  | _ => 191
def tryL (i k : Nat) : List UInt8 := tryB i :: List.replicate k 128
theorem run_fill : ∀ (k : Nat) (c : Sc), c.bad = false → c.st.want = (k : Int) → (k ≠ 0 → c.st.lo = 128 ∧ c.st.hi = 191) → (runL c (List.replicate k 128)).bad = false ∧ (runL c (List.replicate k 128)).st.want = 0
  | 0, c, hb, hw, _ => ⟨hb, hw⟩
  | k + 1, c, hb, hw, hl => by
    obtain ⟨h1, h2⟩ := hl (by omega)
    obtain ⟨a1, a2, a3, a4⟩ := one_in hb (by omega) 128 (by omega) (by omega)
    rw [List.replicate_succ, run_cons]
    exact run_fill k _ a1 (by rw [show (((128 : UInt8).toNat : Nat) : Int) = 128 by rfl, a2]; omega) (fun _ => ⟨a3, a4⟩)
/-- What is not bad can go on. -/
theorem go_on (a : List UInt8) (h : (runL sc0 a).bad = false) : badL a = -1 ∨ ∃ i k, i < 5 ∧ k < 3 ∧ badL (a ++ tryL i k) = -1 := by
  have hok := run_ok2 a ok2_0
  by_cases hw : (runL sc0 a).st.want = 0
  · exact .inl (end_notbad h hw)
  right
  unfold Ok2 at hok
  obtain ⟨k, hk, hk3⟩ : ∃ k : Nat, (runL sc0 a).st.want = (k : Int) + 1 ∧ k < 3 := ⟨((runL sc0 a).st.want - 1).toNat, by omega, by omega⟩
  obtain ⟨i, hi5, hlo, hhi⟩ : ∃ i, i < 5 ∧ (runL sc0 a).st.lo ≤ ((tryB i).toNat : Int) ∧ ((tryB i).toNat : Int) ≤ (runL sc0 a).st.hi := by
    rcases hok with h0 | ⟨_, _, ⟨h1, h2, h3⟩ | ⟨h1, h2⟩ | ⟨h1, h2⟩⟩
    · exact absurd h0 hw
    · exact ⟨0, by omega, by rw [h1]; decide, by show ((128 : UInt8).toNat : Int) ≤ _; rw [show (((128 : UInt8).toNat : Nat) : Int) = 128 by rfl]; omega⟩
    · exact ⟨2, by omega, by rw [h1]; decide, by rw [h2]; decide⟩
    · exact ⟨1, by omega, by rw [h1]; decide, by rw [h2]; decide⟩
  obtain ⟨a1, a2, a3, a4⟩ := one_in h hw _ hlo hhi
  obtain ⟨b1, b2⟩ := run_fill k (oneF (runL sc0 a) ((tryB i).toNat : Int)) a1 (by rw [a2]; omega) (fun _ => ⟨a3, a4⟩)
  exact ⟨i, k, hi5, hk3, by unfold badL; rw [run_app]; exact end_notbad b1 b2⟩
/-- Is there a row of at most three bytes with which it is UTF-8? -/
def GoesOn (a : List UInt8) : Prop := badL a = -1 ∨ ∃ i k, i < 5 ∧ k < 3 ∧ badL (a ++ tryL i k) = -1
theorem goes_not (a : List UInt8) (h : (runL sc0 a).bad = true) : ¬ GoesOn a := by
  rintro (h1 | ⟨i, k, _, _, h1⟩)
  · exact bad_on a [] h (by rwa [List.append_nil])
  · exact bad_on a _ h h1
end Go.Proofs.Ytlfkhfmepcnfeaa.Utf
