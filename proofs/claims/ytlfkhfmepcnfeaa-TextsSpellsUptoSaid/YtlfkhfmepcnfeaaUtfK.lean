/- Plain laws of texts one behind the other, and of pieces. -/
import Derived.Test.YtlfkhfmepcnfeaaUtfG
namespace Go.Proofs.Ytlfkhfmepcnfeaa.Utf
set_option linter.unusedVariables false
set_option linter.unusedSimpArgs false

def cat (ss : List ByteArray) (k : Nat) : List UInt8 := (ss.take k).flatMap (·.data.toList)
def good (ss : List ByteArray) (k : Nat) : Bool := (ss.take k).all fun s => badL s.data.toList == -1
theorem cat_succ (ss : List ByteArray) (k : Nat) (h : k < ss.length) : cat ss (k + 1) = cat ss k ++ (ss.getD k ByteArray.empty).data.toList := by
  unfold cat
  rw [List.take_succ_eq_append_getElem h, List.flatMap_append]
  simp [List.getD_eq_getElem?_getD, h]
theorem good_succ (ss : List ByteArray) (k : Nat) (h : k < ss.length) : good ss (k + 1) = (good ss k && (badL (ss.getD k ByteArray.empty).data.toList == -1)) := by
  unfold good
  rw [List.take_succ_eq_append_getElem h, List.all_append]
  simp [List.getD_eq_getElem?_getD, h]
theorem cat_le (ss : List ByteArray) (k : Nat) (h : k ≤ ss.length) : (cat ss k).length ≤ (cat ss ss.length).length := by
  have : cat ss ss.length = cat ss k ++ (ss.drop k).flatMap (·.data.toList) := by
    unfold cat
    rw [← List.flatMap_append, List.take_append_drop, List.take_of_length_le (Nat.le_refl _)]
  rw [this, List.length_append]; omega
/-- What ends a form and begins none is where it was: after what is UTF-8 the run is as at the start, but for what came. -/
theorem run_from (c : Sc) (hb : c.bad = false) (hw : c.st.want = 0) (l : List UInt8) : l ≠ [] → (runL c l).bad = (runL sc0 l).bad ∧ (runL c l).st = (runL sc0 l).st := by
  have H : ∀ (l : List UInt8) (c d : Sc), c.bad = d.bad → c.st = d.st → (runL c l).bad = (runL d l).bad ∧ (runL c l).st = (runL d l).st := by
    intro l
    induction l with
    | nil => intro c d h1 h2; exact ⟨h1, h2⟩
    | cons x l ih =>
      intro c d h1 h2
      obtain ⟨cs, cn, cb⟩ := c
      obtain ⟨ds, dn, db⟩ := d
      simp only [] at h1 h2
      subst h1 h2
      refine ih _ _ ?_ ?_ <;> (simp only [oneF]; repeat' split) <;> rfl
  cases l with
  | nil => intro h; exact absurd rfl h
  | cons x l =>
    intro _
    rw [run_cons, run_cons]
    have e : ∀ (c : Sc), c.bad = false → c.st.want = 0 → oneF c (x.toNat : Int) = if (beginF (x.toNat : Int)).1 = true then ⟨(beginF (x.toNat : Int)).2, c.came + 1, false⟩ else ⟨(beginF (x.toNat : Int)).2, c.came, true⟩ := by
      intro c hb hw
      obtain ⟨cs, cn, cb⟩ := c
      simp only [] at hb hw
      subst hb
      simp only [oneF, stepF, if_pos hw, Bool.false_eq_true, if_false]
    refine H l _ _ ?_ ?_ <;> (rw [e c hb hw, e sc0 rfl rfl]; split) <;> rfl
theorem bad_neg (l : List UInt8) : badL l = -1 ↔ (runL sc0 l).bad = false ∧ (runL sc0 l).st.want = 0 := by
  rcases bad_cases l with ⟨h, a, b⟩ | ⟨k, hk, h, hn, hr⟩
  · exact ⟨fun _ => ⟨a, b⟩, fun _ => h⟩
  · constructor
    · intro e; rw [h] at e; omega
    · rintro ⟨a, b⟩
      rcases hr with ⟨-, hw⟩ | ⟨hk2, hb⟩
      · omega
      · have : l = l.take (k + 1) ++ l.drop (k + 1) := (List.take_append_drop _ _).symm
        rw [this, run_bad' _ _ _ hb, hb] at a
        cases a
theorem good_app (a b : List UInt8) (ha : badL a = -1) (hb : badL b = -1) : badL (a ++ b) = -1 := by
  rw [bad_neg] at ha hb ⊢
  rw [run_app]
  by_cases e : b = []
  · subst e; exact ha
  · have := run_from (runL sc0 a) ha.1 ha.2 b e
    rw [this.1, this.2]; exact hb
theorem good_all (ss : List ByteArray) : ∀ k, k ≤ ss.length → good ss k = true → badL (cat ss k) = -1
  | 0, _, _ => by simp [cat, badL, runL, endF, sc0, st0]
  | k + 1, h, hg => by
    rw [good_succ ss k (by omega)] at hg
    simp only [Bool.and_eq_true, beq_iff_eq] at hg
    rw [cat_succ ss k (by omega)]
    exact good_app _ _ (good_all ss k (by omega) hg.1) hg.2
/-- Fed says no just where it is bad ahead of the end. -/
theorem fed_is (l : List UInt8) : (!(runL sc0 l).bad) = ((badL l == -1) || (badL l == (l.length : Int))) := by
  have hp := run_place l
  rcases bad_cases l with ⟨h, a, b⟩ | ⟨k, hk, h, hn, hr⟩
  · rw [a, h]; simp
  · rcases hr with ⟨rfl, hw⟩ | ⟨hk2, hb⟩
    · rw [List.take_of_length_le (Nat.le_refl _)] at hn
      rw [hn, h]; simp
    · have e : (runL sc0 l).bad = true := by
        have : l = l.take (k + 1) ++ l.drop (k + 1) := (List.take_append_drop _ _).symm
        rw [this, run_bad' _ _ _ hb, hb]
      rw [e, h]
      have h1 : ((k : Int) == -1) = false := by simp
      have h2 : ((k : Int) == (l.length : Int)) = false := by simp; omega
      rw [h1, h2]; rfl
/-- After some pieces: how many bytes came at the most; the state is one that a run comes to. -/
theorem run_ok (l : List UInt8) : ∀ {c : Sc}, Ok c.st → Ok (runL c l).st := by
  induction l with
  | nil => exact fun h => h
  | cons x l ih =>
    intro c h
    refine ih ?_
    show Ok (oneF c (x.toNat : Int)).st
    unfold oneF
    have := step_ok h (x.toNat : Int) (by omega)
    repeat' split
    all_goals first | exact h | exact this
theorem run_came (l : List UInt8) : (runL sc0 l).came ≤ l.length := by
  rcases run_place l with ⟨-, h⟩ | ⟨-, k, hk, h, -⟩ <;> omega
end Go.Proofs.Ytlfkhfmepcnfeaa.Utf
