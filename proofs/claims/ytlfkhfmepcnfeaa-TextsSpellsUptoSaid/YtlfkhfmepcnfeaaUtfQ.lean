/- Plain laws of the characters of a text: their forms, one behind the other, are its beginning. -/
import Derived.Test.YtlfkhfmepcnfeaaUtfR
import Derived.Test.YtlfkhfmepcnfeaaUtfP
import Derived.Test.YtlfkhfmepcnfeaaUtfZ
namespace Go.Proofs.Ytlfkhfmepcnfeaa.Utf
set_option linter.unusedVariables false
set_option linter.unusedSimpArgs false

def encL (r : Int) : List UInt8 := (Utf8.encode r).data.toList
theorem toB_self (a : UInt8) : toB (a.toNat : Int) = a := by
  unfold toB; rw [Int.toNat_natCast]; exact UInt8.ofNat_toNat
theorem toB_eq {a : UInt8} {x : Int} (h : x = (a.toNat : Int)) : toB x = a := by rw [h, toB_self]
theorem enc_val {r : Int} (h0 : 0 ≤ r) (h1 : r ≤ 1114111) (hs : ¬(55296 ≤ r ∧ r ≤ 57343)) : (if Utf8.valid r = true then r.toNat else Utf8.runeError) = r.toNat := by
  rw [if_pos]
  unfold Utf8.valid
  simp only [Bool.or_eq_true, Bool.and_eq_true, decide_eq_true_eq]
  omega
theorem enc_one {r : Int} (h0 : 0 ≤ r) (h : r < 128) : encL r = [toB r] := by
  unfold encL Utf8.encode
  simp only []
  rw [enc_val h0 (by omega) (by omega), if_pos (by omega)]
  rfl
theorem enc_two {r : Int} (h0 : 128 ≤ r) (h : r < 2048) : encL r = [toB (192 + r / 64), toB (128 + r % 64)] := by
  unfold encL Utf8.encode
  simp only []
  rw [enc_val (by omega) (by omega) (by omega), if_neg (by omega), if_pos (by omega)]
  simp only [toB]
  rw [show (192 + r / 64).toNat = 192 + r.toNat / 64 by omega, show (128 + r % 64).toNat = 128 + r.toNat % 64 by omega]
theorem enc_three {r : Int} (h0 : 2048 ≤ r) (h : r < 65536) (hs : ¬(55296 ≤ r ∧ r ≤ 57343)) : encL r = [toB (224 + r / 4096), toB (128 + r / 64 % 64), toB (128 + r % 64)] := by
  unfold encL Utf8.encode
  simp only []
  rw [enc_val (by omega) (by omega) hs, if_neg (by omega), if_neg (by omega), if_pos (by omega)]
  simp only [toB]
  rw [show (224 + r / 4096).toNat = 224 + r.toNat / 4096 by omega, show (128 + r / 64 % 64).toNat = 128 + r.toNat / 64 % 64 by omega, show (128 + r % 64).toNat = 128 + r.toNat % 64 by omega]
theorem enc_four {r : Int} (h0 : 65536 ≤ r) (h : r ≤ 1114111) : encL r = [toB (240 + r / 262144), toB (128 + r / 4096 % 64), toB (128 + r / 64 % 64), toB (128 + r % 64)] := by
  unfold encL Utf8.encode
  simp only []
  rw [enc_val (by omega) (by omega) (by omega), if_neg (by omega), if_neg (by omega), if_neg (by omega)]
  simp only [toB]
  rw [show (240 + r / 262144).toNat = 240 + r.toNat / 262144 by omega, show (128 + r / 4096 % 64).toNat = 128 + r.toNat / 4096 % 64 by omega, show (128 + r / 64 % 64).toNat = 128 + r.toNat / 64 % 64 by omega, show (128 + r % 64).toNat = 128 + r.toNat % 64 by omega]
/-- A first byte that wants more. -/
theorem begin_inv {x : Int} {s : St} (h : beginF x = (true, s)) (hw : s.want ≠ 0) :
    (194 ≤ x ∧ x < 224 ∧ s.want = 1 ∧ s.ch = x - 192 ∧ s.lo = 128 ∧ s.hi = 191) ∨
    (224 ≤ x ∧ x < 240 ∧ s.want = 2 ∧ s.ch = x - 224 ∧ 128 ≤ s.lo ∧ s.hi ≤ 191 ∧ (x = 224 → s.lo = 160) ∧ (x = 237 → s.hi = 159)) ∨
    (240 ≤ x ∧ x ≤ 244 ∧ s.want = 3 ∧ s.ch = x - 240 ∧ 128 ≤ s.lo ∧ s.hi ≤ 191 ∧ (x = 240 → s.lo = 144) ∧ (x = 244 → s.hi = 143)) := by
  unfold beginF at h
  repeat' split at h
  all_goals (cases h <;> simp at hw ⊢ <;> omega)
theorem begin_done {x : Int} {s : St} (h : beginF x = (true, s)) (hw : s.want = 0) : x < 128 ∧ s.ch = x := by
  unfold beginF at h
  repeat' split at h
  all_goals (cases h <;> simp at hw ⊢ <;> omega)
theorem step_inv {st s : St} {x : Int} (h : stepF st x = (true, s)) (hw : st.want ≠ 0) : st.lo ≤ x ∧ x ≤ st.hi ∧ s.want = st.want - 1 ∧ s.lo = 128 ∧ s.hi = 191 ∧ s.ch = st.ch * 64 + (x - 128) := by
  unfold stepF at h
  rw [if_neg hw] at h
  split at h
  · cases h
  · cases h
    exact ⟨by omega, by omega, rfl, rfl, rfl, rfl⟩
/-- What has come of a form, and the state that it leads to. -/
def Part (p : List UInt8) (st : St) : Prop :=
  (p = [] ∧ st.want = 0) ∨
  (∃ a, p = [a] ∧ beginF (a.toNat : Int) = (true, st) ∧ st.want ≠ 0) ∨
  (∃ a b s1, p = [a, b] ∧ beginF (a.toNat : Int) = (true, s1) ∧ s1.want ≠ 0 ∧ stepF s1 (b.toNat : Int) = (true, st) ∧ st.want ≠ 0) ∨
  (∃ a b c s1 s2, p = [a, b, c] ∧ beginF (a.toNat : Int) = (true, s1) ∧ s1.want ≠ 0 ∧ stepF s1 (b.toNat : Int) = (true, s2) ∧ s2.want ≠ 0 ∧ stepF s2 (c.toNat : Int) = (true, st) ∧ st.want ≠ 0)
theorem sizeF_one {r : Int} (h0 : 0 ≤ r) (h : r < 128) : sizeF r = 1 := by unfold sizeF; rw [if_neg (by omega), if_pos h]
theorem sizeF_two {r : Int} (h0 : 128 ≤ r) (h : r < 2048) : sizeF r = 2 := by unfold sizeF; rw [if_neg (by omega), if_neg (by omega), if_pos h]
theorem sizeF_three {r : Int} (h0 : 2048 ≤ r) (h : r < 65536) (hs : ¬(55296 ≤ r ∧ r ≤ 57343)) : sizeF r = 3 := by unfold sizeF; rw [if_neg (by omega), if_neg (by omega), if_neg (by omega), if_pos h]
theorem sizeF_four {r : Int} (h0 : 65536 ≤ r) (h : r ≤ 1114111) : sizeF r = 4 := by unfold sizeF; rw [if_neg (by omega), if_neg (by omega), if_neg (by omega), if_neg (by omega)]
theorem part_step {p : List UInt8} {st st2 : St} {x : UInt8} (h : Part p st) (hs : stepF st (x.toNat : Int) = (true, st2)) :
    (st2.want = 0 ∧ encL st2.ch = p ++ [x] ∧ sizeF st2.ch = (p.length : Int) + 1) ∨ (st2.want ≠ 0 ∧ Part (p ++ [x]) st2) := by
  by_cases hz : st2.want = 0
  · left
    refine ⟨hz, ?_⟩
    rcases h with ⟨rfl, hw⟩ | ⟨a, rfl, hb, hw⟩ | ⟨a, b, s1, rfl, hb, hw1, h1, hw⟩ | ⟨a, b, c, s1, s2, rfl, hb, hw1, h1, hw2, h2, hw⟩
    · have e : beginF (x.toNat : Int) = (true, st2) := by rw [← hs]; unfold stepF; rw [if_pos hw]
      obtain ⟨h1, h2⟩ := begin_done e hz
      rw [h2]
      exact ⟨by rw [enc_one (by omega) h1, toB_self]; rfl, by rw [sizeF_one (by omega) h1]; rfl⟩
    · obtain ⟨q1, q2, q3, q4, q5, q6⟩ := step_inv hs hw
      rcases begin_inv hb hw with ⟨r1, r2, r3, r4, r5, r6⟩ | ⟨r1, r2, r3, r4, r5, r6, r7, r8⟩ | ⟨r1, r2, r3, r4, r5, r6, r7, r8⟩
      · refine ⟨?_, by rw [sizeF_two (by omega) (by omega)]; rfl⟩
        rw [enc_two (by omega) (by omega), toB_eq (a := a) (by omega), toB_eq (a := x) (by omega)]; rfl
      · omega
      · omega
    · obtain ⟨q1, q2, q3, q4, q5, q6⟩ := step_inv hs hw
      obtain ⟨u1, u2, u3, u4, u5, u6⟩ := step_inv h1 hw1
      rcases begin_inv hb hw1 with ⟨r1, r2, r3, r4, r5, r6⟩ | ⟨r1, r2, r3, r4, r5, r6, r7, r8⟩ | ⟨r1, r2, r3, r4, r5, r6, r7, r8⟩
      · omega
      · have hsur : ¬(55296 ≤ st2.ch ∧ st2.ch ≤ 57343) := by omega
        refine ⟨?_, by rw [sizeF_three (by omega) (by omega) hsur]; rfl⟩
        rw [enc_three (by omega) (by omega) hsur, toB_eq (a := a) (by omega), toB_eq (a := b) (by omega), toB_eq (a := x) (by omega)]; rfl
      · omega
    · obtain ⟨q1, q2, q3, q4, q5, q6⟩ := step_inv hs hw
      obtain ⟨u1, u2, u3, u4, u5, u6⟩ := step_inv h1 hw1
      obtain ⟨v1, v2, v3, v4, v5, v6⟩ := step_inv h2 hw2
      rcases begin_inv hb hw1 with ⟨r1, r2, r3, r4, r5, r6⟩ | ⟨r1, r2, r3, r4, r5, r6, r7, r8⟩ | ⟨r1, r2, r3, r4, r5, r6, r7, r8⟩
      · omega
      · omega
      · refine ⟨?_, by rw [sizeF_four (by omega) (by omega)]; rfl⟩
        rw [enc_four (by omega) (by omega), toB_eq (a := a) (by omega), toB_eq (a := b) (by omega), toB_eq (a := c) (by omega), toB_eq (a := x) (by omega)]; rfl
  · right
    refine ⟨hz, ?_⟩
    rcases h with ⟨rfl, hw⟩ | ⟨a, rfl, hb, hw⟩ | ⟨a, b, s1, rfl, hb, hw1, h1, hw⟩ | ⟨a, b, c, s1, s2, rfl, hb, hw1, h1, hw2, h2, hw⟩
    · exact .inr (.inl ⟨x, rfl, by rw [← hs]; unfold stepF; rw [if_pos hw], hz⟩)
    · exact .inr (.inr (.inl ⟨a, x, st, rfl, hb, hw, hs, hz⟩))
    · exact .inr (.inr (.inr ⟨a, b, x, s1, st, rfl, hb, hw1, h1, hw, hs, hz⟩))
    · obtain ⟨q1, q2, q3, q4, q5, q6⟩ := step_inv hs hw
      obtain ⟨u1, u2, u3, u4, u5, u6⟩ := step_inv h1 hw1
      obtain ⟨v1, v2, v3, v4, v5, v6⟩ := step_inv h2 hw2
      rcases begin_inv hb hw1 with ⟨r1, r2, r3, -⟩ | ⟨r1, r2, r3, -⟩ | ⟨r1, r2, r3, -⟩ <;> omega
theorem part_len {p : List UInt8} {st : St} (h : Part p st) : p.length ≤ 3 ∧ (p = [] ↔ st.want = 0) := by
  rcases h with ⟨rfl, hw⟩ | ⟨a, rfl, hb, hw⟩ | ⟨a, b, s1, rfl, hb, hw1, h1, hw⟩ | ⟨a, b, c, s1, s2, rfl, hb, hw1, h1, hw2, h2, hw⟩ <;> simp [hw]
/-- The forms of characters, one behind the other. -/
def forms (rs : List (Nat × Int)) : List UInt8 := rs.flatMap fun x => encL x.2
theorem forms_cons (x : Nat × Int) (rs : List (Nat × Int)) : forms (x :: rs) = encL x.2 ++ forms rs := rfl
theorem forms_app (a b : List (Nat × Int)) : forms (a ++ b) = forms a ++ forms b := by simp [forms]
/-- Each character lies where the forms ahead of it end, and takes as many bytes as its Size says. -/
def InRow : Nat → List (Nat × Int) → Prop
  | _, [] => True
  | m, x :: rs => x.1 = m ∧ sizeF x.2 = ((encL x.2).length : Int) ∧ sizeF x.2 ≠ 0 ∧ InRow (m + (encL x.2).length) rs
theorem runes_back : ∀ (l : List UInt8) (st : St) (p : List UInt8) (m : Nat), Part p st →
    InRow m (runesF st m (m + p.length) l) ∧ (∃ rest, p ++ l = forms (runesF st m (m + p.length) l) ++ rest ∧
      ((endF (runL ⟨st, m + p.length, false⟩ l) = -1 ∧ rest = []) ∨
        ∃ k : Nat, endF (runL ⟨st, m + p.length, false⟩ l) = (k : Int) ∧ m + (forms (runesF st m (m + p.length) l)).length ≤ k ∧ k ≤ m + (p ++ l).length ∧ k < m + (forms (runesF st m (m + p.length) l)).length + 4))
  | [], st, p, m, h => by
    obtain ⟨hl, hz⟩ := part_len h
    refine ⟨trivial, p, by simp [runesF, forms], ?_⟩
    by_cases hw : st.want = 0
    · exact .inl ⟨end_notbad rfl hw, hz.2 hw⟩
    · right
      have hp : 0 < st.want := by
        rcases h with ⟨rfl, hw'⟩ | ⟨a, rfl, hb, hw'⟩ | ⟨a, b, s1, rfl, hb, hw1, h1, hw'⟩ | ⟨a, b, c, s1, s2, rfl, hb, hw1, h1, hw2, h2, hw'⟩
        · exact absurd hw' hw
        · rcases begin_inv hb hw' with ⟨-, -, r, -⟩ | ⟨-, -, r, -⟩ | ⟨-, -, r, -⟩ <;> omega
        · have := (step_inv h1 hw1).2.2.1
          rcases begin_inv hb hw1 with ⟨-, -, r, -⟩ | ⟨-, -, r, -⟩ | ⟨-, -, r, -⟩ <;> omega
        · have := (step_inv h1 hw1).2.2.1
          have := (step_inv h2 hw2).2.2.1
          rcases begin_inv hb hw1 with ⟨-, -, r, -⟩ | ⟨-, -, r, -⟩ | ⟨-, -, r, -⟩ <;> omega
      exact ⟨m + p.length, end_want hp, by simp [runesF, forms], by simp, by simp [runesF, forms]; omega⟩
  | x :: l, st, p, m, h => by
    obtain ⟨hl, hz⟩ := part_len h
    cases hq : (stepF st (x.toNat : Int)).1 with
    | false =>
      have e : runesF st m (m + p.length) (x :: l) = [] := by simp [runesF, hq]
      have e2 : endF (runL ⟨st, m + p.length, false⟩ (x :: l)) = ((m + p.length : Nat) : Int) := by
        rw [run_cons]
        have e3 : oneF ⟨st, m + p.length, false⟩ (x.toNat : Int) = ⟨(stepF st (x.toNat : Int)).2, m + p.length, true⟩ := by simp [oneF, hq]
        rw [e3, run_bad rfl, end_bad rfl]
      rw [e, e2]
      exact ⟨trivial, p ++ x :: l, by simp [forms], .inr ⟨_, rfl, by simp [forms], by simp, by simp [forms]; omega⟩⟩
    | true =>
      obtain ⟨st2, hst⟩ : ∃ st2, stepF st (x.toNat : Int) = (true, st2) := ⟨(stepF st (x.toNat : Int)).2, by rw [← hq]⟩
      have e3 : oneF ⟨st, m + p.length, false⟩ (x.toNat : Int) = ⟨st2, m + p.length + 1, false⟩ := by simp [oneF, hst]
      rw [run_cons, e3]
      rcases part_step h hst with ⟨hw, henc, hsz⟩ | ⟨hw, hpart⟩
      · have e : runesF st m (m + p.length) (x :: l) = (m, st2.ch) :: runesF st2 (m + p.length + 1) (m + p.length + 1) l := by simp [runesF, hst, hw]
        have ih := runes_back l st2 [] (m + p.length + 1) (.inl ⟨rfl, hw⟩)
        simp only [List.length_nil, Nat.add_zero, List.nil_append] at ih
        have hel : (encL st2.ch).length = p.length + 1 := by rw [henc]; simp
        rw [e]
        obtain ⟨ih1, rest, ih2, ih3⟩ := ih
        refine ⟨⟨rfl, by rw [hsz, hel]; simp, by rw [hsz]; omega, by rw [hel]; exact ih1⟩, rest, by rw [forms_cons, henc, List.append_assoc, ← ih2]; simp, ?_⟩
        rcases ih3 with ⟨a, b⟩ | ⟨k, a, b, c, d⟩
        · exact .inl ⟨a, b⟩
        · right
          refine ⟨k, a, ?_, ?_, ?_⟩ <;> (try rw [forms_cons, List.length_append, hel]) <;> (try simp only [List.length_append, List.length_cons]) <;> omega
      · have e : runesF st m (m + p.length) (x :: l) = runesF st2 m (m + (p ++ [x]).length) l := by simp [runesF, hst, hw]; rw [Nat.add_assoc]
        have ih := runes_back l st2 (p ++ [x]) m hpart
        rw [e]
        have e4 : m + p.length + 1 = m + (p ++ [x]).length := by simp; omega
        rw [e4]
        simpa using ih
end Go.Proofs.Ytlfkhfmepcnfeaa.Utf
