/- quarryref05.Begins answers as the state's step does. (Printed by gen_begins.py.) -/
import Derived.Test.YtlfkhfmepcnfeaaUtfW
import Derived.Test.YtlfkhfmepcnfeaaUtfQ
namespace Go.Proofs.Ytlfkhfmepcnfeaa.Utf
set_option linter.unusedVariables false
set_option linter.unusedSimpArgs false
open Go.RowKit Go.Proofs.Ytlfkhfmepcnfeaa.Mem
theorem sizeF_spec (c : Int) : (sizeF c = 0 ↔ c < 0 ∨ 1114111 < c ∨ (55296 ≤ c ∧ c ≤ 57343)) ∧ (sizeF c = 1 ↔ 0 ≤ c ∧ c < 128) ∧ (sizeF c = 2 ↔ 128 ≤ c ∧ c < 2048) ∧ (sizeF c = 3 ↔ 2048 ≤ c ∧ c < 65536 ∧ ¬(55296 ≤ c ∧ c ≤ 57343)) ∧ (sizeF c = 4 ↔ 65536 ≤ c ∧ c ≤ 1114111) := by
  unfold sizeF
  repeat' split
  all_goals omega
theorem begin_lim {x : Int} {s : St} (h : beginF x = (true, s)) (hw : s.want ≠ 0) :
    (s.want = 1 → s.lo = 128 ∧ s.hi = 191) ∧ (s.want = 2 → (x ≠ 224 → s.lo = 128) ∧ (x ≠ 237 → s.hi = 191)) ∧ (s.want = 3 → (x ≠ 240 → s.lo = 128) ∧ (x ≠ 244 → s.hi = 191)) := by
  unfold beginF at h
  repeat' split at h
  all_goals (cases h <;> simp at hw ⊢ <;> omega)
theorem begin_not {x : Int} (h : (beginF x).1 = false) : (128 ≤ x ∧ x < 194) ∨ 244 < x := by
  unfold beginF at h
  repeat' split at h
  all_goals (simp at h)
  all_goals omega
def Yes (st2 : St) (w : World) (e : Ending) (w' : World) : Prop := (∃ r, e = .returned (.tuple #[.bool true, .int .i32 r, .bool (st2.want == 0)]) ∧ (st2.want = 0 → r = st2.ch)) ∧ w = w'
theorem yes_of {st2 : St} {w : World} {f : FuncId} {args : Array Value} {c0 z : Int} {n : Nat} (h : Calls Try.prog f args w fun e w' => e = .returned (.tuple #[.bool true, .int .i32 c0, .bool ((n : Int) == z)]) ∧ w = w')
    (h1 : st2.want = 0 → (n : Int) = z) (h2 : (n : Int) = z → st2.want = 0) (h3 : st2.want = 0 → c0 = st2.ch) : Calls Try.prog f args w (Yes st2 w) :=
  h.mono fun e w' ⟨he, hw⟩ => ⟨⟨c0, by
    rw [he]
    have : ((n : Int) == z) = (st2.want == 0) := by
      rw [Bool.eq_iff_iff]; simp only [beq_iff_eq]; exact ⟨h2, h1⟩
    rw [this], h3⟩, hw⟩
def No (w : World) (e : Ending) (w' : World) : Prop := e = .returned (.tuple #[.bool false, .int .i32 0, .bool false]) ∧ w = w'
set_option maxHeartbeats 4000000 in
theorem begins_step {p : List UInt8} {st st2 : St} {x : UInt8} (hp : Part p st) (hs : stepF st (x.toNat : Int) = (true, st2)) (g cap : Nat) (w : World) (hc : ∀ j u, (p ++ [x])[j]? = some u → w.cell? ⟨g, j, none⟩ = some (.int .u8 (u.toNat : Int))) :
    Calls Try.prog 50 #[.slice (some ⟨g, 0, none⟩) (p.length + 1) cap] w (Yes st2 w) := by
  have hx := x.toNat_lt
  rcases hp with ⟨rfl, hw⟩ | ⟨a, rfl, hb, hw⟩ | ⟨a, b, s1, rfl, hb, hw1, h1, hw⟩ | ⟨a, b, c, s1, s2, rfl, hb, hw1, h1, hw2, h2, hw⟩
  · have e : beginF (x.toNat : Int) = (true, st2) := by rw [← hs]; unfold stepF; rw [if_pos hw]
    have k0 : w.cell? ⟨g, 0, none⟩ = some (.int .u8 (x.toNat : Int)) := hc 0 _ rfl
    by_cases hz : st2.want = 0
    · obtain ⟨q1, q2⟩ := begin_done e hz
      exact yes_of (begins_yes _ 1 cap 1 (x.toNat : Int) (x.toNat : Int) (x.toNat : Int) (by omega) (by omega) (by omega) (by omega) (by have := sizeF_spec (x.toNat : Int); omega) (by decide) (fun c h1 h2 => by have := sizeF_spec c; omega) w (some ⟨g, 0, none⟩) rfl (fun w1 e => by subst e; exact span_a1 g cap (x.toNat : Int) (by omega) (by omega) w k0)) (by omega) (by omega) (by omega)
    · rcases begin_inv e hz with ⟨r1, r2, r3, -⟩ | ⟨r1, r2, r3, -⟩ | ⟨r1, r2, r3, -⟩
      · exact yes_of (begins_yes _ 1 cap 2 (((x.toNat : Int) - 192) * 64) (((x.toNat : Int) - 192) * 64 + 63) (((x.toNat : Int) - 192) * 64) (by omega) (by omega) (by omega) (by omega) (by have := sizeF_spec (((x.toNat : Int) - 192) * 64); omega) (by decide) (fun c h1 h2 => by have := sizeF_spec c; omega) w (some ⟨g, 0, none⟩) rfl (fun w1 e => by subst e; exact span_b1 g cap (x.toNat : Int) (by omega) (by omega) w k0)) (by omega) (by omega) (by omega)
      · by_cases h224 : (x.toNat : Int) = 224
        · exact yes_of (begins_yes _ 1 cap 3 ((((x.toNat : Int) - 224) * 64) * 64) ((((x.toNat : Int) - 224) * 64 + 63) * 64 + 63) 2048 (by omega) (by omega) (by omega) (by omega) (by have := sizeF_spec 2048; omega) (by decide) (fun c h1 h2 => by have := sizeF_spec c; omega) w (some ⟨g, 0, none⟩) rfl (fun w1 e => by subst e; exact span_c1 g cap (x.toNat : Int) (by omega) (by omega) w k0)) (by omega) (by omega) (by omega)
        · exact yes_of (begins_yes _ 1 cap 3 ((((x.toNat : Int) - 224) * 64) * 64) ((((x.toNat : Int) - 224) * 64 + 63) * 64 + 63) ((((x.toNat : Int) - 224) * 64) * 64) (by omega) (by omega) (by omega) (by omega) (by have := sizeF_spec ((((x.toNat : Int) - 224) * 64) * 64); omega) (by decide) (fun c h1 h2 => by have := sizeF_spec c; omega) w (some ⟨g, 0, none⟩) rfl (fun w1 e => by subst e; exact span_c1 g cap (x.toNat : Int) (by omega) (by omega) w k0)) (by omega) (by omega) (by omega)
      · by_cases h240 : (x.toNat : Int) = 240
        · exact yes_of (begins_yes _ 1 cap 4 (((((x.toNat : Int) - 240) * 64) * 64) * 64) (((((x.toNat : Int) - 240) * 64 + 63) * 64 + 63) * 64 + 63) 65536 (by omega) (by omega) (by omega) (by omega) (by have := sizeF_spec 65536; omega) (by decide) (fun c h1 h2 => by have := sizeF_spec c; omega) w (some ⟨g, 0, none⟩) rfl (fun w1 e => by subst e; exact span_d1 g cap (x.toNat : Int) (by omega) (by omega) w k0)) (by omega) (by omega) (by omega)
        · exact yes_of (begins_yes _ 1 cap 4 (((((x.toNat : Int) - 240) * 64) * 64) * 64) (((((x.toNat : Int) - 240) * 64 + 63) * 64 + 63) * 64 + 63) (((((x.toNat : Int) - 240) * 64) * 64) * 64) (by omega) (by omega) (by omega) (by omega) (by have := sizeF_spec (((((x.toNat : Int) - 240) * 64) * 64) * 64); omega) (by decide) (fun c h1 h2 => by have := sizeF_spec c; omega) w (some ⟨g, 0, none⟩) rfl (fun w1 e => by subst e; exact span_d1 g cap (x.toNat : Int) (by omega) (by omega) w k0)) (by omega) (by omega) (by omega)
  · have ha := a.toNat_lt
    obtain ⟨q1, q2, q3, q4, q5, q6⟩ := step_inv hs hw
    have k0 : w.cell? ⟨g, 0, none⟩ = some (.int .u8 (a.toNat : Int)) := hc 0 _ rfl
    have k1 : w.cell? ⟨g, 1, none⟩ = some (.int .u8 (x.toNat : Int)) := hc 1 _ rfl
    rcases begin_inv hb hw with ⟨r1, r2, r3, r4, r5, r6⟩ | ⟨r1, r2, r3, r4, r5, r6, r7, r8⟩ | ⟨r1, r2, r3, r4, r5, r6, r7, r8⟩
    · exact yes_of (begins_yes _ 2 cap 2 (((a.toNat : Int) - 192) * 64 + (x.toNat : Int) - 128) (((a.toNat : Int) - 192) * 64 + (x.toNat : Int) - 128) (((a.toNat : Int) - 192) * 64 + (x.toNat : Int) - 128) (by omega) (by omega) (by omega) (by omega) (by have := sizeF_spec (((a.toNat : Int) - 192) * 64 + (x.toNat : Int) - 128); omega) (by decide) (fun c h1 h2 => by have := sizeF_spec c; omega) w (some ⟨g, 0, none⟩) rfl (fun w1 e => by subst e; exact span_b2 g cap (a.toNat : Int) (x.toNat : Int) (by omega) (by omega) (by omega) (by omega) w k0 k1)) (by omega) (by omega) (by omega)
    · exact yes_of (begins_yes _ 2 cap 3 ((((a.toNat : Int) - 224) * 64 + (x.toNat : Int) - 128) * 64) ((((a.toNat : Int) - 224) * 64 + (x.toNat : Int) - 128) * 64 + 63) ((((a.toNat : Int) - 224) * 64 + (x.toNat : Int) - 128) * 64) (by omega) (by omega) (by omega) (by omega) (by have := sizeF_spec ((((a.toNat : Int) - 224) * 64 + (x.toNat : Int) - 128) * 64); omega) (by decide) (fun c h1 h2 => by have := sizeF_spec c; omega) w (some ⟨g, 0, none⟩) rfl (fun w1 e => by subst e; exact span_c2 g cap (a.toNat : Int) (x.toNat : Int) (by omega) (by omega) (by omega) (by omega) w k0 k1)) (by omega) (by omega) (by omega)
    · exact yes_of (begins_yes _ 2 cap 4 (((((a.toNat : Int) - 240) * 64 + (x.toNat : Int) - 128) * 64) * 64) (((((a.toNat : Int) - 240) * 64 + (x.toNat : Int) - 128) * 64 + 63) * 64 + 63) (((((a.toNat : Int) - 240) * 64 + (x.toNat : Int) - 128) * 64) * 64) (by omega) (by omega) (by omega) (by omega) (by have := sizeF_spec (((((a.toNat : Int) - 240) * 64 + (x.toNat : Int) - 128) * 64) * 64); omega) (by decide) (fun c h1 h2 => by have := sizeF_spec c; omega) w (some ⟨g, 0, none⟩) rfl (fun w1 e => by subst e; exact span_d2 g cap (a.toNat : Int) (x.toNat : Int) (by omega) (by omega) (by omega) (by omega) w k0 k1)) (by omega) (by omega) (by omega)
  · have ha := a.toNat_lt
    obtain ⟨q1, q2, q3, q4, q5, q6⟩ := step_inv hs hw
    obtain ⟨u1, u2, u3, u4, u5, u6⟩ := step_inv h1 hw1
    have k0 : w.cell? ⟨g, 0, none⟩ = some (.int .u8 (a.toNat : Int)) := hc 0 _ rfl
    have k1 : w.cell? ⟨g, 1, none⟩ = some (.int .u8 (b.toNat : Int)) := hc 1 _ rfl
    have k2 : w.cell? ⟨g, 2, none⟩ = some (.int .u8 (x.toNat : Int)) := hc 2 _ rfl
    rcases begin_inv hb hw1 with ⟨r1, r2, r3, r4, r5, r6⟩ | ⟨r1, r2, r3, r4, r5, r6, r7, r8⟩ | ⟨r1, r2, r3, r4, r5, r6, r7, r8⟩
    · omega
    · exact yes_of (begins_yes _ 3 cap 3 ((((a.toNat : Int) - 224) * 64 + (b.toNat : Int) - 128) * 64 + (x.toNat : Int) - 128) ((((a.toNat : Int) - 224) * 64 + (b.toNat : Int) - 128) * 64 + (x.toNat : Int) - 128) ((((a.toNat : Int) - 224) * 64 + (b.toNat : Int) - 128) * 64 + (x.toNat : Int) - 128) (by omega) (by omega) (by omega) (by omega) (by have := sizeF_spec ((((a.toNat : Int) - 224) * 64 + (b.toNat : Int) - 128) * 64 + (x.toNat : Int) - 128); omega) (by decide) (fun c h1 h2 => by have := sizeF_spec c; omega) w (some ⟨g, 0, none⟩) rfl (fun w1 e => by subst e; exact span_c3 g cap (a.toNat : Int) (b.toNat : Int) (x.toNat : Int) (by omega) (by omega) (by omega) (by omega) (by omega) (by omega) w k0 k1 k2)) (by omega) (by omega) (by omega)
    · exact yes_of (begins_yes _ 3 cap 4 (((((a.toNat : Int) - 240) * 64 + (b.toNat : Int) - 128) * 64 + (x.toNat : Int) - 128) * 64) (((((a.toNat : Int) - 240) * 64 + (b.toNat : Int) - 128) * 64 + (x.toNat : Int) - 128) * 64 + 63) (((((a.toNat : Int) - 240) * 64 + (b.toNat : Int) - 128) * 64 + (x.toNat : Int) - 128) * 64) (by omega) (by omega) (by omega) (by omega) (by have := sizeF_spec (((((a.toNat : Int) - 240) * 64 + (b.toNat : Int) - 128) * 64 + (x.toNat : Int) - 128) * 64); omega) (by decide) (fun c h1 h2 => by have := sizeF_spec c; omega) w (some ⟨g, 0, none⟩) rfl (fun w1 e => by subst e; exact span_d3 g cap (a.toNat : Int) (b.toNat : Int) (x.toNat : Int) (by omega) (by omega) (by omega) (by omega) (by omega) (by omega) w k0 k1 k2)) (by omega) (by omega) (by omega)
  · have ha := a.toNat_lt
    obtain ⟨q1, q2, q3, q4, q5, q6⟩ := step_inv hs hw
    obtain ⟨u1, u2, u3, u4, u5, u6⟩ := step_inv h1 hw1
    obtain ⟨v1, v2, v3, v4, v5, v6⟩ := step_inv h2 hw2
    have k0 : w.cell? ⟨g, 0, none⟩ = some (.int .u8 (a.toNat : Int)) := hc 0 _ rfl
    have k1 : w.cell? ⟨g, 1, none⟩ = some (.int .u8 (b.toNat : Int)) := hc 1 _ rfl
    have k2 : w.cell? ⟨g, 2, none⟩ = some (.int .u8 (c.toNat : Int)) := hc 2 _ rfl
    have k3 : w.cell? ⟨g, 3, none⟩ = some (.int .u8 (x.toNat : Int)) := hc 3 _ rfl
    rcases begin_inv hb hw1 with ⟨r1, r2, r3, r4, r5, r6⟩ | ⟨r1, r2, r3, r4, r5, r6, r7, r8⟩ | ⟨r1, r2, r3, r4, r5, r6, r7, r8⟩
    · omega
    · omega
    · exact yes_of (begins_yes _ 4 cap 4 (((((a.toNat : Int) - 240) * 64 + (b.toNat : Int) - 128) * 64 + (c.toNat : Int) - 128) * 64 + (x.toNat : Int) - 128) (((((a.toNat : Int) - 240) * 64 + (b.toNat : Int) - 128) * 64 + (c.toNat : Int) - 128) * 64 + (x.toNat : Int) - 128) (((((a.toNat : Int) - 240) * 64 + (b.toNat : Int) - 128) * 64 + (c.toNat : Int) - 128) * 64 + (x.toNat : Int) - 128) (by omega) (by omega) (by omega) (by omega) (by have := sizeF_spec (((((a.toNat : Int) - 240) * 64 + (b.toNat : Int) - 128) * 64 + (c.toNat : Int) - 128) * 64 + (x.toNat : Int) - 128); omega) (by decide) (fun c h1 h2 => by have := sizeF_spec c; omega) w (some ⟨g, 0, none⟩) rfl (fun w1 e => by subst e; exact span_d4 g cap (a.toNat : Int) (b.toNat : Int) (c.toNat : Int) (x.toNat : Int) (by omega) (by omega) (by omega) (by omega) (by omega) (by omega) (by omega) (by omega) w k0 k1 k2 k3)) (by omega) (by omega) (by omega)
theorem step_not {st : St} {x : Int} (h : (stepF st x).1 = false) (hw : st.want ≠ 0) : x < st.lo ∨ st.hi < x := by
  unfold stepF at h
  rw [if_neg hw] at h
  split at h
  · assumption
  · simp at h
set_option maxHeartbeats 4000000 in
theorem begins_stop {p : List UInt8} {st : St} {x : UInt8} (hp : Part p st) (hs : (stepF st (x.toNat : Int)).1 = false) (g cap : Nat) (w : World) (hc : ∀ j u, (p ++ [x])[j]? = some u → w.cell? ⟨g, j, none⟩ = some (.int .u8 (u.toNat : Int))) :
    Calls Try.prog 50 #[.slice (some ⟨g, 0, none⟩) (p.length + 1) cap] w (No w) := by
  have hx := x.toNat_lt
  rcases hp with ⟨rfl, hw⟩ | ⟨a, rfl, hb, hw⟩ | ⟨a, b, s1, rfl, hb, hw1, h1, hw⟩ | ⟨a, b, c, s1, s2, rfl, hb, hw1, h1, hw2, h2, hw⟩
  · have e := begin_not (show (beginF (x.toNat : Int)).1 = false by rw [← hs]; unfold stepF; rw [if_pos hw])
    have k0 : w.cell? ⟨g, 0, none⟩ = some (.int .u8 (x.toNat : Int)) := hc 0 _ rfl
    by_cases i1 : (x.toNat : Int) < 192
    · exact begins_no _ 1 cap 0 1 0 (by omega) (by omega) (by omega) (fun c h1 h2 => by have := sizeF_spec c; omega) w (some ⟨g, 0, none⟩) rfl (fun w1 e => by subst e; exact span_lo g cap (x.toNat : Int) (by omega) (by omega) w k0)
    by_cases i2 : (x.toNat : Int) < 224
    · exact begins_no _ 1 cap 2 (((x.toNat : Int) - 192) * 64) (((x.toNat : Int) - 192) * 64 + 63) (by omega) (by omega) (by omega) (fun c h1 h2 => by have := sizeF_spec c; omega) w (some ⟨g, 0, none⟩) rfl (fun w1 e => by subst e; exact span_b1 g cap (x.toNat : Int) (by omega) (by omega) w k0)
    by_cases i3 : (x.toNat : Int) < 248
    · exact begins_no _ 1 cap 4 (((((x.toNat : Int) - 240) * 64) * 64) * 64) (((((x.toNat : Int) - 240) * 64 + 63) * 64 + 63) * 64 + 63) (by omega) (by omega) (by omega) (fun c h1 h2 => by have := sizeF_spec c; omega) w (some ⟨g, 0, none⟩) rfl (fun w1 e => by subst e; exact span_d1 g cap (x.toNat : Int) (by omega) (by omega) w k0)
    · exact begins_no _ 1 cap 0 1 0 (by omega) (by omega) (by omega) (fun c h1 h2 => by have := sizeF_spec c; omega) w (some ⟨g, 0, none⟩) rfl (fun w1 e => by subst e; exact span_hi g cap (x.toNat : Int) (by omega) (by omega) w k0)
  · have ha := a.toNat_lt
    have q := step_not hs hw
    obtain ⟨l1, l2, l3⟩ := begin_lim hb hw
    have k0 : w.cell? ⟨g, 0, none⟩ = some (.int .u8 (a.toNat : Int)) := hc 0 _ rfl
    have k1 : w.cell? ⟨g, 1, none⟩ = some (.int .u8 (x.toNat : Int)) := hc 1 _ rfl
    rcases begin_inv hb hw with ⟨r1, r2, r3, r4, r5, r6⟩ | ⟨r1, r2, r3, r4, r5, r6, r7, r8⟩ | ⟨r1, r2, r3, r4, r5, r6, r7, r8⟩
    · by_cases i1 : (x.toNat : Int) < 128
      · exact begins_no _ 2 cap 0 1 0 (by omega) (by omega) (by omega) (fun c h1 h2 => by have := sizeF_spec c; omega) w (some ⟨g, 0, none⟩) rfl (fun w1 e => by subst e; exact span_b2_low g cap (a.toNat : Int) (x.toNat : Int) (by omega) (by omega) (by omega) (by omega) w k0 k1)
      by_cases i2 : 192 ≤ (x.toNat : Int)
      · exact begins_no _ 2 cap 0 1 0 (by omega) (by omega) (by omega) (fun c h1 h2 => by have := sizeF_spec c; omega) w (some ⟨g, 0, none⟩) rfl (fun w1 e => by subst e; exact span_b2_high g cap (a.toNat : Int) (x.toNat : Int) (by omega) (by omega) (by omega) (by omega) w k0 k1)
      exfalso; omega
    · by_cases i1 : (x.toNat : Int) < 128
      · exact begins_no _ 2 cap 0 1 0 (by omega) (by omega) (by omega) (fun c h1 h2 => by have := sizeF_spec c; omega) w (some ⟨g, 0, none⟩) rfl (fun w1 e => by subst e; exact span_c2_low g cap (a.toNat : Int) (x.toNat : Int) (by omega) (by omega) (by omega) (by omega) w k0 k1)
      by_cases i2 : 192 ≤ (x.toNat : Int)
      · exact begins_no _ 2 cap 0 1 0 (by omega) (by omega) (by omega) (fun c h1 h2 => by have := sizeF_spec c; omega) w (some ⟨g, 0, none⟩) rfl (fun w1 e => by subst e; exact span_c2_high g cap (a.toNat : Int) (x.toNat : Int) (by omega) (by omega) (by omega) (by omega) w k0 k1)
      have l := l2 r3
      exact begins_no _ 2 cap 3 ((((a.toNat : Int) - 224) * 64 + (x.toNat : Int) - 128) * 64) ((((a.toNat : Int) - 224) * 64 + (x.toNat : Int) - 128) * 64 + 63) (by omega) (by omega) (by omega) (fun c h1 h2 => by have := sizeF_spec c; omega) w (some ⟨g, 0, none⟩) rfl (fun w1 e => by subst e; exact span_c2 g cap (a.toNat : Int) (x.toNat : Int) (by omega) (by omega) (by omega) (by omega) w k0 k1)
    · by_cases i1 : (x.toNat : Int) < 128
      · exact begins_no _ 2 cap 0 1 0 (by omega) (by omega) (by omega) (fun c h1 h2 => by have := sizeF_spec c; omega) w (some ⟨g, 0, none⟩) rfl (fun w1 e => by subst e; exact span_d2_low g cap (a.toNat : Int) (x.toNat : Int) (by omega) (by omega) (by omega) (by omega) w k0 k1)
      by_cases i2 : 192 ≤ (x.toNat : Int)
      · exact begins_no _ 2 cap 0 1 0 (by omega) (by omega) (by omega) (fun c h1 h2 => by have := sizeF_spec c; omega) w (some ⟨g, 0, none⟩) rfl (fun w1 e => by subst e; exact span_d2_high g cap (a.toNat : Int) (x.toNat : Int) (by omega) (by omega) (by omega) (by omega) w k0 k1)
      have l := l3 r3
      exact begins_no _ 2 cap 4 (((((a.toNat : Int) - 240) * 64 + (x.toNat : Int) - 128) * 64) * 64) (((((a.toNat : Int) - 240) * 64 + (x.toNat : Int) - 128) * 64 + 63) * 64 + 63) (by omega) (by omega) (by omega) (fun c h1 h2 => by have := sizeF_spec c; omega) w (some ⟨g, 0, none⟩) rfl (fun w1 e => by subst e; exact span_d2 g cap (a.toNat : Int) (x.toNat : Int) (by omega) (by omega) (by omega) (by omega) w k0 k1)
  · have ha := a.toNat_lt
    have q := step_not hs hw
    obtain ⟨u1, u2, u3, u4, u5, u6⟩ := step_inv h1 hw1
    have k0 : w.cell? ⟨g, 0, none⟩ = some (.int .u8 (a.toNat : Int)) := hc 0 _ rfl
    have k1 : w.cell? ⟨g, 1, none⟩ = some (.int .u8 (b.toNat : Int)) := hc 1 _ rfl
    have k2 : w.cell? ⟨g, 2, none⟩ = some (.int .u8 (x.toNat : Int)) := hc 2 _ rfl
    rcases begin_inv hb hw1 with ⟨r1, r2, r3, r4, r5, r6⟩ | ⟨r1, r2, r3, r4, r5, r6, r7, r8⟩ | ⟨r1, r2, r3, r4, r5, r6, r7, r8⟩
    · omega
    · by_cases i1 : (x.toNat : Int) < 128
      · exact begins_no _ 3 cap 0 1 0 (by omega) (by omega) (by omega) (fun c h1 h2 => by have := sizeF_spec c; omega) w (some ⟨g, 0, none⟩) rfl (fun w1 e => by subst e; exact span_c3_low g cap (a.toNat : Int) (b.toNat : Int) (x.toNat : Int) (by omega) (by omega) (by omega) (by omega) (by omega) (by omega) w k0 k1 k2)
      by_cases i2 : 192 ≤ (x.toNat : Int)
      · exact begins_no _ 3 cap 0 1 0 (by omega) (by omega) (by omega) (fun c h1 h2 => by have := sizeF_spec c; omega) w (some ⟨g, 0, none⟩) rfl (fun w1 e => by subst e; exact span_c3_high g cap (a.toNat : Int) (b.toNat : Int) (x.toNat : Int) (by omega) (by omega) (by omega) (by omega) (by omega) (by omega) w k0 k1 k2)
      exfalso; omega
    · by_cases i1 : (x.toNat : Int) < 128
      · exact begins_no _ 3 cap 0 1 0 (by omega) (by omega) (by omega) (fun c h1 h2 => by have := sizeF_spec c; omega) w (some ⟨g, 0, none⟩) rfl (fun w1 e => by subst e; exact span_d3_low g cap (a.toNat : Int) (b.toNat : Int) (x.toNat : Int) (by omega) (by omega) (by omega) (by omega) (by omega) (by omega) w k0 k1 k2)
      by_cases i2 : 192 ≤ (x.toNat : Int)
      · exact begins_no _ 3 cap 0 1 0 (by omega) (by omega) (by omega) (fun c h1 h2 => by have := sizeF_spec c; omega) w (some ⟨g, 0, none⟩) rfl (fun w1 e => by subst e; exact span_d3_high g cap (a.toNat : Int) (b.toNat : Int) (x.toNat : Int) (by omega) (by omega) (by omega) (by omega) (by omega) (by omega) w k0 k1 k2)
      exfalso; omega
  · have ha := a.toNat_lt
    have q := step_not hs hw
    obtain ⟨u1, u2, u3, u4, u5, u6⟩ := step_inv h1 hw1
    obtain ⟨v1, v2, v3, v4, v5, v6⟩ := step_inv h2 hw2
    have k0 : w.cell? ⟨g, 0, none⟩ = some (.int .u8 (a.toNat : Int)) := hc 0 _ rfl
    have k1 : w.cell? ⟨g, 1, none⟩ = some (.int .u8 (b.toNat : Int)) := hc 1 _ rfl
    have k2 : w.cell? ⟨g, 2, none⟩ = some (.int .u8 (c.toNat : Int)) := hc 2 _ rfl
    have k3 : w.cell? ⟨g, 3, none⟩ = some (.int .u8 (x.toNat : Int)) := hc 3 _ rfl
    rcases begin_inv hb hw1 with ⟨r1, r2, r3, r4, r5, r6⟩ | ⟨r1, r2, r3, r4, r5, r6, r7, r8⟩ | ⟨r1, r2, r3, r4, r5, r6, r7, r8⟩
    · omega
    · omega
    · by_cases i1 : (x.toNat : Int) < 128
      · exact begins_no _ 4 cap 0 1 0 (by omega) (by omega) (by omega) (fun c h1 h2 => by have := sizeF_spec c; omega) w (some ⟨g, 0, none⟩) rfl (fun w1 e => by subst e; exact span_d4_low g cap (a.toNat : Int) (b.toNat : Int) (c.toNat : Int) (x.toNat : Int) (by omega) (by omega) (by omega) (by omega) (by omega) (by omega) (by omega) (by omega) w k0 k1 k2 k3)
      by_cases i2 : 192 ≤ (x.toNat : Int)
      · exact begins_no _ 4 cap 0 1 0 (by omega) (by omega) (by omega) (fun c h1 h2 => by have := sizeF_spec c; omega) w (some ⟨g, 0, none⟩) rfl (fun w1 e => by subst e; exact span_d4_high g cap (a.toNat : Int) (b.toNat : Int) (c.toNat : Int) (x.toNat : Int) (by omega) (by omega) (by omega) (by omega) (by omega) (by omega) (by omega) (by omega) w k0 k1 k2 k3)
      exfalso; omega
end Go.Proofs.Ytlfkhfmepcnfeaa.Utf
