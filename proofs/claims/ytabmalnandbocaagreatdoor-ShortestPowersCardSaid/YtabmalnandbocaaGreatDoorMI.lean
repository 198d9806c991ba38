/- Chapters 13 and 14 (floats, shortest): contracts of the reference's Nearest and of Of. No conditions beside those that each contract names. -/
import Derived.Test.YtabmalnandbocaaGreatDoorMF
import Derived.Test.YtabmalnandbocaaGreatDoorMH
namespace Go.Proofs.YtabmalnandbocaaGreatDoor.Num
set_option exponentiation.threshold 3000
set_option linter.unusedVariables false
set_option linter.unusedSimpArgs false
open Go.RowKit Go.Proofs.YtabmalnandbocaaGreatDoor.Mem Go.Proofs.YtabmalnandbocaaGreatDoor.Own Go.Proofs.YtabmalnandbocaaGreatDoor.Big

/-- What Nearest comes to. -/
def RnPost (w : World) (b K over : Nat) (l : List UInt8) (e : Int) (en : Ending) (w' : World) : Prop :=
  ∃ n, en = .returned (.int .u64 (n : Nat)) ∧ Below w.heap.size w w' ∧
    (l = [] ∨ (l.length : Int) + e < -400 → n = 0) ∧ (l ≠ [] → 400 < (l.length : Int) + e → n = over) ∧
    (l ≠ [] → -400 ≤ (l.length : Int) + e → (l.length : Int) + e ≤ 400 → ∀ R, Rung.Near b (rN l e * 2 ^ K) (rD e) R → n = min R over)
def BisI (b N Q over low high : Nat) : Prop := Rung.W b low * Q ≤ N ∧ (high = over + 1 ∨ N < Rung.W b high * Q)
def GePost (w : World) (x y : Nat) (e : Ending) (w' : World) : Prop := (∃ z : Int, e = .returned (.int .i64 z) ∧ (y ≤ x → 0 ≤ z) ∧ (x < y → z < 0)) ∧ Below w.heap.size w w'
theorem cmpI_ge {x y : Nat} : (y ≤ x → 0 ≤ cmpI x y) ∧ (x < y → cmpI x y < 0) := by
  unfold cmpI
  constructor <;> intro h <;> split <;> (try split) <;> omega
def HalfPost (w : World) (x y : Nat) (e : Ending) (w' : World) : Prop := e = .returned (.int .i64 (cmpI x y)) ∧ Below w.heap.size w w'
end Go.Proofs.YtabmalnandbocaaGreatDoor.Num
namespace Go.Proofs.YtabmalnandbocaaGreatDoor.Num
set_option exponentiation.threshold 3000
set_option linter.unusedVariables false
set_option linter.unusedSimpArgs false
open Go.RowKit Go.Proofs.YtabmalnandbocaaGreatDoor.Mem Go.Proofs.YtabmalnandbocaaGreatDoor.Own Go.Proofs.YtabmalnandbocaaGreatDoor.Big
end Go.Proofs.YtabmalnandbocaaGreatDoor.Num
namespace Go.Proofs.YtabmalnandbocaaGreatDoor.Num
set_option exponentiation.threshold 3000
set_option linter.unusedVariables false
set_option linter.unusedSimpArgs false
open Go.RowKit Go.Proofs.YtabmalnandbocaaGreatDoor.Mem Go.Proofs.YtabmalnandbocaaGreatDoor.Own Go.Proofs.YtabmalnandbocaaGreatDoor.Big
open Ieee (double single)

theorem refF_le (b K over : Nat) (l : List UInt8) (e : Int) : refF b K over l e ≤ over := by
  unfold refF
  split
  · omega
  · split <;> omega
/-- The number of the nearest float64, float32. -/
abbrev near64 (l : List UInt8) (e : Int) : Nat := refF 52 1074 9218868437227405312 l e
abbrev near32 (l : List UInt8) (e : Int) : Nat := refF 23 149 2139095040 l e
def ofV (neg : Bool) (n : Nat) : Value := if n = 9218868437227405312 then .tuple #[.float .f64 0, .int .i64 121] else .tuple #[.float .f64 (double.word neg n), .int .i64 0]
def OfPost (w : World) (neg : Bool) (n : Nat) (en : Ending) (w' : World) : Prop := en = .returned (ofV neg n) ∧ Below w.heap.size w w'
def OfNo (w : World) (en : Ending) (w' : World) : Prop := en = .returned (.tuple #[.float .f64 0, .int .i64 1]) ∧ Below w.heap.size w w'
theorem Form.canon {l : List UInt8} {e : Int} (h : Form l e) : Canon l ∧ -1073741824 ≤ e ∧ e ≤ 1073741824 := by
  rcases h with ⟨rfl, rfl⟩ | ⟨-, h, h1, h2⟩
  · exact ⟨⟨fun c hc => by simp at hc, fun c hc => by simp at hc, fun c hc => by simp at hc⟩, by decide, by decide⟩
  · exact ⟨h, h1, h2⟩
theorem or_sign {n : Nat} (h : n < 9223372036854775808) : bits .or .u64 (n : Int) 9223372036854775808 = ((9223372036854775808 + n : Nat) : Int) := by
  have h2 := (bits_nat .u64 64 (by decide) (fun n a b => wraps_u64 n a b) n 9223372036854775808 (by omega) (by omega)).2
  have h3 : n ||| 9223372036854775808 = 9223372036854775808 + n := by
    rw [Nat.or_comm]
    have := Nat.two_pow_add_eq_or_of_lt (i := 63) (b := n) (by omega) 1
    rw [Nat.mul_one] at this
    exact this.symm
  rw [h3] at h2
  exact h2
theorem frombits_run (x : Nat) (w : World) : (callFunc 8 #[.int .u64 (x : Nat)]).run Tryz.prog w = .ok (.value (.float .f64 x)) w := by
  rw [run_callFunc_extern Tryz.func8 (by kernel_rfl) (by kernel_rfl) (by kernel_rfl) (e := Extern.MathFloatBits.float64frombits) (by kernel_rfl)]
  rfl
theorem frombits_run' (z : Int) (x : Nat) (h : z = (x : Nat)) (w : World) : (callFunc 8 #[.int .u64 z]).run Tryz.prog w = .ok (.value (.float .f64 x)) w := by rw [h]; exact frombits_run x w
theorem nearest_52 (neg : Bool) (s : ByteArray) (e : Int) (w : World) (hf : Form s.data.toList e) (hsm : s.size < 140737488355328) :
    Calls Tryz.prog 35 #[.agg #[.bool neg, .string s, .int .i64 e], .int .i64 52, .int .i64 (-1074), .int .u64 9218868437227405312] w (NearPost w (near64 s.data.toList e)) := by
  obtain ⟨h, h1, h2⟩ := hf.canon
  have := nearest_w 52 1074 9218868437227405312 neg s e w h.ok hsm h1 h2 (by decide) (by decide) (by decide) (by decide)
  rw [near_is (by decide) (by decide) (by decide) h] at this
  exact this
set_option maxHeartbeats 4000000 in
set_option maxRecDepth 100000 in
theorem of_no (neg : Bool) (s : ByteArray) (e : Int) (w : World) (hf : ¬ Form s.data.toList e) (hsm : s.size < 140737488355328) :
    Calls Tryz.prog 17 #[.agg #[.bool neg, .string s, .int .i64 e]] w (OfNo w) := by
  have HF := Lib.hid (fun W => formed_w neg s e W hsm)
  have HN := Lib.hid hf
  clear hf
  go_enter Tryz.func17, Tryz.ntmps17
  go_wp2_with fail
  refine (HF.out _).mono ?_
  rintro en w1 ⟨b, rfl, hb, b1⟩
  obtain rfl : b = false := by
    cases b
    · rfl
    · exact absurd (hb.1 rfl) HN.out
  have B1 := Lib.hid (bthen ((Below.refl _ w).alloc (Nat.le_refl _) _) b1)
  clear hb b1
  go_wp2_with fail
  go_ret2
  exact ⟨rfl, B1.out⟩
set_option maxHeartbeats 4000000 in
set_option maxRecDepth 100000 in
theorem of_yes (neg : Bool) (s : ByteArray) (e : Int) (w : World) (hf : Form s.data.toList e) (hsm : s.size < 140737488355328) :
    Calls Tryz.prog 17 #[.agg #[.bool neg, .string s, .int .i64 e]] w (OfPost w neg (near64 s.data.toList e)) := by
  have HF := Lib.hid (fun W => formed_w neg s e W hsm)
  have HN := Lib.hid hf
  have HNR := Lib.hid (fun W => nearest_52 neg s e W hf hsm)
  have hb0 := Blk.new w 32 #[.bool neg, .string s, .int .i64 e]
  have HB0 := Lib.hid hb0
  have hle : near64 s.data.toList e ≤ 9218868437227405312 := refF_le _ _ _ _ _
  have hfr := frombits_run
  have HFR := Lib.hid hfr
  obtain ⟨n, hn⟩ : ∃ n, n = near64 s.data.toList e := ⟨_, rfl⟩
  rw [← hn] at hle HNR ⊢
  have HP := Lib.hid (or_sign (n := n) (by omega))
  clear hf hb0 hn hfr
  go_enter Tryz.func17, Tryz.ntmps17
  go_wp2_with fail
  refine (HF.out _).mono ?_
  rintro en w1 ⟨b, rfl, hb, b1⟩
  obtain rfl : b = true := hb.2 HN.out
  have HB1 := Lib.hid (HB0.out.below b1 HB0.out.lt)
  have B1 := Lib.hid (bthen ((Below.refl _ w).alloc (Nat.le_refl _) _) b1)
  have d0 := HB1.out.cell 0
  have d1 := HB1.out.cell 1
  have d2 := HB1.out.cell 2
  simp at d0 d1 d2
  clear hb b1
  go_wp2_with fail
  refine (HNR.out _).mono ?_
  rintro en w2 ⟨rfl, b2⟩
  have HB2 := Lib.hid (HB1.out.below b2 HB1.out.lt)
  have B2 := Lib.hid (bthen B1.out b2)
  have e0 := HB2.out.cell 0
  simp at e0
  clear b2
  by_cases htop : n = 9218868437227405312
  · subst htop
    go_wp2_with fail
    go_ret2
    exact ⟨rfl, B2.out⟩
  · have t1 : ((n : Int) == 9218868437227405312) = false := by rw [beq_eq_false_iff_ne]; omega
    have HT := Lib.hid htop
    clear htop
    cases neg
    · have hr := HFR.out n
      go_wp2_with fail
      go_ret2
      exact ⟨by unfold ofV; rw [if_neg HT.out]; rfl, B2.out⟩
    · have hr := frombits_run' (9223372036854775808 + (n : Int)) (9223372036854775808 + n) (by omega)
      have hor := HP.out
      go_wp2_with fail
      go_ret2
      exact ⟨by unfold ofV; rw [if_neg HT.out]; rfl, B2.out⟩
end Go.Proofs.YtabmalnandbocaaGreatDoor.Num
