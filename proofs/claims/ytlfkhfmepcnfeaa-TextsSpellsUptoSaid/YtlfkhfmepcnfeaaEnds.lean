/- The walks of escape.Odd, quarryref06.Is, texts.End and quarryref15.End. -/
import Derived.Test.YtlfkhfmepcnfeaaProg
import Derived.WalkKit
import Derived.Below
import Derived.Lib.Hide
import Derived.Deep.LoopGhost
import Derived.Deep.QuietTactic
import Derived.BigQuiet
import Derived.Outline
namespace Go.Proofs.Ytlfkhfmepcnfeaa.Ends
set_option linter.unusedVariables false
set_option linter.unusedSimpArgs false
open Go.RowKit

/-- How many in a row, ending ahead of a place, answer yes. -/
def run (f : Nat → Bool) : Nat → Nat
  | 0 => 0
  | k + 1 => if f k then run f k + 1 else 0
theorem run_le (f : Nat → Bool) : ∀ k, run f k ≤ k
  | 0 => by simp [run]
  | k + 1 => by have := run_le f k; simp only [run]; split <;> omega
/-- The same, gone backwards: from a place on as long as it answers yes. -/
theorem run_back (f : Nat → Bool) (a : Nat) : ∀ n, (∀ j, a ≤ j → j < a + n → f j = true) → run f (a + n) = run f a + n
  | 0, _ => rfl
  | n + 1, h => by
    have ih := run_back f a n (fun j h1 h2 => h j h1 (by omega))
    rw [show a + (n + 1) = (a + n) + 1 by omega, run, h (a + n) (by omega) (by omega), if_pos rfl, ih]; omega
def isB (s : ByteArray) (c : UInt8) (i : Nat) : Bool := s.data.toList.getD i 0 == c

theorem get_eq (s : ByteArray) (k : Nat) (h : k < s.size) : s[k] = s.data.toList.getD k 0 := by
  have hl : k < s.data.toList.length := by simpa using h
  rw [List.getD_eq_getElem?_getD, List.getElem?_eq_getElem hl]
  rfl
theorem isB_int (s : ByteArray) (c : UInt8) (k : Nat) (h : k < s.size) : (((s[k].toNat : Nat) : Int) == ((c.toNat : Nat) : Int)) = isB s c k := by
  rw [isB, ← get_eq s k h, Bool.eq_iff_iff]
  simp only [beq_iff_eq]
  constructor
  · intro h; exact UInt8.toNat_inj.1 (by omega)
  · intro h; rw [h]
theorem rem_odd (n : Nat) : (((n : Int) % 2 == 1) : Bool) = (n % 2 == 1) := by
  rw [Bool.eq_iff_iff]; simp only [beq_iff_eq]; omega
theorem ret2 {a a' b b' : Value} (h1 : a = a') (h2 : b = b') : Ending.returned (.tuple #[a, b]) = Ending.returned (.tuple #[a', b']) := by rw [h1, h2]
theorem odd_w (s : ByteArray) (at_ : Nat) (hs : s.size ≤ 140737488351232) (ha : at_ ≤ s.size) (w : World) :
    Calls Try.prog 24 #[.string s, .int .i64 at_] w fun e w' => e = .returned (.tuple #[.int .i64 (at_ - run (isB s 92) at_ : Nat), .bool (run (isB s 92) at_ % 2 == 1)]) ∧ w = w' := by
  have h1 : decide ((at_ : Int) < 0) = false := by simp
  have h2 : decide (s.size < at_) = false := by simp; omega
  go_enter Try.func24, Try.ntmps24
  go_wp2
  go_loop [6] (fun i => ∃ k : Nat, k ≤ at_ ∧ i = .int .i64 k ∧ run (isB s 92) at_ = run (isB s 92) k + (at_ - k)) (fun i => (intOf i).toNat)
  case atStart => exact ⟨at_, by omega, rfl, by omega⟩
  case round =>
    obtain ⟨k, hk, rfl, hr⟩ := hrel
    have hle := run_le (isB s 92) k
    have HR := Lib.hid hr; clear hr
    by_cases hk0 : 0 < k
    · have hlt : k - 1 < s.size := by omega
      have hi := isB_int s 92 (k - 1) hlt
      have hstep : run (isB s 92) k = if isB s 92 (k - 1) then run (isB s 92) (k - 1) + 1 else 0 := by
        obtain ⟨j, rfl⟩ : ∃ j, k = j + 1 := ⟨k - 1, by omega⟩
        rfl
      have HS := Lib.hid hstep; clear hstep
      by_cases hb : isB s 92 (k - 1) = true
      · rw [hb] at hi HS
        have hi' : (((s[k - 1].toNat : Nat) : Int) == 92) = true := hi
        clear hi
        go_wp2
        go_round
        case rel => exact ⟨k - 1, by omega, by congr 1; omega, by have h1 := HR.out; have h2 := HS.out; simp at h2; omega⟩
        case measure => simp [intOf]; omega
      · have hb' : isB s 92 (k - 1) = false := by simpa using hb
        rw [hb'] at hi HS
        have hi' : (((s[k - 1].toNat : Nat) : Int) == 92) = false := hi
        clear hi hb
        go_wp2
        go_ret2
        refine ⟨?_, rfl⟩
        have h1 := HR.out; have h2 := HS.out; simp at h2
        have e : run (isB s 92) at_ = at_ - k := by omega
        rw [e]
        refine ret2 (show Value.int .i64 (k : Int) = Value.int .i64 ((at_ - (at_ - k) : Nat) : Int) from congrArg (Value.int .i64) (by omega)) (show Value.bool (((at_ : Int) - (k : Int)) % 2 == 1) = Value.bool ((at_ - k) % 2 == 1) from congrArg Value.bool ?_)
        rw [← rem_odd, Int.ofNat_sub hk]
    · obtain rfl : k = 0 := by omega
      go_wp2
      go_ret2
      refine ⟨?_, rfl⟩
      have h1 := HR.out
      simp only [run] at h1
      rw [h1]
      refine ret2 (show Value.int .i64 0 = Value.int .i64 ((at_ - (0 + (at_ - 0)) : Nat) : Int) from congrArg (Value.int .i64) (by omega)) (show Value.bool ((at_ : Int) % 2 == 1) = Value.bool ((0 + (at_ - 0)) % 2 == 1) from congrArg Value.bool ?_)
      rw [← rem_odd]; simp

/-- Which bytes are escaped, gone forwards; it is what the number of backslashes ahead says. -/
def esc (f : Nat → Bool) : Nat → Bool
  | 0 => false
  | k + 1 => f k && !esc f k
theorem esc_run (f : Nat → Bool) : ∀ k, esc f k = (run f k % 2 == 1)
  | 0 => rfl
  | k + 1 => by
    rw [esc, esc_run f k, run]
    cases f k
    · simp
    · simp only [Bool.true_and, if_true]
      rw [Bool.eq_iff_iff]; simp; omega
/-- The first place below a bound that answers yes, and whether there is one. -/
def first (P : Nat → Bool) (n : Nat) : Option Nat := (List.range n).find? P
theorem first_some {P : Nat → Bool} {n i : Nat} (hi : i < n) (hp : P i = true) (h : ∀ j, j < i → P j = false) : first P n = some i := by
  unfold first
  rw [List.find?_range_eq_some]
  exact ⟨hp, List.mem_range.2 hi, fun j hj => by simp [h j hj]⟩
theorem first_none {P : Nat → Bool} {n : Nat} (h : ∀ j, j < n → P j = false) : first P n = none := by
  unfold first
  rw [List.find?_range_eq_none]
  exact fun j hj => by simp [h j hj]
/-- Behind a place: is a byte a quote that nothing escapes? -/
def endsAt (s : ByteArray) (from_ i : Nat) : Bool := isB s 34 (from_ + i) && !esc (fun j => isB s 92 (from_ + j)) i
def endN (s : ByteArray) (from_ : Nat) : Nat := match first (endsAt s from_) (s.size - from_) with | some i => from_ + i | none => 0
def endE (s : ByteArray) (from_ : Nat) : Nat := match first (endsAt s from_) (s.size - from_) with | some _ => 0 | none => 150

theorem end_bad (s : ByteArray) (from_ : Int) (hs : s.size ≤ 140737488351232) (ha : from_ < 0 ∨ (s.size : Int) < from_) (w : World) :
    Calls Try.prog 10 #[.string s, .int .i64 from_] w fun e w' => e = .returned (.tuple #[.int .i64 0, .int .i64 2]) ∧ w = w' := by
  rcases ha with ha | ha
  · have h1 : decide (from_ < 0) = true := by simp; omega
    go_enter Try.func10, Try.ntmps10
    go_wp2
    go_ret2
    exact ⟨rfl, rfl⟩
  · have h1 : decide (from_ < 0) = false := by simp; omega
    have h2 : decide ((s.size : Int) < from_) = true := by simp; omega
    go_enter Try.func10, Try.ntmps10
    go_wp2
    go_ret2
    exact ⟨rfl, rfl⟩
theorem rend_bad (s : ByteArray) (from_ : Int) (hs : s.size ≤ 140737488351232) (ha : from_ < 0 ∨ (s.size : Int) < from_) (w : World) :
    Calls Try.prog 11 #[.string s, .int .i64 from_] w fun e w' => e = .returned (.tuple #[.int .i64 0, .int .i64 2]) ∧ w = w' := by
  rcases ha with ha | ha
  · have h1 : decide (from_ < 0) = true := by simp; omega
    go_enter Try.func11, Try.ntmps11
    go_wp2
    go_ret2
    exact ⟨rfl, rfl⟩
  · have h1 : decide (from_ < 0) = false := by simp; omega
    have h2 : decide ((s.size : Int) < from_) = true := by simp; omega
    go_enter Try.func11, Try.ntmps11
    go_wp2
    go_ret2
    exact ⟨rfl, rfl⟩
end Go.Proofs.Ytlfkhfmepcnfeaa.Ends
