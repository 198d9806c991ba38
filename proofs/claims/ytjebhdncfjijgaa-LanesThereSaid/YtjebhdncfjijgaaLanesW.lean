/- The walks of layer 1: what each function of lanes and of its reference computes, as the walk spells it. -/
import Derived.Test.YtjebhdncfjijgaaProg
import Derived.Test.YtjebhdncfjijgaaBytes
import Derived.WalkKit
import Derived.Below
import Derived.Lib.Hide
import Derived.Deep.LoopGhost
import Derived.Deep.QuietTactic
import Derived.BigQuiet
import Derived.Outline
namespace Go.Proofs.Ytjebhdncfjijgaa.Lanes
set_option linter.unusedVariables false
set_option linter.unusedSimpArgs false
open Go.RowKit Go.Proofs.Ytjebhdncfjijgaa.Bytes

def topsI (x : Int) : Int := IntKind.u64.wrap (bits BinOp.and IntKind.u64 x 9259542123273814144 / 128 * 72624976668147840) / 72057594037927936 % 256
theorem tops_w (x : Int) (w : World) : Calls Try.prog 33 #[.int .u64 x] w fun e w' => e = .returned (.int .u8 (topsI x)) ∧ w = w' := by
  go_enter Try.func33, Try.ntmps33
  go_wp2
  go_ret
  exact ⟨rfl, rfl⟩

def fillI (c : Int) : Int := IntKind.u64.wrap (72340172838076673 * IntKind.u64.wrap c)
theorem fill_w (c : Int) (w : World) : Calls Try.prog 23 #[.int .u8 c] w fun e w' => e = .returned (.int .u64 (fillI c)) ∧ w = w' := by
  go_enter Try.func23, Try.ntmps23
  go_wp2
  go_ret
  exact ⟨rfl, rfl⟩

def lessI (x y : Int) : Int := bits BinOp.or IntKind.u64
                                    (bits BinOp.and IntKind.u64 (bits BinOp.xor IntKind.u64 IntKind.u64.max x) y)
                                    (bits BinOp.andNot IntKind.u64
                                      (bits BinOp.xor IntKind.u64 IntKind.u64.max (bits BinOp.xor IntKind.u64 x y))
                                      (IntKind.u64.wrap
                                        (bits BinOp.or IntKind.u64 x 9259542123273814144 -
                                          bits BinOp.andNot IntKind.u64 y 9259542123273814144)))
theorem below_w (x y : Int) (w : World) : Calls Try.prog 31 #[.int .u64 x, .int .u64 y] w fun e w' => e = .returned (.int .u8 (topsI (lessI x y))) ∧ w = w' := by
  go_enter Try.func31, Try.ntmps31
  go_wp2_with (go_at_call 33; refine (tops_w _ _).mono ?_; rintro e w' ⟨rfl, rfl⟩)
  all_goals
    go_ret
    exact ⟨rfl, rfl⟩

def sameI (x c : Int) : Int := bits BinOp.xor IntKind.u64 IntKind.u64.max
                          (bits BinOp.or IntKind.u64
                            (IntKind.u64.wrap
                              (bits BinOp.andNot IntKind.u64 (bits BinOp.xor IntKind.u64 x (fillI c))
                                  9259542123273814144 +
                                9187201950435737471))
                            (bits BinOp.xor IntKind.u64 x (fillI c)))
theorem equal_w (x c : Int) (w : World) : Calls Try.prog 15 #[.int .u64 x, .int .u8 c] w fun e w' => e = .returned (.int .u8 (topsI (sameI x c))) ∧ w = w' := by
  go_enter Try.func15, Try.ntmps15
  go_wp2_with (first | (go_at_call 33; refine (tops_w _ _).mono ?_; rintro e w' ⟨rfl, rfl⟩) | (go_at_call 23; refine (fill_w _ _).mono ?_; rintro e w' ⟨rfl, rfl⟩))
  all_goals
    go_ret
    exact ⟨rfl, rfl⟩
theorem high_w (x : Int) (w : World) : Calls Try.prog 27 #[.int .u64 x] w fun e w' => e = .returned (.int .u8 (topsI x)) ∧ w = w' := by
  go_enter Try.func27, Try.ntmps27
  go_wp2_with (first | (go_at_call 33; refine (tops_w _ _).mono ?_; rintro e w' ⟨rfl, rfl⟩))
  go_ret
  exact ⟨rfl, rfl⟩
theorem blw_w (x c : Int) (w : World) : Calls Try.prog 17 #[.int .u64 x, .int .u8 c] w fun e w' => e = .returned (.int .u8 (topsI (lessI x (fillI c)))) ∧ w = w' := by
  go_enter Try.func17, Try.ntmps17
  go_wp2_with (first | (go_at_call 31; refine (below_w _ _ _).mono ?_; rintro e w' ⟨rfl, rfl⟩) | (go_at_call 23; refine (fill_w _ _).mono ?_; rintro e w' ⟨rfl, rfl⟩))
  go_ret
  exact ⟨rfl, rfl⟩
def midI (x lo hi : Int) : Int := bits BinOp.and IntKind.u8 (bits BinOp.xor IntKind.u8 IntKind.u8.max (topsI (lessI x (fillI lo))))
      (bits BinOp.xor IntKind.u8 IntKind.u8.max (topsI (lessI (fillI hi) x)))
theorem between_w (x lo hi : Int) (w : World) : Calls Try.prog 13 #[.int .u64 x, .int .u8 lo, .int .u8 hi] w fun e w' => e = .returned (.int .u8 (midI x lo hi)) ∧ w = w' := by
  go_enter Try.func13, Try.ntmps13
  go_wp2_with fail
  refine (fill_w _ _).mono ?_; rintro e w' ⟨rfl, rfl⟩
  go_wp2_with fail
  refine (below_w _ _ _).mono ?_; rintro e w' ⟨rfl, rfl⟩
  go_wp2_with fail
  refine (fill_w _ _).mono ?_; rintro e w' ⟨rfl, rfl⟩
  go_wp2_with fail
  refine (below_w _ _ _).mono ?_; rintro e w' ⟨rfl, rfl⟩
  go_wp2
  go_ret
  exact ⟨rfl, rfl⟩

/-- The byte i of a word. -/
def byteN (x i : Nat) : Nat := x / 256 ^ i % 256
theorem byteN_lt (x i : Nat) : byteN x i < 256 := Nat.mod_lt _ (by omega)
theorem byte_w (x i : Nat) (hx : x < 18446744073709551616) (hi : i < 8) (w : World) : Calls Try.prog 30 #[.int .u64 x, .int .i64 i] w fun e w' => e = .returned (.int .i64 (byteN x i)) ∧ w = w' := by
  go_enter Try.func30, Try.ntmps30
  go_wp2
  go_loop [0, 5] (fun v k => ∃ j : Nat, j ≤ i ∧ k = .int .i64 j ∧ v = .int .u64 (x / 256 ^ j : Nat)) (fun _ k => i - (intOf k).toNat)
  case atStart => exact ⟨0, Nat.zero_le _, rfl, by simp⟩
  case round =>
    obtain ⟨j, hj, rfl, rfl⟩ := hrel
    have hb : x / 256 ^ j < 18446744073709551616 := Nat.lt_of_le_of_lt (Nat.div_le_self _ _) hx
    have hs : x / 256 ^ (j + 1) = x / 256 ^ j / 256 := by rw [Nat.pow_succ, Nat.div_div_eq_div_mul]
    have HS := Lib.hid hs; clear hs
    generalize hq : x / 256 ^ j = q at *
    have HQ := Lib.hid hq; clear hq
    by_cases hlt : j < i
    · go_wp2
      go_round
      case rel => exact ⟨j + 1, by omega, by go_num, by rw [HS.out]; congr 1⟩
      case measure => simp [intOf]; omega
    · obtain rfl : j = i := by omega
      go_wp2
      go_ret
      refine ⟨?_, rfl⟩
      have : Int.tmod (q : Int) 256 = ((q % 256 : Nat) : Int) := by rw [Int.tmod_eq_emod_of_nonneg (by omega)]; omega
      unfold byteN
      simp [this, HQ.out]

/-- Eight answers as a number: what has been put together of them after m rounds, from the highest one down. -/
def bvd (p : Nat → Bool) : Nat → Nat
  | 0 => 0
  | m + 1 => 2 * bvd p m + if p (7 - m) then 1 else 0
theorem bvd_lt (p : Nat → Bool) : ∀ m, bvd p m < 2 ^ m
  | 0 => by simp [bvd]
  | m + 1 => by have := bvd_lt p m; simp only [bvd, Nat.pow_succ]; split <;> omega
/-- The same, from the lowest one up. -/
def low (p : Nat → Bool) : Nat → Nat
  | 0 => 0
  | m + 1 => low p m + if p m then 2 ^ m else 0
theorem low_lt (p : Nat → Bool) : ∀ m, low p m < 2 ^ m
  | 0 => by simp [low]
  | m + 1 => by have := low_lt p m; simp only [low, Nat.pow_succ]; split <;> omega
theorem bvd_low (p : Nat → Bool) : bvd p 8 = low p 8 := by
  simp only [bvd, low]
  cases p 0 <;> cases p 1 <;> cases p 2 <;> cases p 3 <;> cases p 4 <;> cases p 5 <;> cases p 6 <;> cases p 7 <;> rfl
theorem bits_w (p : Nat → Bool) (w : World) : Calls Try.prog 32 #[.agg #[.bool (p 0), .bool (p 1), .bool (p 2), .bool (p 3), .bool (p 4), .bool (p 5), .bool (p 6), .bool (p 7)]] w fun e w' => e = .returned (.int .u8 (bvd p 8)) ∧ Below w.heap.size w w' := by
  have hcell : ∀ m : Nat, m < 8 → (w.alloc (.cells #[.bool (p 0), .bool (p 1), .bool (p 2), .bool (p 3), .bool (p 4), .bool (p 5), .bool (p 6), .bool (p 7)] 43)).cell? ⟨w.heap.size, 7 - m, none⟩ = some (.bool (p (7 - m))) := by
    intro m hm
    have : m = 0 ∨ m = 1 ∨ m = 2 ∨ m = 3 ∨ m = 4 ∨ m = 5 ∨ m = 6 ∨ m = 7 := by omega
    rcases this with rfl | rfl | rfl | rfl | rfl | rfl | rfl | rfl <;> exact (cell_of_row _ _ _ _ _ _ (heap_alloc_new w _))
  go_enter Try.func32, Try.ntmps32
  go_wp2
  go_loop [3, 4] (fun n i => ∃ m : Nat, m ≤ 8 ∧ i = .int .i64 (7 - (m : Int)) ∧ n = .int .i64 (bvd p m)) (fun _ i => (intOf i + 1).toNat)
  case atStart => exact ⟨0, by omega, rfl, rfl⟩
  case round =>
    obtain ⟨m, hm, rfl, rfl⟩ := hrel
    by_cases hlt : m < 8
    · have h1 := bvd_lt p m
      have h2 : 2 ^ m ≤ 128 := Nat.le_trans (Nat.pow_le_pow_right (n := 2) (by omega) (show m ≤ 7 by omega)) (by decide)
      have hc := hcell m hlt
      go_wp2
      all_goals
        refine ⟨⟨m + 1, by omega, by congr 1; omega, ?_⟩, by simp [intOf]; omega⟩
        simp only [bvd]
        simp [*]
    · obtain rfl : m = 8 := by omega
      have h1 := bvd_lt p 8
      go_wp2
      go_ret
      refine ⟨?_, (Below.refl _ _).alloc (Nat.le_refl _) _⟩
      simp

def sgn (x : Int) : Int := if x < 128 then x else x - 256
theorem sgn_range (x : Int) (h0 : 0 ≤ x) (hx : x < 256) : -128 ≤ sgn x ∧ sgn x < 128 := by unfold sgn; omega
theorem signed_w (x : Int) (h0 : 0 ≤ x) (hx : x < 256) (w : World) : Calls Try.prog 34 #[.int .i64 x] w fun e w' => e = .returned (.int .i64 (sgn x)) ∧ w = w' := by
  by_cases h : x < 128
  · go_enter Try.func34, Try.ntmps34
    go_wp2
    go_ret
    exact ⟨by simp [h, sgn], rfl⟩
  · go_enter Try.func34, Try.ntmps34
    go_wp2
    go_ret
    exact ⟨by simp only [sgn]; rw [if_neg (by omega)]; rfl, rfl⟩
end Go.Proofs.Ytjebhdncfjijgaa.Lanes
