/- Chapters 13 and 14 (floats, shortest): contracts of the reference's floats and of Exact, Between, Formed. No conditions beside those that each contract names. -/
import Derived.Test.YtabmalnandbocaaGreatDoorMB
import Derived.Test.YtabmalnandbocaaGreatDoorMA
import Derived.Laws.FloatArith
import Derived.Test.YtabmalnandbocaaGreatDoorMF
import Derived.Test.YtabmalnandbocaaGreatDoorMG
import Derived.Laws.Externs
import Derived.Laws.BitsAllLaws
namespace Go.Proofs.YtabmalnandbocaaGreatDoor.Num
set_option exponentiation.threshold 3000
set_option linter.unusedVariables false
set_option linter.unusedSimpArgs false
set_option exponentiation.threshold 3000
open Go.RowKit Go.Proofs.YtabmalnandbocaaGreatDoor.Mem Go.Proofs.YtabmalnandbocaaGreatDoor.Own Go.Proofs.YtabmalnandbocaaGreatDoor.Big

/-- A call comes to a float and leaves memory alone. -/
def FPost (w : World) (x : Nat) (e : Ending) (w' : World) : Prop := e = .returned (.float .f64 x) ∧ w = w'
theorem mul_run {x y : Nat} (h : Ieee.double.mul x 4611686018427387904 = some y) : ∀ t (w : World), (binOp .mul t (.float .f64 x) (.float .f64 4611686018427387904)).run Tryz.prog w = .ok (.float .f64 y) w :=
  fun t w => run_float_arith w .mul t .f64 x _ y h
theorem div_run {x y : Nat} (h : Ieee.double.div x 4611686018427387904 = some y) : ∀ t (w : World), (binOp .quo t (.float .f64 x) (.float .f64 4611686018427387904)).run Tryz.prog w = .ok (.float .f64 y) w :=
  fun t w => run_float_arith w .quo t .f64 x _ y h
theorem W_inj {b n m : Nat} (h : Rung.W b n = Rung.W b m) : n = m := by
  rcases Nat.lt_trichotomy n m with h1 | h1 | h1
  · have := Rung.W_lt (b := b) h1; omega
  · exact h1
  · have := Rung.W_lt (b := b) h1; omega
theorem W_le_inv {b n m : Nat} (h : Rung.W b n ≤ Rung.W b m) : n ≤ m := by
  apply Nat.le_of_not_lt
  intro h1
  have := Rung.W_lt (b := b) h1
  omega
theorem W_inf : Rung.W 52 Ieee.double.infRung = 2 ^ 2098 := by
  unfold Rung.W
  have a1 : Rung.mant 52 Ieee.double.infRung = 2 ^ 52 := by decide
  have a2 : Rung.expo 52 Ieee.double.infRung = 2046 := by decide
  rw [a1, a2, ← Nat.pow_add]
theorem rung_of {m k : Nat} (hm : m < 9007199254740992) (h : m * 2 ^ k < 2 ^ 2098) : ∃ n, n < Ieee.double.infRung ∧ Rung.W 52 n = m * 2 ^ k := by
  obtain ⟨n, hn⟩ := Rung.has_rung (b := 52) m k hm
  refine ⟨n, ?_, hn⟩
  apply Nat.lt_of_not_le
  intro hge
  have := Rung.W_le (b := 52) hge
  rw [W_inf, hn] at this
  omega
theorem of_nat {m n : Nat} (hn : n < Ieee.double.infRung) (hm : Rung.W 52 n = m * 2 ^ 1074) : floatOfInt .f64 (m : Int) = Ieee.double.word false n := by
  have := Rung.of_nat hn hm
  unfold floatOfInt FloatKind.nearest FloatKind.encode FloatKind.format
  have h1 : decide ((m : Int) < 0) = false := decide_eq_false (by omega)
  rw [h1]
  exact this
theorem neg_float {s : Bool} {n : Nat} (h : n < Ieee.double.signWeight) : Op.negFloat .f64 (Ieee.double.word s n) = Ieee.double.word (!s) n := Rung.neg_word (f := Ieee.double) h
theorem neg_run {s : Bool} {n : Nat} (h : n < Ieee.double.infRung) : ∀ w : World, (Op.unary .neg (.float .f64 (Ieee.double.word s n))).run Tryz.prog w = .ok (.float .f64 (Ieee.double.word (!s) n)) w := by
  intro w
  have := neg_float (s := s) (Nat.lt_trans h (Rung.inf_lt _))
  simp [Op.unary, this]
set_option maxHeartbeats 4000000 in
theorem float_up (neg : Bool) (m e n : Nat) (w : World) (hm : m < 9007199254740992) (hn : n < Ieee.double.infRung) (hW : Rung.W 52 n = m * 2 ^ (1074 + e)) (he : e < 100000) :
    Calls Tryz.prog 105 #[.bool neg, .int .u64 (m : Nat), .int .i64 (e : Nat)] w (FPost w (Ieee.double.word neg n)) := by
  have hWn : Rung.W 52 n < 2 ^ 2098 := by rw [← W_inf]; exact Rung.W_lt hn
  have HI := Lib.hid (show ∀ i, i ≤ e → ∃ k, k < Ieee.double.infRung ∧ Rung.W 52 k = m * 2 ^ (1074 + i) from fun i hi => rung_of hm (Nat.lt_of_le_of_lt (Nat.mul_le_mul_left m (Nat.pow_le_pow_right (by decide) (Nat.add_le_add_left hi 1074))) (by rw [hW] at hWn; exact hWn)))
  obtain ⟨n0, h01, h02⟩ := HI.out 0 (by omega)
  have H02 := Lib.hid h02
  have hf0 := of_nat h01 h02
  have HN := Lib.hid hn
  have HW := Lib.hid hW
  have tneg : decide ((e : Int) < 0) = false := decide_eq_false (by omega)
  clear h02 hWn hW
  go_enter Tryz.func105, Tryz.ntmps105
  go_wp2
  go_loop [7, 8] (fun f i => ∃ k j : Nat, j ≤ e ∧ i = .int .i64 (j : Nat) ∧ f = .float .f64 (Ieee.double.word false k) ∧ k < Ieee.double.infRung ∧ Rung.W 52 k = m * 2 ^ (1074 + j)) (fun _ i => e - (intOf i).toNat)
  case atStart => exact ⟨n0, 0, by omega, rfl, rfl, h01, H02.out⟩
  case round =>
    obtain ⟨k, j, hj, rfl, rfl, hk, hkW⟩ := hrel
    by_cases hlt : j < e
    · obtain ⟨k', hk', hkW'⟩ := HI.out (j + 1) (by omega)
      have hop := mul_run (Rung.mul_two (s := false) hk hk' (by rw [hkW', hkW, ← Nat.add_assoc, Nat.pow_succ]; grind))
      have HKW := Lib.hid hkW'
      clear hkW'
      go_wp2_with (simp only [hop])
      go_round
      case rel => exact ⟨k', j + 1, by omega, by go_num, rfl, hk', HKW.out⟩
      case measure => simp [intOf]; omega
    · obtain rfl : j = e := by omega
      obtain rfl : k = n := W_inj (hkW.trans HW.out.symm)
      go_wp2
      go_loop [7, 9] (fun f i => f = .float .f64 (Ieee.double.word false k) ∧ i = .int .i64 (j : Nat)) (fun _ _ => 0)
      case atStart => exact ⟨rfl, rfl⟩
      case round =>
        obtain ⟨rfl, rfl⟩ := hrel
        cases neg
        · go_wp2
          go_ret
          exact ⟨rfl, rfl⟩
        · have hng := neg_run (s := false) hn
          go_wp2_with (simp only [hng])
          go_ret
          exact ⟨rfl, rfl⟩
set_option maxHeartbeats 4000000 in
theorem float_down (neg : Bool) (m e n : Nat) (w : World) (hm : m < 9007199254740992) (hn : n < Ieee.double.infRung) (he : e ≤ 1074) (he0 : 0 < e) (hW : Rung.W 52 n = m * 2 ^ (1074 - e)) :
    Calls Tryz.prog 105 #[.bool neg, .int .u64 (m : Nat), .int .i64 (-(e : Nat))] w (FPost w (Ieee.double.word neg n)) := by
  have hbig : m * 2 ^ 1074 < 2 ^ 2098 := Nat.lt_of_lt_of_le (Nat.mul_lt_mul_of_pos_right hm (Nat.pow_pos (by decide))) (by rw [show (9007199254740992 : Nat) = 2 ^ 53 from rfl, ← Nat.pow_add]; exact Nat.pow_le_pow_right (by decide) (by decide))
  have HI := Lib.hid (show ∀ i, i ≤ e → ∃ k, k < Ieee.double.infRung ∧ Rung.W 52 k = m * 2 ^ (1074 - (e - i)) from fun i hi => rung_of hm (Nat.lt_of_le_of_lt (Nat.mul_le_mul_left m (Nat.pow_le_pow_right (by decide) (Nat.sub_le 1074 (e - i)))) hbig))
  obtain ⟨n0, h01, h02⟩ := HI.out e (by omega)
  rw [Nat.sub_self, Nat.sub_zero] at h02
  have hf0 := of_nat h01 h02
  have H02 := Lib.hid h02
  have HN := Lib.hid hn
  have HW := Lib.hid hW
  have tpos : decide ((0 : Int) < -(e : Int)) = false := decide_eq_false (by omega)
  clear h02 hW hbig
  go_enter Tryz.func105, Tryz.ntmps105
  go_wp2
  go_loop [7, 8] (fun f i => f = .float .f64 (Ieee.double.word false n0) ∧ i = .int .i64 0) (fun _ _ => 0)
  case atStart => exact ⟨rfl, rfl⟩
  case round =>
    obtain ⟨rfl, rfl⟩ := hrel
    go_wp2
    go_loop [7, 9] (fun f i => ∃ k j : Nat, j ≤ e ∧ i = .int .i64 (-(j : Nat)) ∧ f = .float .f64 (Ieee.double.word false k) ∧ k < Ieee.double.infRung ∧ Rung.W 52 k = m * 2 ^ (1074 - (e - j))) (fun _ i => (-(intOf i)).toNat)
    case atStart => exact ⟨n0, e, Nat.le_refl _, rfl, rfl, h01, by rw [Nat.sub_self, Nat.sub_zero]; exact H02.out⟩
    case round =>
      obtain ⟨k, j, hj, rfl, rfl, hk, hkW⟩ := hrel
      by_cases hlt : 0 < j
      · obtain ⟨q, rfl⟩ : ∃ q, j = q + 1 := ⟨j - 1, by omega⟩
        obtain ⟨k', hk', hkW'⟩ := HI.out q (by omega)
        have hop := div_run (Rung.div_two (s := false) hk hk' (by rw [hkW', hkW, show 1074 - (e - (q + 1)) = 1074 - (e - q) + 1 by omega, Nat.pow_succ]; grind))
        have HKW := Lib.hid hkW'
        have t1 : decide (-((q + 1 : Nat) : Int) < 0) = true := decide_eq_true (by omega)
        clear hkW'
        go_wp2_with (simp only [hop])
        go_round
        case rel => exact ⟨k', q, by omega, by congr 1; omega, rfl, hk', HKW.out⟩
        case measure => simp [intOf]; omega
      · obtain rfl : j = 0 := by omega
        obtain rfl : k = n := W_inj (hkW.trans (by rw [HW.out, Nat.sub_zero]))
        cases neg
        · go_wp2
          go_ret
          exact ⟨rfl, rfl⟩
        · have hng := neg_run (s := false) hk
          go_wp2_with (simp only [hng])
          go_ret
          exact ⟨rfl, rfl⟩
end Go.Proofs.YtabmalnandbocaaGreatDoor.Num
namespace Go.Proofs.YtabmalnandbocaaGreatDoor.Num
set_option exponentiation.threshold 3000
set_option linter.unusedVariables false
set_option linter.unusedSimpArgs false
set_option exponentiation.threshold 3000
open Go.RowKit Go.Proofs.YtabmalnandbocaaGreatDoor.Mem Go.Proofs.YtabmalnandbocaaGreatDoor.Own Go.Proofs.YtabmalnandbocaaGreatDoor.Big
open Ieee (double single)

/-- How two floats stand to each other, as the walk asks it. -/
structure Ord (k : FloatKind) (x y : Nat) (o : Option Ordering) : Prop where
  lt : (k.format.order x y == some .lt) = (o == some .lt)
  eq : (k.format.order x y == some .eq) = (o == some .eq)
  gt : (k.format.order x y == some .gt) = (o == some .gt)
  ne : (k.format.order x y != some .eq) = (o != some .eq)
theorem Ord.of {k : FloatKind} {x y : Nat} {o : Option Ordering} (h : k.format.order x y = o) : Ord k x y o := by subst h; exact ⟨rfl, rfl, rfl, rfl⟩
theorem lt_lt : ((some Ordering.lt : Option Ordering) == some .lt) = true := rfl
theorem lt_eq : ((some Ordering.lt : Option Ordering) == some .eq) = false := rfl
theorem lt_gt : ((some Ordering.lt : Option Ordering) == some .gt) = false := rfl
theorem lt_ne : ((some Ordering.lt : Option Ordering) != some .eq) = true := rfl
theorem eq_lt : ((some Ordering.eq : Option Ordering) == some .lt) = false := rfl
theorem eq_eq : ((some Ordering.eq : Option Ordering) == some .eq) = true := rfl
theorem eq_gt : ((some Ordering.eq : Option Ordering) == some .gt) = false := rfl
theorem eq_ne : ((some Ordering.eq : Option Ordering) != some .eq) = false := rfl
theorem gt_lt : ((some Ordering.gt : Option Ordering) == some .lt) = false := rfl
theorem gt_eq : ((some Ordering.gt : Option Ordering) == some .eq) = false := rfl
theorem gt_gt : ((some Ordering.gt : Option Ordering) == some .gt) = true := rfl
theorem gt_ne : ((some Ordering.gt : Option Ordering) != some .eq) = true := rfl
theorem no_lt : ((none : Option Ordering) == some .lt) = false := rfl
theorem no_eq : ((none : Option Ordering) == some .eq) = false := rfl
theorem no_gt : ((none : Option Ordering) == some .gt) = false := rfl
theorem no_ne : ((none : Option Ordering) != some .eq) = true := rfl
theorem nan_run {x y : Nat} (h : double.sub x y = none) : ∀ t (w : World), ∃ v s, v < double.signWeight ∧ double.infRung < v ∧ (binOp .sub t (.float .f64 x) (.float .f64 y)).run Tryz.prog w = .ok (.float .f64 (double.word s v)) w.drew := by
  intro t w
  have h' : FloatKind.f64.format.sub x y = none := h
  obtain ⟨q, hq⟩ : ∃ q, q = w.tape w.drawn (Question.nanBits .f64 x y) := ⟨_, rfl⟩
  have hw : double.signWeight = 9223372036854775808 := by decide
  have hi : double.infRung = 9218868437227405312 := by decide
  refine ⟨9218868437227405312 + 1 + (q / 2) % 4503599627370495, decide (q % 2 = 1), by rw [hw]; omega, by rw [hi]; omega, ?_⟩
  simp only [binOp, Op.floatArith, h']
  simp [Question.forced, ← hq, Question.cut, Ieee.Format.word, hw]
  split <;> omega
theorem sub_run {x y r : Nat} (h : double.sub x y = some r) : ∀ t (w : World), (binOp .sub t (.float .f64 x) (.float .f64 y)).run Tryz.prog w = .ok (.float .f64 r) w :=
  fun t w => run_float_arith w .sub t .f64 x y r h
theorem fin_yes (s : Bool) (n : Nat) (w : World) (h : n < double.infRung) :
    Calls Tryz.prog 68 #[.float .f64 (double.word s n)] w fun e w' => e = .returned (.bool true) ∧ w = w' := by
  have h1 := sub_run (Rung.sub_self (f := double) (s := s) h)
  have h2 := (Ord.of (k := .f64) (x := 0) (y := 0) (o := some .eq) (by decide)).eq
  rw [eq_eq] at h2
  go_enter Tryz.func68, Tryz.ntmps68
  go_wp2_with (simp only [h1])
  go_ret
  exact ⟨rfl, rfl⟩
theorem fin_no (s : Bool) (n : Nat) (w : World) (h : double.infRung ≤ n) (h' : n < double.signWeight) :
    Calls Tryz.prog 68 #[.float .f64 (double.word s n)] w fun e w' => e = .returned (.bool false) ∧ w' = w.drewN 1 := by
  have h0 : double.sub (double.word s n) (double.word s n) = none := by
    rcases Nat.lt_or_ge double.infRung n with hlt | hge
    · exact Rung.sub_nan Rung.dbl_bin hlt h'
    · obtain rfl : n = double.infRung := by omega
      exact Rung.sub_inf Rung.dbl_bin
  have h1 := nan_run h0
  obtain ⟨v, r, hv1, hv2, hrun⟩ := h1 23 w
  have h2 := (Ord.of (k := .f64) (x := double.word r v) (y := 0) (o := none) (Rung.order_nan_l Rung.dbl_bin hv2 hv1)).eq
  rw [no_eq] at h2
  clear h1
  go_enter Tryz.func68, Tryz.ntmps68
  go_wp2_with (simp only [hrun])
  go_ret
  exact ⟨rfl, rfl⟩
theorem cmp_lt {a b : Int} (h : a < b) : compare a b = .lt := by simp only [compare, compareOfLessAndEq, if_pos h]
theorem cmp_eq {a b : Int} (h : a = b) : compare a b = .eq := by subst h; simp [compare, compareOfLessAndEq]
theorem cmp_gt {a b : Int} (h : b < a) : compare a b = .gt := by simp only [compare, compareOfLessAndEq]; rw [if_neg (by omega), if_neg (by omega)]
theorem zero_inf : (0 : Nat) < double.infRung := by decide
/-- Two finite floats, by their numbers with signs. -/
theorem ord_sgn {s t : Bool} {n m : Nat} (hn : n < double.infRung) (hm : m < double.infRung) {o : Ordering} (h : compare (Rung.sgn s n) (Rung.sgn t m) = o) : Ord .f64 (double.word s n) (double.word t m) (some o) :=
  Ord.of (by rw [show FloatKind.f64.format = double from rfl, Rung.order_word hn hm, h])
theorem ord_zero {s : Bool} {n : Nat} (hn : n < double.infRung) {o : Ordering} (h : compare (Rung.sgn s n) 0 = o) : Ord .f64 (double.word s n) 0 (some o) := ord_sgn (t := false) (m := 0) hn zero_inf h
theorem below_w (s : Bool) (n : Nat) (w : World) (h : n < double.infRung) :
    Calls Tryz.prog 73 #[.float .f64 (double.word s n)] w fun e w' => e = .returned (.bool s) ∧ w = w' := by
  by_cases h0 : n = 0
  · subst h0
    have h1 := (ord_zero (s := s) zero_inf (cmp_eq (by cases s <;> rfl))).lt
    have h2 := (ord_zero (s := s) zero_inf (cmp_eq (by cases s <;> rfl))).eq
    have h3 := fun (t : TypeId) (w : World) => run_float_arith (P := Tryz.prog) w .quo t .f64 4607182418800017408 (double.word s 0) _ (Rung.one_div s)
    have h4 := (Ord.of (k := .f64) (x := double.word s double.infRung) (y := 0) (Rung.order_inf_l (t := false) (n := 0) Rung.dbl_bin zero_inf)).lt
    rw [eq_lt] at h1
    rw [eq_eq] at h2
    cases s
    · simp only [Bool.false_eq_true, if_false, gt_lt] at h4
      go_enter Tryz.func73, Tryz.ntmps73
      go_wp2_with (simp only [h3])
      go_ret
      exact ⟨rfl, rfl⟩
    · simp only [if_true, lt_lt] at h4
      go_enter Tryz.func73, Tryz.ntmps73
      go_wp2_with (simp only [h3])
      go_ret
      exact ⟨rfl, rfl⟩
  · cases s
    · have h1 := (ord_zero (s := false) h (cmp_gt (by unfold Rung.sgn; simp; omega))).lt
      have h2 := (ord_zero (s := false) h (cmp_gt (by unfold Rung.sgn; simp; omega))).eq
      rw [gt_lt] at h1
      rw [gt_eq] at h2
      go_enter Tryz.func73, Tryz.ntmps73
      go_wp2_with fail
      go_ret
      exact ⟨rfl, rfl⟩
    · have h1 := (ord_zero (s := true) h (cmp_lt (by unfold Rung.sgn; simp; omega))).lt
      rw [lt_lt] at h1
      go_enter Tryz.func73, Tryz.ntmps73
      go_wp2_with fail
      go_ret
      exact ⟨rfl, rfl⟩
end Go.Proofs.YtabmalnandbocaaGreatDoor.Num
namespace Go.Proofs.YtabmalnandbocaaGreatDoor.Num
set_option exponentiation.threshold 3000
set_option linter.unusedVariables false
set_option linter.unusedSimpArgs false
set_option exponentiation.threshold 3000
open Go.RowKit Go.Proofs.YtabmalnandbocaaGreatDoor.Mem Go.Proofs.YtabmalnandbocaaGreatDoor.Own Go.Proofs.YtabmalnandbocaaGreatDoor.Big
open Ieee (double single)

def LongPost (w : World) (e : Ending) (w' : World) : Prop := e = .returned (.agg #[.int .i64 52, .int .i64 (-1074), .int .u64 9218868437227405312]) ∧ Below w.heap.size w w'
def ShortPost (w : World) (e : Ending) (w' : World) : Prop := e = .returned (.agg #[.int .i64 23, .int .i64 (-149), .int .u64 2139095040]) ∧ Below w.heap.size w w'
theorem long_w (w : World) : Calls Tryz.prog 70 #[] w (LongPost w) := by
  go_enter Tryz.func70, Tryz.ntmps70
  go_wp2_with fail
  exact bodyPost_ret (v := .agg #[.int .i64 52, .int .i64 (-1074), .int .u64 9218868437227405312]) (by simp [results, Tryz.results70, go_sem]) rfl ⟨rfl, (Below.refl _ w).alloc (Nat.le_refl _) _⟩
theorem mant_53 (n : Nat) : Rung.mant 52 n < 9007199254740992 := Nat.lt_of_lt_of_le (Rung.mant_lt 52 n) (by decide)
theorem inf_num : double.infRung = 9218868437227405312 := by decide
theorem expo_52 {n : Nat} (h : n < double.infRung) : Rung.expo 52 n ≤ 2045 := by
  rw [inf_num] at h
  unfold Rung.expo
  omega
theorem float_any (neg : Bool) (n : Nat) (v : Int) (w : World) (hn : n < double.infRung) (hv : v = -1074 + (Rung.expo 52 n : Nat)) :
    Calls Tryz.prog 105 #[.bool neg, .int .u64 (Rung.mant 52 n : Nat), .int .i64 v] w (FPost w (double.word neg n)) := by
  have hx := expo_52 hn
  by_cases h : 1074 ≤ Rung.expo 52 n
  · obtain ⟨e, he⟩ : ∃ e, Rung.expo 52 n = 1074 + e := ⟨Rung.expo 52 n - 1074, by omega⟩
    obtain rfl : v = (e : Nat) := by omega
    exact float_up neg _ e n w (mant_53 n) hn (by unfold Rung.W; rw [he]) (by omega)
  · obtain ⟨e, he⟩ : ∃ e, Rung.expo 52 n + e = 1074 := ⟨1074 - Rung.expo 52 n, by omega⟩
    obtain rfl : v = -(e : Nat) := by omega
    exact float_down neg _ e n w (mant_53 n) hn (by omega) (by omega) (by unfold Rung.W; rw [show 1074 - e = Rung.expo 52 n by omega])
def FbPost (w : World) (x : Nat) (e : Ending) (w' : World) : Prop := e = .returned (.float .f64 x) ∧ Below w.heap.size w w'
theorem float_w (neg : Bool) (n : Nat) (w : World) (hn : n < double.infRung) :
    Calls Tryz.prog 75 #[.bool neg, .int .u64 (n : Nat)] w (FbPost w (double.word neg n)) := by
  have hn' := hn
  rw [inf_num] at hn'
  go_enter Tryz.func75, Tryz.ntmps75
  go_wp2_with fail
  refine (long_w w).mono ?_
  rintro e w1 ⟨rfl, b1⟩
  have B1 := Lib.hid b1
  clear b1
  go_wp2_with fail
  refine (at_52 9218868437227405312 n w1 (by omega)).mono ?_
  rintro e w2 ⟨rfl, b2⟩
  have B2 := Lib.hid (bthen B1.out b2)
  clear b2
  go_wp2_with fail
  refine (float_any neg n _ w2 hn (by first | rfl | simp)).mono ?_
  rintro e w3 ⟨rfl, rfl⟩
  go_wp2_with fail
  go_ret
  exact ⟨rfl, B2.out⟩
def U64Below (w : World) (x : Nat) (e : Ending) (w' : World) : Prop := e = .returned (.int .u64 (x : Nat)) ∧ Below w.heap.size w w'
theorem ord_mid {s : Bool} {n mid : Nat} (hn : n < double.infRung) (hm : mid < double.infRung) (hs : s = false ∨ n = 0) : (FloatKind.f64.format.order (double.word false mid) (double.word s n) == some .lt || FloatKind.f64.format.order (double.word false mid) (double.word s n) == some .eq) = decide (mid ≤ n) := by
  have e1 : Rung.sgn s n = (n : Int) := by
    rcases hs with rfl | rfl
    · rfl
    · cases s <;> rfl
  rw [show FloatKind.f64.format = double from rfl, Rung.order_word hm hn, e1]
  rcases Nat.lt_trichotomy mid n with h | h | h
  · rw [cmp_lt (by unfold Rung.sgn; simp; omega), decide_eq_true (by omega)]; rfl
  · rw [cmp_eq (by unfold Rung.sgn; simp; omega), decide_eq_true (by omega)]; rfl
  · rw [cmp_gt (by unfold Rung.sgn; simp; omega), decide_eq_false (by omega)]; rfl
theorem over_field (w : World) : (Instr.field 104 (.agg #[.int .i64 52, .int .i64 (-1074), .int .u64 9218868437227405312]) 2).run Tryz.prog w = .ok (.int .u64 9218868437227405312) w := by kernel_rfl
theorem over_field_23 (w : World) : (Instr.field 104 (.agg #[.int .i64 23, .int .i64 (-149), .int .u64 2139095040]) 2).run Tryz.prog w = .ok (.int .u64 2139095040) w := by kernel_rfl
set_option maxHeartbeats 4000000 in
set_option maxRecDepth 100000 in
theorem numb_w (s : Bool) (n : Nat) (w : World) (hn : n < double.infRung) :
    Calls Tryz.prog 71 #[.float .f64 (double.word s n)] w (U64Below w n) := by
  have hn' := hn
  rw [inf_num] at hn'
  by_cases hlt : s = true ∧ n ≠ 0
  · obtain ⟨rfl, h0⟩ := hlt
    have HO := Lib.hid (fun mid (hm : mid < double.infRung) => ord_mid (s := false) hn hm (.inl rfl))
    have h1 := (ord_zero (s := true) hn (cmp_lt (by unfold Rung.sgn; simp; omega))).lt
    rw [lt_lt] at h1
    have hng := neg_run (s := true) hn
    go_enter Tryz.func71, Tryz.ntmps71
    go_wp2_with (simp only [hng])
    refine (long_w w).mono ?_
    rintro e w1 ⟨rfl, b1⟩
    have B1 := Lib.hid b1
    clear b1
    go_wp2_with (simp only [over_field])
    go_loopw [3, 4] (fun lo hi wl => ∃ low high : Nat, lo = .int .u64 (low : Nat) ∧ hi = .int .u64 (high : Nat) ∧ low ≤ n ∧ n < high ∧ high ≤ 9218868437227405312 ∧ Below w.heap.size w wl) (fun lo hi _ => (intOf hi - intOf lo).toNat)
    case atStart => exact ⟨0, 9218868437227405312, rfl, rfl, Nat.zero_le _, hn', Nat.le_refl _, B1.out⟩
    case round =>
      obtain ⟨low, high, rfl, rfl, hlo, hhi, hho, hbel⟩ := hrel
      have HB := Lib.hid hbel
      clear hbel
      by_cases hgo : low + 1 < high
      · obtain ⟨mid, hmid⟩ : ∃ mid : Nat, mid = low + (high - low) / 2 := ⟨_, rfl⟩
        have hm1 : (low : Int) + ((high : Int) - (low : Int)) / 2 = (mid : Int) := by omega
        have hml : low < mid := by omega
        have hmh : mid < high := by omega
        have t3 : decide ((1 : Int) < (high : Int) - (low : Int)) = true := by simp; omega
        have hmi : mid < double.infRung := by rw [inf_num]; omega
        have ho := HO.out mid hmi
        clear hmid
        by_cases hle : mid ≤ n
        · rw [decide_eq_true hle] at ho
          go_wp2_with fail
          refine (float_w false mid wr hmi).mono ?_
          rintro e w2 ⟨rfl, b2⟩
          have B2 := Lib.hid (bthen HB.out b2)
          clear b2
          go_wp2_with fail
          go_roundw
          case rel => exact ⟨mid, high, rfl, rfl, hle, hhi, hho, B2.out⟩
          case measure => simp [intOf]; omega
        · rw [decide_eq_false hle] at ho
          go_wp2_with fail
          refine (float_w false mid wr hmi).mono ?_
          rintro e w2 ⟨rfl, b2⟩
          have B2 := Lib.hid (bthen HB.out b2)
          clear b2
          go_wp2_with fail
          go_roundw
          case rel => exact ⟨low, mid, rfl, rfl, hlo, by omega, by omega, B2.out⟩
          case measure => simp [intOf]; omega
      · have t3 : decide ((1 : Int) < (high : Int) - (low : Int)) = false := by simp; omega
        obtain rfl : low = n := by omega
        go_wp2_with fail
        go_ret
        exact ⟨rfl, HB.out⟩
  · have hs : s = false ∨ n = 0 := by
      cases s
      · exact .inl rfl
      · right; simpa using hlt
    have HO := Lib.hid (fun mid (hm : mid < double.infRung) => ord_mid (s := s) hn hm hs)
    have h1 : (FloatKind.f64.format.order (double.word s n) 0 == some .lt) = false := by
      rcases Nat.eq_zero_or_pos n with rfl | hp
      · exact (ord_zero (s := s) hn (cmp_eq (by cases s <;> rfl))).lt
      · obtain rfl : s = false := hs.resolve_right (by omega)
        exact (ord_zero (s := false) hn (cmp_gt (by unfold Rung.sgn; simp; omega))).lt
    clear hs hlt
    go_enter Tryz.func71, Tryz.ntmps71
    go_wp2_with fail
    refine (long_w w).mono ?_
    rintro e w1 ⟨rfl, b1⟩
    have B1 := Lib.hid b1
    clear b1
    go_wp2_with (simp only [over_field])
    go_loopw [3, 4] (fun lo hi wl => ∃ low high : Nat, lo = .int .u64 (low : Nat) ∧ hi = .int .u64 (high : Nat) ∧ low ≤ n ∧ n < high ∧ high ≤ 9218868437227405312 ∧ Below w.heap.size w wl) (fun lo hi _ => (intOf hi - intOf lo).toNat)
    case atStart => exact ⟨0, 9218868437227405312, rfl, rfl, Nat.zero_le _, hn', Nat.le_refl _, B1.out⟩
    case round =>
      obtain ⟨low, high, rfl, rfl, hlo, hhi, hho, hbel⟩ := hrel
      have HB := Lib.hid hbel
      clear hbel
      by_cases hgo : low + 1 < high
      · obtain ⟨mid, hmid⟩ : ∃ mid : Nat, mid = low + (high - low) / 2 := ⟨_, rfl⟩
        have hm1 : (low : Int) + ((high : Int) - (low : Int)) / 2 = (mid : Int) := by omega
        have hml : low < mid := by omega
        have hmh : mid < high := by omega
        have t3 : decide ((1 : Int) < (high : Int) - (low : Int)) = true := by simp; omega
        have hmi : mid < double.infRung := by rw [inf_num]; omega
        have ho := HO.out mid hmi
        clear hmid
        by_cases hle : mid ≤ n
        · rw [decide_eq_true hle] at ho
          go_wp2_with fail
          refine (float_w false mid wr hmi).mono ?_
          rintro e w2 ⟨rfl, b2⟩
          have B2 := Lib.hid (bthen HB.out b2)
          clear b2
          go_wp2_with fail
          go_roundw
          case rel => exact ⟨mid, high, rfl, rfl, hle, hhi, hho, B2.out⟩
          case measure => simp [intOf]; omega
        · rw [decide_eq_false hle] at ho
          go_wp2_with fail
          refine (float_w false mid wr hmi).mono ?_
          rintro e w2 ⟨rfl, b2⟩
          have B2 := Lib.hid (bthen HB.out b2)
          clear b2
          go_wp2_with fail
          go_roundw
          case rel => exact ⟨low, mid, rfl, rfl, hlo, by omega, by omega, B2.out⟩
          case measure => simp [intOf]; omega
      · have t3 : decide ((1 : Int) < (high : Int) - (low : Int)) = false := by simp; omega
        obtain rfl : low = n := by omega
        go_wp2_with fail
        go_ret
        exact ⟨rfl, HB.out⟩
end Go.Proofs.YtabmalnandbocaaGreatDoor.Num
namespace Go.Proofs.YtabmalnandbocaaGreatDoor.Num
set_option exponentiation.threshold 3000
set_option linter.unusedVariables false
set_option linter.unusedSimpArgs false
open Go.RowKit Go.Proofs.YtabmalnandbocaaGreatDoor.Mem Go.Proofs.YtabmalnandbocaaGreatDoor.Own Go.Proofs.YtabmalnandbocaaGreatDoor.Big
open Ieee (double single)

theorem bits_run (x : Nat) (w : World) : (callFunc 18 #[.float .f64 x]).run Tryz.prog w = .ok (.value (.int .u64 (x : Nat))) w := by
  rw [run_callFunc_extern Tryz.func18 (by kernel_rfl) (by kernel_rfl) (by kernel_rfl) (e := Extern.MathFloatBits.float64bits) (by kernel_rfl)]
  rfl
theorem and_shift (x m k : Nat) : x &&& (m * 2 ^ k) = (x / 2 ^ k &&& m) * 2 ^ k := by
  rw [← Nat.shiftLeft_eq, ← Nat.shiftLeft_eq, ← Nat.shiftRight_eq_div_pow]
  apply Nat.eq_of_testBit_eq
  intro i
  simp only [Nat.testBit_and, Nat.testBit_shiftLeft, Nat.testBit_shiftRight]
  by_cases h : k ≤ i
  · simp [h, Nat.add_sub_cancel' h]
  · simp [h]
theorem and_over {x : Nat} (h : x < 18446744073709551616) : bits .and .u64 (x : Int) 9218868437227405312 = ((x / 4503599627370496 % 2048 * 4503599627370496 : Nat) : Int) - (if x / 4503599627370496 % 2048 ≥ 2048 then 1 else 0) := by
  have h1 := (bits_nat .u64 64 (by decide) (fun n a b => wraps_u64 n a b) x 9218868437227405312 (by omega) (by omega)).1
  rw [if_neg (by omega)]
  have h2 : x &&& 9218868437227405312 = (x / 4503599627370496 &&& 2047) * 4503599627370496 := and_shift x 2047 52
  have h3 : x / 4503599627370496 &&& 2047 = x / 4503599627370496 % 2048 := Nat.and_two_pow_sub_one_eq_mod _ 11
  rw [h2, h3] at h1
  rw [Int.sub_zero]
  exact h1
theorem andnot_sign {x : Nat} (h : x < 18446744073709551616) : bits .andNot .u64 (x : Int) 9223372036854775808 = ((x % 9223372036854775808 : Nat) : Int) := by
  have h1 := u64_andNot_nat x 9223372036854775808 h (by omega)
  rw [show 18446744073709551615 - 9223372036854775808 = 2 ^ 63 - 1 from rfl, Nat.and_two_pow_sub_one_eq_mod] at h1
  exact h1
theorem mant_bits {n : Nat} (h : n < 9223372036854775808) (hlo : ¬ n < 4503599627370496) : bits .or .u64 (bits .and .u64 (n : Int) 4503599627370495) 4503599627370496 = ((Rung.mant 52 n : Nat) : Int) := by
  have h1 := (bits_nat .u64 64 (by decide) (fun n a b => wraps_u64 n a b) n 4503599627370495 (by omega) (by omega)).1
  rw [show n &&& 4503599627370495 = n % 4503599627370496 from Nat.and_two_pow_sub_one_eq_mod _ 52] at h1
  have h1' : bits .and .u64 (n : Int) 4503599627370495 = ((n % 4503599627370496 : Nat) : Int) := h1
  rw [h1']
  have h2 := (bits_nat .u64 64 (by decide) (fun n a b => wraps_u64 n a b) (n % 4503599627370496) 4503599627370496 (by omega) (by omega)).2
  have h3 : (n % 4503599627370496) ||| 4503599627370496 = 4503599627370496 + n % 4503599627370496 := by
    rw [Nat.or_comm]
    have := Nat.two_pow_add_eq_or_of_lt (i := 52) (b := n % 4503599627370496) (by omega) 1
    rw [Nat.mul_one] at this
    exact this.symm
  rw [h3] at h2
  refine h2.trans ?_
  unfold Rung.mant
  rw [if_neg hlo]
theorem parts_w (n : Nat) (w : World) (h : n < double.infRung) :
    Calls Tryz.prog 50 #[.int .u64 (n : Nat)] w fun e w' => e = .returned (.tuple #[.int .i64 (Rung.mant 52 n : Nat), .int .i64 (-1074 + (Rung.expo 52 n : Nat))]) ∧ w = w' := by
  have hm := mant_53 n
  rw [inf_num] at h
  by_cases hlo : n < 4503599627370496
  · obtain ⟨h1, h2⟩ := Rung.parts_low (b := 52) (q := n) hlo
    have t1 : ((n : Int) / 4503599627370496 == 0) = true := by rw [beq_iff_eq]; omega
    rw [h1, h2]
    clear h1 h2 hm
    go_enter Tryz.func50, Tryz.ntmps50
    go_wp2_with fail
    go_ret2
    exact ⟨rfl, rfl⟩
  · have t1 : ((n : Int) / 4503599627370496 == 0) = false := by rw [beq_eq_false_iff_ne]; omega
    have hb := mant_bits (by omega) hlo
    have HX := Lib.hid (show -1074 + (n : Int) / 4503599627370496 - 1 = -1074 + ((Rung.expo 52 n : Nat) : Int) by unfold Rung.expo; omega)
    generalize Rung.mant 52 n = q at *
    generalize Rung.expo 52 n = x at *
    go_enter Tryz.func50, Tryz.ntmps50
    go_wp2_with fail
    go_ret2
    exact ⟨by rw [HX.out]; rfl, rfl⟩
set_option maxRecDepth 100000 in
theorem split_w (s : Bool) (n : Nat) (w : World) (h : n < double.infRung) :
    Calls Tryz.prog 49 #[.float .f64 (double.word s n)] w fun e w' => e = .returned (.tuple #[.bool s, .int .u64 (n : Nat), .bool true]) ∧ w = w' := by
  have hb := bits_run
  rw [inf_num] at h
  have hx : double.word s n = (if s then 9223372036854775808 + n else n) := rfl
  have h1 := and_over (x := double.word s n) (by rw [hx]; split <;> omega)
  have h2 := andnot_sign (x := double.word s n) (by rw [hx]; split <;> omega)
  have h3 : ((double.word s n : Nat) : Int) / 9223372036854775808 = if s then 1 else 0 := by rw [hx]; split <;> omega
  have h4 : double.word s n % 9223372036854775808 = n := by rw [hx]; split <;> omega
  have h5 : double.word s n / 4503599627370496 % 2048 * 4503599627370496 ≠ 9218868437227405312 := by rw [hx]; split <;> omega
  rw [h4] at h2
  rw [if_neg (by omega), Int.sub_zero] at h1
  have h6 : (bits .and .u64 ((double.word s n : Nat) : Int) 9218868437227405312 != 9218868437227405312) = true := by rw [h1, bne_iff_ne]; omega
  have h7 : (((double.word s n : Nat) : Int) / 9223372036854775808 == 1) = s := by rw [h3]; cases s <;> rfl
  clear h1 h3 h4 h5 hx
  go_enter Tryz.func49, Tryz.ntmps49
  go_wp2_with fail
  go_ret3
  exact ⟨rfl, rfl⟩
theorem split_no (s : Bool) (n : Nat) (w : World) (h : double.infRung ≤ n) (h' : n < double.signWeight) :
    Calls Tryz.prog 49 #[.float .f64 (double.word s n)] w fun e w' => e = .returned (.tuple #[.bool s, .int .u64 (n : Nat), .bool false]) ∧ w = w' := by
  have hb := bits_run
  rw [inf_num] at h
  rw [show double.signWeight = 9223372036854775808 by decide] at h'
  have hx : double.word s n = (if s then 9223372036854775808 + n else n) := rfl
  have h1 := and_over (x := double.word s n) (by rw [hx]; split <;> omega)
  have h2 := andnot_sign (x := double.word s n) (by rw [hx]; split <;> omega)
  have h3 : ((double.word s n : Nat) : Int) / 9223372036854775808 = if s then 1 else 0 := by rw [hx]; split <;> omega
  have h4 : double.word s n % 9223372036854775808 = n := by rw [hx]; split <;> omega
  have h5 : double.word s n / 4503599627370496 % 2048 * 4503599627370496 = 9218868437227405312 := by rw [hx]; split <;> omega
  rw [h4] at h2
  rw [if_neg (by omega), Int.sub_zero, h5] at h1
  have h6 : (bits .and .u64 ((double.word s n : Nat) : Int) 9218868437227405312 != 9218868437227405312) = false := by rw [h1]; rfl
  have h7 : (((double.word s n : Nat) : Int) / 9223372036854775808 == 1) = s := by rw [h3]; cases s <;> rfl
  clear h1 h3 h4 h5 hx
  go_enter Tryz.func49, Tryz.ntmps49
  go_wp2_with fail
  go_ret3
  exact ⟨rfl, rfl⟩
/-- A whole number by a power of two as a whole number by a power of ten. -/
def xN (m : Nat) (e : Int) : Nat := if 0 ≤ e then m * 2 ^ e.toNat else m * 5 ^ (-e).toNat
def xE (e : Int) : Int := if 0 ≤ e then 0 else e
theorem xN_lt {m : Nat} {e : Int} (hm : m < 100000000000000000000) : ∃ k : Nat, (k : Int) = (if 0 ≤ e then e else -e) ∧ xN m e < 10 ^ (20 + k) := by
  unfold xN
  by_cases h : 0 ≤ e
  · refine ⟨e.toNat, by rw [if_pos h]; omega, ?_⟩
    rw [if_pos h, Nat.pow_add]
    exact Nat.lt_of_lt_of_le (Nat.mul_lt_mul_of_pos_right hm (Nat.pow_pos (by decide))) (Nat.mul_le_mul_left _ (Nat.pow_le_pow_left (by decide) _))
  · refine ⟨(-e).toNat, by rw [if_neg h]; omega, ?_⟩
    rw [if_neg h, Nat.pow_add]
    exact Nat.lt_of_lt_of_le (Nat.mul_lt_mul_of_pos_right hm (Nat.pow_pos (by decide))) (Nat.mul_le_mul_left _ (Nat.pow_le_pow_left (by decide) _))
theorem xN_len {m : Nat} {e : Int} (hm : m < 100000000000000000000) (h1 : -2000 ≤ e) (h2 : e ≤ 2000) : (digs B (xN m e)).length < 90000 ∧ (digs 10 (xN m e)).length < 90000 := by
  obtain ⟨k, hk, hlt⟩ := xN_lt (e := e) hm
  have hk2 : k ≤ 2000 := by split at hk <;> omega
  have a1 : (digs 10 (xN m e)).length ≤ 20 + k := digs_len_le (b := 10) (by decide) hlt
  have a2 : (digs B (xN m e)).length ≤ 20 + k := digs_len_le hB (Nat.lt_of_lt_of_le hlt (Nat.pow_le_pow_left (by rw [B_eq]; decide) _))
  omega
theorem tlw_x (neg : Bool) (m : Nat) (z : Int) (e : Int) (w : World) (hz : z = (m : Nat)) (hm : m < 9223372036854775808) (he1 : -2000 ≤ e) (he2 : e ≤ 2000) :
    Calls Tryz.prog 51 #[.bool neg, .int .i64 z, .int .i64 e] w (TolPost w neg (xN m e) (xE e)) := by
  subst hz
  obtain ⟨h1, h2⟩ := xN_len (m := m) (e := e) (by omega) he1 he2
  exact tlw_w neg m e (xE e) (xN m e) w hm he1 he2 (fun h => ⟨if_pos h, if_pos h⟩) (fun h => ⟨if_neg (by omega), if_neg (by omega)⟩) h1 h2
theorem tol_x (neg : Bool) (m : Nat) (z : Int) (e : Int) (w : World) (hz : z = (m : Nat)) (hm : m < 18446744073709551616) (he1 : -2000 ≤ e) (he2 : e ≤ 2000) :
    Calls Tryz.prog 72 #[.bool neg, .int .u64 z, .int .i64 e] w (TolPost w neg (xN m e) (xE e)) := by
  subst hz
  exact tol_w neg m e (xE e) (xN m e) w hm (by omega) (by omega) (fun h => ⟨if_pos h, if_pos h⟩) (fun h => ⟨if_neg (by omega), if_neg (by omega)⟩)
def ExPost (w : World) (neg : Bool) (m : Nat) (e : Int) (en : Ending) (w' : World) : Prop := en = .returned (.tuple #[decV neg (tl (xN m e)) (te (xN m e) (xE e)), .int .i64 0]) ∧ Below w.heap.size w w'
def NoPost (w : World) (en : Ending) (w' : World) : Prop := en = .returned (.tuple #[decV false [] 0, .int .i64 130]) ∧ Below w.heap.size w w'
set_option maxHeartbeats 4000000 in
set_option maxRecDepth 100000 in
theorem exact_yes (s : Bool) (n : Nat) (w : World) (hn : n < double.infRung) :
    Calls Tryz.prog 24 #[.float .f64 (double.word s n)] w (ExPost w s (Rung.mant 52 n) (-1074 + (Rung.expo 52 n : Nat))) := by
  have hb0 := Blk.new w 32 #[.bool false, .string ⟨#[]⟩, .int .i64 0]
  have HB0 := Lib.hid hb0
  have HSP := Lib.hid (fun W => split_w s n W hn)
  have HPT := Lib.hid (fun W => parts_w n W hn)
  have hx := expo_52 hn
  have hm := mant_53 n
  have HT := Lib.hid (fun W => tlw_x s (Rung.mant 52 n) _ (-1074 + (Rung.expo 52 n : Nat)) W rfl (by omega) (by omega) (by omega))
  generalize Rung.mant 52 n = q at *
  generalize Rung.expo 52 n = x at *
  clear hb0
  go_enter Tryz.func24, Tryz.ntmps24
  go_wp2_with fail
  refine (HSP.out _).mono ?_
  rintro en w1 ⟨rfl, hw1⟩
  subst hw1
  go_wp2_with fail
  refine (HPT.out _).mono ?_
  rintro en w2 ⟨rfl, hw2⟩
  subst hw2
  go_wp2_with fail
  refine (HT.out _).mono ?_
  rintro en w3 ⟨rfl, b3⟩
  have HB9 := HB0
  have B9 := Lib.hid ((Below.refl _ w).alloc (Nat.le_refl _) (.cells #[.bool false, .string ⟨#[]⟩, .int .i64 0] 32))
  have HR := Lib.hid (HB9.out.below b3 HB9.out.lt)
  have B3 := Lib.hid (bthen B9.out b3)
  have r0 := HR.out.cell 0
  have r1 := HR.out.cell 1
  have r2 := HR.out.cell 2
  simp at r0 r1 r2
  have fr0 := HR.out.frozen 0
  have fr1 := HR.out.frozen 1
  have fr2 := HR.out.frozen 2
  unfold decV
  generalize hY : (tl (xN q (-1074 + (x : Int)))) = l
  generalize hZ : te (xN q (-1074 + (x : Int))) (xE (-1074 + (x : Int))) = ex
  have HY := Lib.hid hY
  have HZ := Lib.hid hZ
  clear b3 hY hZ
  go_wp2_with fail
  have hk3 := ((HR.out.set_ 0 (.bool s)).set_ 1 (.string ⟨l.toArray⟩)).set_ 2 (.int .i64 ex)
  have hbf := ((B3.out.setCell (p := ⟨w.heap.size, 0, none⟩) (Nat.le_refl _) (.bool s)).setCell (p := ⟨w.heap.size, 1, none⟩) (Nat.le_refl _) (.string ⟨l.toArray⟩)).setCell (p := ⟨w.heap.size, 2, none⟩) (Nat.le_refl _) (.int .i64 ex)
  generalize ((World.setCell _ _ _).setCell _ _).setCell _ _ = Wf at hk3 hbf ⊢
  have q0 : Wf.cell? ⟨w.heap.size, 0, none⟩ = some (.bool s) := hk3.cell 0
  have q1 : Wf.cell? ⟨w.heap.size, 1, none⟩ = some (.string ⟨l.toArray⟩) := hk3.cell 1
  have q2 : Wf.cell? ⟨w.heap.size, 2, none⟩ = some (.int .i64 ex) := hk3.cell 2
  refine bodyPost_ret (v := .tuple #[decV s l ex, .int .i64 0]) (by simp [results, Tryz.results24, go_sem, q0, q1, q2]) rfl ⟨?_, hbf⟩
  rw [HY.out, HZ.out]
set_option maxHeartbeats 4000000 in
set_option maxRecDepth 100000 in
theorem exact_no (s : Bool) (n : Nat) (w : World) (h : double.infRung ≤ n) (h' : n < double.signWeight) :
    Calls Tryz.prog 24 #[.float .f64 (double.word s n)] w (NoPost w) := by
  have hb0 := Blk.new w 32 #[.bool false, .string ⟨#[]⟩, .int .i64 0]
  have HB0 := Lib.hid hb0
  have HSP := Lib.hid (fun W => split_no s n W h h')
  clear hb0
  go_enter Tryz.func24, Tryz.ntmps24
  go_wp2_with fail
  refine (HSP.out _).mono ?_
  rintro en w1 ⟨rfl, hw1⟩
  subst hw1
  have HR := HB0
  have B3 := Lib.hid ((Below.refl _ w).alloc (Nat.le_refl _) (.cells #[.bool false, .string ⟨#[]⟩, .int .i64 0] 32))
  have r0 := HR.out.cell 0
  have r1 := HR.out.cell 1
  have r2 := HR.out.cell 2
  simp at r0 r1 r2
  have fr0 := HR.out.frozen 0
  have fr1 := HR.out.frozen 1
  have fr2 := HR.out.frozen 2
  go_wp2_with fail
  exact bodyPost_ret (v := .tuple #[decV false [] 0, .int .i64 130]) (by simp [results, Tryz.results24, go_sem]) rfl ⟨rfl, B3.out⟩
end Go.Proofs.YtabmalnandbocaaGreatDoor.Num
namespace Go.Proofs.YtabmalnandbocaaGreatDoor.Num
set_option exponentiation.threshold 3000
set_option linter.unusedVariables false
set_option linter.unusedSimpArgs false
open Go.RowKit Go.Proofs.YtabmalnandbocaaGreatDoor.Mem Go.Proofs.YtabmalnandbocaaGreatDoor.Own Go.Proofs.YtabmalnandbocaaGreatDoor.Big
open Ieee (double single)

set_option maxHeartbeats 4000000 in
set_option maxRecDepth 100000 in
theorem rexact_yes (s : Bool) (n : Nat) (w : World) (hn : n < double.infRung) :
    Calls Tryz.prog 43 #[.float .f64 (double.word s n)] w (ExPost w s (Rung.mant 52 n) (-1074 + (Rung.expo 52 n : Nat))) := by
  have hb0 := Blk.new w 32 #[.bool false, .string ⟨#[]⟩, .int .i64 0]
  have HB0 := Lib.hid hb0
  have B0 := Lib.hid ((Below.refl _ w).alloc (Nat.le_refl _) (.cells #[.bool false, .string ⟨#[]⟩, .int .i64 0] 32))
  have hx := expo_52 hn
  have hm := mant_53 n
  have hnm := hn
  rw [inf_num] at hnm
  have HT := Lib.hid (fun W => tol_x s (Rung.mant 52 n) _ (-1074 + (Rung.expo 52 n : Nat)) W rfl (by omega) (by omega) (by omega))
  clear hb0
  go_enter Tryz.func43, Tryz.ntmps43
  go_wp2_with fail
  refine (fin_yes s n _ hn).mono ?_
  rintro en w1 ⟨rfl, hw1⟩
  subst hw1
  go_wp2_with fail
  refine (long_w _).mono ?_
  rintro en w5 ⟨rfl, b5⟩
  have B5 := Lib.hid (bthen B0.out b5)
  have HB5 := Lib.hid (HB0.out.below b5 HB0.out.lt)
  clear b5
  go_wp2_with fail
  refine (numb_w s n _ hn).mono ?_
  rintro en w6 ⟨rfl, b6⟩
  have B6 := Lib.hid (bthen B5.out b6)
  have HB6 := Lib.hid (HB5.out.below b6 HB5.out.lt)
  clear b6
  go_wp2_with fail
  refine (at_52 9218868437227405312 n _ (by omega)).mono ?_
  rintro en w7 ⟨rfl, b7⟩
  have B7 := Lib.hid (bthen B6.out b7)
  have HB7 := Lib.hid (HB6.out.below b7 HB6.out.lt)
  clear b7
  generalize Rung.mant 52 n = q at *
  generalize Rung.expo 52 n = x at *
  go_wp2_with fail
  refine (below_w s n _ hn).mono ?_
  rintro en w8 ⟨rfl, hw8⟩
  subst hw8
  go_wp2_with fail
  refine (HT.out _).mono ?_
  rintro en w3 ⟨rfl, b3⟩
  have HB9 := HB7
  have B9 := B7
  have HR := Lib.hid (HB9.out.below b3 HB9.out.lt)
  have B3 := Lib.hid (bthen B9.out b3)
  have r0 := HR.out.cell 0
  have r1 := HR.out.cell 1
  have r2 := HR.out.cell 2
  simp at r0 r1 r2
  have fr0 := HR.out.frozen 0
  have fr1 := HR.out.frozen 1
  have fr2 := HR.out.frozen 2
  unfold decV
  generalize hY : (tl (xN q (-1074 + (x : Int)))) = l
  generalize hZ : te (xN q (-1074 + (x : Int))) (xE (-1074 + (x : Int))) = ex
  have HY := Lib.hid hY
  have HZ := Lib.hid hZ
  clear b3 hY hZ
  go_wp2_with fail
  have hk3 := ((HR.out.set_ 0 (.bool s)).set_ 1 (.string ⟨l.toArray⟩)).set_ 2 (.int .i64 ex)
  have hbf := ((B3.out.setCell (p := ⟨w.heap.size, 0, none⟩) (Nat.le_refl _) (.bool s)).setCell (p := ⟨w.heap.size, 1, none⟩) (Nat.le_refl _) (.string ⟨l.toArray⟩)).setCell (p := ⟨w.heap.size, 2, none⟩) (Nat.le_refl _) (.int .i64 ex)
  generalize ((World.setCell _ _ _).setCell _ _).setCell _ _ = Wf at hk3 hbf ⊢
  have q0 : Wf.cell? ⟨w.heap.size, 0, none⟩ = some (.bool s) := hk3.cell 0
  have q1 : Wf.cell? ⟨w.heap.size, 1, none⟩ = some (.string ⟨l.toArray⟩) := hk3.cell 1
  have q2 : Wf.cell? ⟨w.heap.size, 2, none⟩ = some (.int .i64 ex) := hk3.cell 2
  refine bodyPost_ret (v := .tuple #[decV s l ex, .int .i64 0]) (by simp [results, Tryz.results43, go_sem, q0, q1, q2]) rfl ⟨?_, hbf⟩
  rw [HY.out, HZ.out]
set_option maxHeartbeats 4000000 in
set_option maxRecDepth 100000 in
theorem rexact_no (s : Bool) (n : Nat) (w : World) (h : double.infRung ≤ n) (h' : n < double.signWeight) :
    Calls Tryz.prog 43 #[.float .f64 (double.word s n)] w (NoPost w) := by
  have hb0 := Blk.new w 32 #[.bool false, .string ⟨#[]⟩, .int .i64 0]
  have HB0 := Lib.hid hb0
  have B0 := Lib.hid ((Below.refl _ w).alloc (Nat.le_refl _) (.cells #[.bool false, .string ⟨#[]⟩, .int .i64 0] 32))
  clear hb0
  go_enter Tryz.func43, Tryz.ntmps43
  go_wp2_with fail
  refine (fin_no s n _ h h').mono ?_
  rintro en w1 ⟨rfl, hw1⟩
  subst hw1
  have HR := Lib.hid (HB0.out.drewN 1)
  have B3 := Lib.hid (bdrewN B0.out 1)
  have r0 := HR.out.cell 0
  have r1 := HR.out.cell 1
  have r2 := HR.out.cell 2
  simp at r0 r1 r2
  have fr0 := HR.out.frozen 0
  have fr1 := HR.out.frozen 1
  have fr2 := HR.out.frozen 2
  go_wp2_with fail
  have hk3 := ((HR.out.set_ 0 (.bool false)).set_ 1 (.string ⟨([] : List UInt8).toArray⟩)).set_ 2 (.int .i64 0)
  have hbf := ((B3.out.setCell (p := ⟨w.heap.size, 0, none⟩) (Nat.le_refl _) (.bool false)).setCell (p := ⟨w.heap.size, 1, none⟩) (Nat.le_refl _) (.string ⟨([] : List UInt8).toArray⟩)).setCell (p := ⟨w.heap.size, 2, none⟩) (Nat.le_refl _) (.int .i64 0)
  generalize ((World.setCell _ _ _).setCell _ _).setCell _ _ = Wf at hk3 hbf ⊢
  have q0 : Wf.cell? ⟨w.heap.size, 0, none⟩ = some (.bool false) := hk3.cell 0
  have q1 : Wf.cell? ⟨w.heap.size, 1, none⟩ = some (.string ⟨([] : List UInt8).toArray⟩) := hk3.cell 1
  have q2 : Wf.cell? ⟨w.heap.size, 2, none⟩ = some (.int .i64 0) := hk3.cell 2
  exact bodyPost_ret (v := .tuple #[decV false [] 0, .int .i64 130]) (by simp [results, Tryz.results43, go_sem, q0, q1, q2]) rfl ⟨rfl, hbf⟩
set_option maxHeartbeats 4000000 in
set_option maxRecDepth 100000 in
theorem rbetween_no (s : Bool) (n : Nat) (w : World) (h : double.infRung ≤ n) (h' : n < double.signWeight) :
    Calls Tryz.prog 74 #[.float .f64 (double.word s n)] w (NoPost w) := by
  have hb0 := Blk.new w 32 #[.bool false, .string ⟨#[]⟩, .int .i64 0]
  have HB0 := Lib.hid hb0
  have B0 := Lib.hid ((Below.refl _ w).alloc (Nat.le_refl _) (.cells #[.bool false, .string ⟨#[]⟩, .int .i64 0] 32))
  clear hb0
  go_enter Tryz.func74, Tryz.ntmps74
  go_wp2_with fail
  refine (fin_no s n _ h h').mono ?_
  rintro en w1 ⟨rfl, hw1⟩
  subst hw1
  have HR := Lib.hid (HB0.out.drewN 1)
  have B3 := Lib.hid (bdrewN B0.out 1)
  have r0 := HR.out.cell 0
  have r1 := HR.out.cell 1
  have r2 := HR.out.cell 2
  simp at r0 r1 r2
  have fr0 := HR.out.frozen 0
  have fr1 := HR.out.frozen 1
  have fr2 := HR.out.frozen 2
  go_wp2_with fail
  have hk3 := ((HR.out.set_ 0 (.bool false)).set_ 1 (.string ⟨([] : List UInt8).toArray⟩)).set_ 2 (.int .i64 0)
  have hbf := ((B3.out.setCell (p := ⟨w.heap.size, 0, none⟩) (Nat.le_refl _) (.bool false)).setCell (p := ⟨w.heap.size, 1, none⟩) (Nat.le_refl _) (.string ⟨([] : List UInt8).toArray⟩)).setCell (p := ⟨w.heap.size, 2, none⟩) (Nat.le_refl _) (.int .i64 0)
  generalize ((World.setCell _ _ _).setCell _ _).setCell _ _ = Wf at hk3 hbf ⊢
  have q0 : Wf.cell? ⟨w.heap.size, 0, none⟩ = some (.bool false) := hk3.cell 0
  have q1 : Wf.cell? ⟨w.heap.size, 1, none⟩ = some (.string ⟨([] : List UInt8).toArray⟩) := hk3.cell 1
  have q2 : Wf.cell? ⟨w.heap.size, 2, none⟩ = some (.int .i64 0) := hk3.cell 2
  exact bodyPost_ret (v := .tuple #[decV false [] 0, .int .i64 130]) (by simp [results, Tryz.results74, go_sem, q0, q1, q2]) rfl ⟨rfl, hbf⟩
set_option maxHeartbeats 4000000 in
set_option maxRecDepth 100000 in
theorem rbetween_neg (n : Nat) (w : World) (hn : n < double.infRung) (h0 : 0 < n) :
    Calls Tryz.prog 74 #[.float .f64 (double.word true n)] w (ExPost w true (2 * Rung.mant 52 (n - 1) + 1) (-1074 + (Rung.expo 52 (n - 1) : Nat) - 1)) := by
  have hb0 := Blk.new w 32 #[.bool false, .string ⟨#[]⟩, .int .i64 0]
  have HB0 := Lib.hid hb0
  have B0 := Lib.hid ((Below.refl _ w).alloc (Nat.le_refl _) (.cells #[.bool false, .string ⟨#[]⟩, .int .i64 0] 32))
  have hn2 : (n - 1) < double.infRung := (by omega)
  have hx := expo_52 hn2
  have hm := mant_53 ((n - 1))
  have hnm : n < double.infRung := hn
  rw [inf_num] at hnm
  have HT := Lib.hid (fun W => tol_x true (2 * Rung.mant 52 (n - 1) + 1) (2 * (Rung.mant 52 (n - 1) : Nat) + 1) (-1074 + (Rung.expo 52 (n - 1) : Nat) - 1) W (by omega) (by omega) (by omega) (by omega))
  have o1 := (ord_zero (s := true) (n := n) hn (cmp_lt (by unfold Rung.sgn; simp; omega))).lt
  rw [lt_lt] at o1
  have t2 : (n : Int) - 1 = ((n - 1 : Nat) : Int) := by omega
  clear hb0
  go_enter Tryz.func74, Tryz.ntmps74
  go_wp2_with fail
  refine (fin_yes true n _ hn).mono ?_
  rintro en w1 ⟨rfl, hw1⟩
  subst hw1
  go_wp2_with fail
  refine (numb_w true n _ hn).mono ?_
  rintro en w6 ⟨rfl, b6⟩
  have B6 := Lib.hid (bthen B0.out b6)
  have HB6 := Lib.hid (HB0.out.below b6 HB0.out.lt)
  clear b6
  go_wp2_with fail
  refine (long_w _).mono ?_
  rintro en w5 ⟨rfl, b5⟩
  have B5 := Lib.hid (bthen B6.out b5)
  have HB5 := Lib.hid (HB6.out.below b5 HB6.out.lt)
  clear b5
  go_wp2_with fail
  refine (at_52 9218868437227405312 (n - 1) _ (by omega)).mono ?_
  rintro en w7 ⟨rfl, b7⟩
  have B7 := Lib.hid (bthen B5.out b7)
  have HB7 := Lib.hid (HB5.out.below b7 HB5.out.lt)
  clear b7
  generalize Rung.mant 52 (n - 1) = q at *
  generalize Rung.expo 52 (n - 1) = x at *
  go_wp2_with fail
  refine (HT.out _).mono ?_
  rintro en w3 ⟨rfl, b3⟩
  have HB9 := HB7
  have B9 := B7
  have HR := Lib.hid (HB9.out.below b3 HB9.out.lt)
  have B3 := Lib.hid (bthen B9.out b3)
  have r0 := HR.out.cell 0
  have r1 := HR.out.cell 1
  have r2 := HR.out.cell 2
  simp at r0 r1 r2
  have fr0 := HR.out.frozen 0
  have fr1 := HR.out.frozen 1
  have fr2 := HR.out.frozen 2
  unfold decV
  generalize hY : (tl (xN (2 * q + 1) (-1074 + (x : Int) - 1))) = l
  generalize hZ : te (xN (2 * q + 1) (-1074 + (x : Int) - 1)) (xE (-1074 + (x : Int) - 1)) = ex
  have HY := Lib.hid hY
  have HZ := Lib.hid hZ
  clear b3 hY hZ
  go_wp2_with fail
  have hk3 := ((HR.out.set_ 0 (.bool true)).set_ 1 (.string ⟨l.toArray⟩)).set_ 2 (.int .i64 ex)
  have hbf := ((B3.out.setCell (p := ⟨w.heap.size, 0, none⟩) (Nat.le_refl _) (.bool true)).setCell (p := ⟨w.heap.size, 1, none⟩) (Nat.le_refl _) (.string ⟨l.toArray⟩)).setCell (p := ⟨w.heap.size, 2, none⟩) (Nat.le_refl _) (.int .i64 ex)
  generalize ((World.setCell _ _ _).setCell _ _).setCell _ _ = Wf at hk3 hbf ⊢
  have q0 : Wf.cell? ⟨w.heap.size, 0, none⟩ = some (.bool true) := hk3.cell 0
  have q1 : Wf.cell? ⟨w.heap.size, 1, none⟩ = some (.string ⟨l.toArray⟩) := hk3.cell 1
  have q2 : Wf.cell? ⟨w.heap.size, 2, none⟩ = some (.int .i64 ex) := hk3.cell 2
  refine bodyPost_ret (v := .tuple #[decV true l ex, .int .i64 0]) (by simp [results, Tryz.results74, go_sem, q0, q1, q2]) rfl ⟨?_, hbf⟩
  rw [HY.out, HZ.out]
set_option maxHeartbeats 4000000 in
set_option maxRecDepth 100000 in
theorem rbetween_nz (w : World) :
    Calls Tryz.prog 74 #[.float .f64 (double.word true 0)] w (ExPost w false (2 * Rung.mant 52 0 + 1) (-1074 + (Rung.expo 52 0 : Nat) - 1)) := by
  have hb0 := Blk.new w 32 #[.bool false, .string ⟨#[]⟩, .int .i64 0]
  have HB0 := Lib.hid hb0
  have B0 := Lib.hid ((Below.refl _ w).alloc (Nat.le_refl _) (.cells #[.bool false, .string ⟨#[]⟩, .int .i64 0] 32))
  have hn2 : 0 < double.infRung := zero_inf
  have hx := expo_52 hn2
  have hm := mant_53 (0)
  have hnm : 0 < double.infRung := zero_inf
  rw [inf_num] at hnm
  have HT := Lib.hid (fun W => tol_x false (2 * Rung.mant 52 0 + 1) (2 * (Rung.mant 52 0 : Nat) + 1) (-1074 + (Rung.expo 52 0 : Nat) - 1) W (by omega) (by omega) (by omega) (by omega))
  have o1 := (ord_zero (s := true) (n := 0) zero_inf (cmp_eq rfl)).lt
  rw [eq_lt] at o1
  clear hb0
  go_enter Tryz.func74, Tryz.ntmps74
  go_wp2_with fail
  refine (fin_yes true 0 _ zero_inf).mono ?_
  rintro en w1 ⟨rfl, hw1⟩
  subst hw1
  go_wp2_with fail
  refine (numb_w true 0 _ zero_inf).mono ?_
  rintro en w6 ⟨rfl, b6⟩
  have B6 := Lib.hid (bthen B0.out b6)
  have HB6 := Lib.hid (HB0.out.below b6 HB0.out.lt)
  clear b6
  go_wp2_with fail
  refine (long_w _).mono ?_
  rintro en w5 ⟨rfl, b5⟩
  have B5 := Lib.hid (bthen B6.out b5)
  have HB5 := Lib.hid (HB6.out.below b5 HB6.out.lt)
  clear b5
  go_wp2_with fail
  refine (at_52 9218868437227405312 0 _ (by omega)).mono ?_
  rintro en w7 ⟨rfl, b7⟩
  have B7 := Lib.hid (bthen B5.out b7)
  have HB7 := Lib.hid (HB5.out.below b7 HB5.out.lt)
  clear b7
  generalize Rung.mant 52 0 = q at *
  generalize Rung.expo 52 0 = x at *
  go_wp2_with fail
  refine (HT.out _).mono ?_
  rintro en w3 ⟨rfl, b3⟩
  have HB9 := HB7
  have B9 := B7
  have HR := Lib.hid (HB9.out.below b3 HB9.out.lt)
  have B3 := Lib.hid (bthen B9.out b3)
  have r0 := HR.out.cell 0
  have r1 := HR.out.cell 1
  have r2 := HR.out.cell 2
  simp at r0 r1 r2
  have fr0 := HR.out.frozen 0
  have fr1 := HR.out.frozen 1
  have fr2 := HR.out.frozen 2
  unfold decV
  generalize hY : (tl (xN (2 * q + 1) (-1074 + (x : Int) - 1))) = l
  generalize hZ : te (xN (2 * q + 1) (-1074 + (x : Int) - 1)) (xE (-1074 + (x : Int) - 1)) = ex
  have HY := Lib.hid hY
  have HZ := Lib.hid hZ
  clear b3 hY hZ
  go_wp2_with fail
  have hk3 := ((HR.out.set_ 0 (.bool false)).set_ 1 (.string ⟨l.toArray⟩)).set_ 2 (.int .i64 ex)
  have hbf := ((B3.out.setCell (p := ⟨w.heap.size, 0, none⟩) (Nat.le_refl _) (.bool false)).setCell (p := ⟨w.heap.size, 1, none⟩) (Nat.le_refl _) (.string ⟨l.toArray⟩)).setCell (p := ⟨w.heap.size, 2, none⟩) (Nat.le_refl _) (.int .i64 ex)
  generalize ((World.setCell _ _ _).setCell _ _).setCell _ _ = Wf at hk3 hbf ⊢
  have q0 : Wf.cell? ⟨w.heap.size, 0, none⟩ = some (.bool false) := hk3.cell 0
  have q1 : Wf.cell? ⟨w.heap.size, 1, none⟩ = some (.string ⟨l.toArray⟩) := hk3.cell 1
  have q2 : Wf.cell? ⟨w.heap.size, 2, none⟩ = some (.int .i64 ex) := hk3.cell 2
  refine bodyPost_ret (v := .tuple #[decV false l ex, .int .i64 0]) (by simp [results, Tryz.results74, go_sem, q0, q1, q2]) rfl ⟨?_, hbf⟩
  rw [HY.out, HZ.out]
set_option maxHeartbeats 4000000 in
set_option maxRecDepth 100000 in
theorem rbetween_pos (n : Nat) (w : World) (hn : n < double.infRung) :
    Calls Tryz.prog 74 #[.float .f64 (double.word false n)] w (ExPost w false (2 * Rung.mant 52 n + 1) (-1074 + (Rung.expo 52 n : Nat) - 1)) := by
  have hb0 := Blk.new w 32 #[.bool false, .string ⟨#[]⟩, .int .i64 0]
  have HB0 := Lib.hid hb0
  have B0 := Lib.hid ((Below.refl _ w).alloc (Nat.le_refl _) (.cells #[.bool false, .string ⟨#[]⟩, .int .i64 0] 32))
  have hn2 : n < double.infRung := (by omega)
  have hx := expo_52 hn2
  have hm := mant_53 (n)
  have hnm : n < double.infRung := hn
  rw [inf_num] at hnm
  have HT := Lib.hid (fun W => tol_x false (2 * Rung.mant 52 n + 1) (2 * (Rung.mant 52 n : Nat) + 1) (-1074 + (Rung.expo 52 n : Nat) - 1) W (by omega) (by omega) (by omega) (by omega))
  have o1 : (FloatKind.f64.format.order (double.word false n) 0 == some .lt) = false := by
    rcases Nat.eq_zero_or_pos n with rfl | hp
    · exact (ord_zero (s := false) zero_inf (cmp_eq rfl)).lt
    · exact (ord_zero (s := false) hn (cmp_gt (by unfold Rung.sgn; simp; omega))).lt
  clear hb0
  go_enter Tryz.func74, Tryz.ntmps74
  go_wp2_with fail
  refine (fin_yes false n _ hn).mono ?_
  rintro en w1 ⟨rfl, hw1⟩
  subst hw1
  go_wp2_with fail
  refine (numb_w false n _ hn).mono ?_
  rintro en w6 ⟨rfl, b6⟩
  have B6 := Lib.hid (bthen B0.out b6)
  have HB6 := Lib.hid (HB0.out.below b6 HB0.out.lt)
  clear b6
  go_wp2_with fail
  refine (long_w _).mono ?_
  rintro en w5 ⟨rfl, b5⟩
  have B5 := Lib.hid (bthen B6.out b5)
  have HB5 := Lib.hid (HB6.out.below b5 HB6.out.lt)
  clear b5
  go_wp2_with fail
  refine (at_52 9218868437227405312 n _ (by omega)).mono ?_
  rintro en w7 ⟨rfl, b7⟩
  have B7 := Lib.hid (bthen B5.out b7)
  have HB7 := Lib.hid (HB5.out.below b7 HB5.out.lt)
  clear b7
  generalize Rung.mant 52 n = q at *
  generalize Rung.expo 52 n = x at *
  go_wp2_with fail
  refine (HT.out _).mono ?_
  rintro en w3 ⟨rfl, b3⟩
  have HB9 := HB7
  have B9 := B7
  have HR := Lib.hid (HB9.out.below b3 HB9.out.lt)
  have B3 := Lib.hid (bthen B9.out b3)
  have r0 := HR.out.cell 0
  have r1 := HR.out.cell 1
  have r2 := HR.out.cell 2
  simp at r0 r1 r2
  have fr0 := HR.out.frozen 0
  have fr1 := HR.out.frozen 1
  have fr2 := HR.out.frozen 2
  unfold decV
  generalize hY : (tl (xN (2 * q + 1) (-1074 + (x : Int) - 1))) = l
  generalize hZ : te (xN (2 * q + 1) (-1074 + (x : Int) - 1)) (xE (-1074 + (x : Int) - 1)) = ex
  have HY := Lib.hid hY
  have HZ := Lib.hid hZ
  clear b3 hY hZ
  go_wp2_with fail
  have hk3 := ((HR.out.set_ 0 (.bool false)).set_ 1 (.string ⟨l.toArray⟩)).set_ 2 (.int .i64 ex)
  have hbf := ((B3.out.setCell (p := ⟨w.heap.size, 0, none⟩) (Nat.le_refl _) (.bool false)).setCell (p := ⟨w.heap.size, 1, none⟩) (Nat.le_refl _) (.string ⟨l.toArray⟩)).setCell (p := ⟨w.heap.size, 2, none⟩) (Nat.le_refl _) (.int .i64 ex)
  generalize ((World.setCell _ _ _).setCell _ _).setCell _ _ = Wf at hk3 hbf ⊢
  have q0 : Wf.cell? ⟨w.heap.size, 0, none⟩ = some (.bool false) := hk3.cell 0
  have q1 : Wf.cell? ⟨w.heap.size, 1, none⟩ = some (.string ⟨l.toArray⟩) := hk3.cell 1
  have q2 : Wf.cell? ⟨w.heap.size, 2, none⟩ = some (.int .i64 ex) := hk3.cell 2
  refine bodyPost_ret (v := .tuple #[decV false l ex, .int .i64 0]) (by simp [results, Tryz.results74, go_sem, q0, q1, q2]) rfl ⟨?_, hbf⟩
  rw [HY.out, HZ.out]
end Go.Proofs.YtabmalnandbocaaGreatDoor.Num
namespace Go.Proofs.YtabmalnandbocaaGreatDoor.Num
set_option exponentiation.threshold 3000
set_option linter.unusedVariables false
set_option linter.unusedSimpArgs false
open Go.RowKit Go.Proofs.YtabmalnandbocaaGreatDoor.Mem Go.Proofs.YtabmalnandbocaaGreatDoor.Own Go.Proofs.YtabmalnandbocaaGreatDoor.Big

/-- A decimal in its one form. -/
def Form (l : List UInt8) (e : Int) : Prop := (l = [] ∧ e = 0) ∨ (l ≠ [] ∧ Canon l ∧ -1073741824 ≤ e ∧ e ≤ 1073741824)
def FrmPost (w : World) (l : List UInt8) (e : Int) (en : Ending) (w' : World) : Prop := ∃ b : Bool, en = .returned (.bool b) ∧ (b = true ↔ Form l e) ∧ Below w.heap.size w w'
theorem digs_all {s : ByteArray} (h : ∀ k, k < s.size → ∀ h : k < s.size, 48 ≤ s[k].toNat ∧ s[k].toNat ≤ 57) : isDigs s.data.toList := by
  intro c hc
  obtain ⟨i, hi, rfl⟩ := List.mem_iff_getElem.1 hc
  have hi' : i < s.size := by simpa using hi
  exact h i hi' hi'
theorem head_byte {s : ByteArray} (h : 0 < s.size) : s.data.toList.head? = some s[0] := by
  rw [List.head?_eq_getElem?, List.getElem?_eq_getElem (by simpa using h)]; rfl
theorem last_byte {s : ByteArray} (h : 0 < s.size) : s.data.toList.getLast? = some (s[s.size - 1]) := by
  have hl : s.data.toList.length = s.size := by simp
  rw [List.getLast?_eq_getElem?, List.getElem?_eq_getElem (by omega)]
  congr 1
theorem sub_48 (c : Nat) (h : c < 256) : IntKind.u8.wrap ((c : Int) - 48) = if 48 ≤ c then (c : Int) - 48 else (c : Int) + 208 := by
  rw [IntKind.wrap_u8]
  split <;> omega
set_option maxHeartbeats 4000000 in
set_option maxRecDepth 100000 in
theorem formed_w (neg : Bool) (s : ByteArray) (e : Int) (w : World) (hsm : s.size < 140737488355328) :
    Calls Tryz.prog 34 #[.agg #[.bool neg, .string s, .int .i64 e]] w (FrmPost w s.data.toList e) := by
  by_cases h0 : s.data.toList = []
  · obtain rfl : s = ⟨#[]⟩ := by
      rcases s with ⟨⟨l⟩⟩
      simp at h0
      rw [h0]
    go_enter Tryz.func34, Tryz.ntmps34
    go_wp2_with fail
    go_ret
    refine ⟨_, rfl, ?_, (Below.refl _ w).alloc (Nat.le_refl _) _⟩
    rw [beq_iff_eq]
    exact ⟨fun h => .inl ⟨rfl, h⟩, fun h => h.elim (fun h => h.2) (fun h => absurd rfl h.1)⟩
  · have hne : s.toList.isEmpty = false := str_ne0 h0
    have hpos : 0 < s.size := by
      have hl : s.data.toList.length = s.size := by simp
      have : s.data.toList.length ≠ 0 := fun e => h0 (List.eq_nil_of_length_eq_zero e)
      omega
    have H0 := Lib.hid h0
    clear h0
    go_enter Tryz.func34, Tryz.ntmps34
    go_wp2_with fail
    go_loop [13] (fun i => ∃ j : Nat, j ≤ s.size ∧ i = .int .i64 (j : Nat) ∧ Hid (∀ k, k < j → ∀ h : k < s.size, 48 ≤ s[k].toNat ∧ s[k].toNat ≤ 57)) (fun i => s.size - (intOf i).toNat)
    case atStart => exact ⟨0, Nat.zero_le _, rfl, Lib.hid (fun k h => absurd h (Nat.not_lt_zero k))⟩
    case round =>
      obtain ⟨j, hj, rfl, hd⟩ := hrel
      by_cases hjs : j < s.size
      · have g0 : (0 : Int) ≤ (j : Int) := by omega
        have g1 : (j : Int) < (s.size : Int) := by omega
        have hc8 := s[j].toNat_lt
        have HJ := Lib.hid hjs
        by_cases hdig : 48 ≤ s[j].toNat ∧ s[j].toNat ≤ 57
        · obtain ⟨d0, d1⟩ := hdig
          have HD := Lib.hid (show ∀ k, k < j + 1 → ∀ h : k < s.size, 48 ≤ s[k].toNat ∧ s[k].toNat ≤ 57 from fun k hk h => by
            rcases Nat.lt_or_ge k j with h1 | h1
            · exact hd.out k h1 h
            · obtain rfl : k = j := by omega
              exact ⟨d0, d1⟩)
          have t1 : decide ((9 : Int) < (s[j].toNat : Int) - 48) = false := decide_eq_false (by omega)
          have t2 : decide ((9 : Int) < ((s[j].toNat : Int) - 48) % 256) = false := decide_eq_false (by omega)
          clear hd
          go_wp2_with fail
          go_round
          case rel => exact ⟨j + 1, by omega, by go_num, HD⟩
          case measure => simp [intOf]; omega
        · have HND := Lib.hid (show ¬ Form s.data.toList e from by
            rintro (⟨h, -⟩ | ⟨-, h, -⟩)
            · exact H0.out h
            · exact hdig (h.digs s[j] (byte_mem s j hjs)))
          obtain ⟨v, hv1, hv2⟩ : ∃ v : Int, ((s[j].toNat : Int) - 48) % 256 = v ∧ 9 < v := ⟨_, rfl, by omega⟩
          have t1 : decide ((9 : Int) < v) = true := decide_eq_true hv2
          clear hdig hd
          go_wp2_with fail
          go_ret
          exact ⟨false, rfl, ⟨fun h => (by cases h), fun h => absurd h HND.out⟩, (Below.refl _ w).alloc (Nat.le_refl _) _⟩
      · obtain rfl : j = s.size := by omega
        have HDG := Lib.hid (digs_all (fun k hk => hd.out k hk))
        have HHB := Lib.hid (head_byte hpos)
        have HLB := Lib.hid (last_byte hpos)
        have hc1 := s[0].toNat_lt
        have hc2 := (s[s.size - 1]).toNat_lt
        have g0 : (0 : Int) ≤ (s.size : Int) - 1 := by omega
        have g1 : (s.size : Int) - 1 < (s.size : Int) := by omega
        clear hd
        have HP := Lib.hid (show ∀ b1 b2 b3 b4 : Bool, ((s[0].toNat : Int) != 48) = b1 → ((s[s.size - 1].toNat : Int) != 48) = b2 → decide (-1073741824 ≤ e) = b3 → decide (e ≤ 1073741824) = b4 → ((b1 && b2 && b3 && b4) = true ↔ Form s.data.toList e) from by
          intro b1 b2 b3 b4 h1 h2 h3 h4
          subst h1 h2 h3 h4
          simp only [Bool.and_eq_true, bne_iff_ne, decide_eq_true_eq]
          constructor
          · rintro ⟨⟨⟨h1, h2⟩, h3⟩, h4⟩
            refine .inr ⟨H0.out, ⟨HDG.out, fun c hc => ?_, fun c hc => ?_⟩, h3, h4⟩
            · rw [HHB.out] at hc
              cases hc
              omega
            · rw [HLB.out] at hc
              cases hc
              omega
          · rintro (⟨h, -⟩ | ⟨-, h, h3, h4⟩)
            · exact absurd h H0.out
            · have a1 := h.head _ HHB.out
              have a2 := h.last _ HLB.out
              exact ⟨⟨⟨by omega, by omega⟩, h3⟩, h4⟩)
        cases b1 : ((s[0].toNat : Int) != 48) <;> cases b2 : ((s[s.size - 1].toNat : Int) != 48) <;> cases b3 : decide (-1073741824 ≤ e) <;> cases b4 : decide (e ≤ 1073741824)
        all_goals
          have HR := Lib.hid (HP.out _ _ _ _ b1 b2 b3 b4)
        all_goals
          go_wp2_with fail
          go_ret
          exact ⟨_, rfl, HR.out, (Below.refl _ w).alloc (Nat.le_refl _) _⟩
theorem digit_yes (s : ByteArray) (k : Nat) (w : World) (hk : k < s.size) (h1 : 48 ≤ s[k].toNat) (h2 : s[k].toNat ≤ 57) :
    Calls Tryz.prog 132 #[.string s, .int .i64 (k : Nat)] w fun e w' => e = .returned (.bool true) ∧ w = w' := by
  have g0 : (0 : Int) ≤ (k : Int) := by omega
  have g1 : (k : Int) < (s.size : Int) := by omega
  have t1 : decide ((48 : Int) ≤ (s[k].toNat : Int)) = true := decide_eq_true (by omega)
  have t2 : decide ((s[k].toNat : Int) ≤ 57) = true := decide_eq_true (by omega)
  go_enter Tryz.func132, Tryz.ntmps132
  go_wp2_with fail
  go_ret
  exact ⟨rfl, rfl⟩
theorem digit_no (s : ByteArray) (k : Nat) (w : World) (hk : k < s.size) (h : ¬ (48 ≤ s[k].toNat ∧ s[k].toNat ≤ 57)) :
    Calls Tryz.prog 132 #[.string s, .int .i64 (k : Nat)] w fun e w' => e = .returned (.bool false) ∧ w = w' := by
  have g0 : (0 : Int) ≤ (k : Int) := by omega
  have g1 : (k : Int) < (s.size : Int) := by omega
  by_cases h1 : 48 ≤ s[k].toNat
  · have t1 : decide ((48 : Int) ≤ (s[k].toNat : Int)) = true := decide_eq_true (by omega)
    have t2 : decide ((s[k].toNat : Int) ≤ 57) = false := decide_eq_false (by omega)
    clear h
    go_enter Tryz.func132, Tryz.ntmps132
    go_wp2_with fail
    go_ret
    exact ⟨rfl, rfl⟩
  · have t1 : decide ((48 : Int) ≤ (s[k].toNat : Int)) = false := decide_eq_false (by omega)
    clear h
    go_enter Tryz.func132, Tryz.ntmps132
    go_wp2_with fail
    go_ret
    exact ⟨rfl, rfl⟩
set_option maxHeartbeats 4000000 in
set_option maxRecDepth 100000 in
theorem rformed_w (neg : Bool) (s : ByteArray) (e : Int) (w : World) (hsm : s.size < 140737488355328) :
    Calls Tryz.prog 106 #[.agg #[.bool neg, .string s, .int .i64 e]] w (FrmPost w s.data.toList e) := by
  have hl : s.data.toList.length = s.size := by simp
  have HL := Lib.hid hl
  clear hl
  go_enter Tryz.func106, Tryz.ntmps106
  go_wp2_with fail
  go_loop [3] (fun i => ∃ j : Nat, j ≤ s.size ∧ i = .int .i64 (j : Nat) ∧ Hid (∀ k, k < j → ∀ h : k < s.size, 48 ≤ s[k].toNat ∧ s[k].toNat ≤ 57)) (fun i => s.size - (intOf i).toNat)
  case atStart => exact ⟨0, Nat.zero_le _, rfl, Lib.hid (fun k h => absurd h (Nat.not_lt_zero k))⟩
  case round =>
    obtain ⟨j, hj, rfl, hd⟩ := hrel
    by_cases hjs : j < s.size
    · by_cases hdig : 48 ≤ s[j].toNat ∧ s[j].toNat ≤ 57
      · obtain ⟨d0, d1⟩ := hdig
        have HD := Lib.hid (show ∀ k, k < j + 1 → ∀ h : k < s.size, 48 ≤ s[k].toNat ∧ s[k].toNat ≤ 57 from fun k hk h => by
          rcases Nat.lt_or_ge k j with h1 | h1
          · exact hd.out k h1 h
          · obtain rfl : k = j := by omega
            exact ⟨d0, d1⟩)
        have HC := Lib.hid (fun W => digit_yes s j W hjs d0 d1)
        clear hd d0 d1
        go_wp2_with fail
        refine (HC.out _).mono ?_
        rintro en w' ⟨rfl, hw'⟩
        subst hw'
        go_wp2_with fail
        go_round
        case rel => exact ⟨j + 1, by omega, by go_num, HD⟩
        case measure => simp [intOf]; omega
      · have HND := Lib.hid (show ¬ Form s.data.toList e from by
          rintro (⟨h, -⟩ | ⟨-, h, -⟩)
          · have := HL.out
            rw [h] at this
            simp at this
            omega
          · exact hdig (h.digs s[j] (byte_mem s j hjs)))
        have HC := Lib.hid (fun W => digit_no s j W hjs hdig)
        clear hdig hd
        go_wp2_with fail
        refine (HC.out _).mono ?_
        rintro en w' ⟨rfl, hw'⟩
        subst hw'
        go_wp2_with fail
        go_ret
        exact ⟨false, rfl, ⟨fun h => (by cases h), fun h => absurd h HND.out⟩, (Below.refl _ w).alloc (Nat.le_refl _) _⟩
    · obtain rfl : j = s.size := by omega
      have HDG := Lib.hid (digs_all (fun k hk => hd.out k hk))
      clear hd
      by_cases h0 : s.size = 0
      · have HZ := Lib.hid (show s.data.toList = [] from List.eq_nil_of_length_eq_zero (by rw [HL.out, h0]))
        have HS0 := Lib.hid h0
        have t1 : ((s.size : Int) == 0) = true := by rw [beq_iff_eq]; omega
        clear h0
        go_wp2_with fail
        go_ret
        refine ⟨_, rfl, ?_, (Below.refl _ w).alloc (Nat.le_refl _) _⟩
        rw [beq_iff_eq]
        exact ⟨fun h => .inl ⟨HZ.out, h⟩, fun h => h.elim (fun h => h.2) (fun h => absurd HZ.out h.1)⟩
      · have hpos : 0 < s.size := by omega
        have H0 := Lib.hid (show s.data.toList ≠ [] from fun h => by have := HL.out; rw [h] at this; simp at this; omega)
        have HHB := Lib.hid (head_byte hpos)
        have HLB := Lib.hid (last_byte hpos)
        have hc1 := s[0].toNat_lt
        have hc2 := (s[s.size - 1]).toNat_lt
        have g0 : (0 : Int) ≤ (s.size : Int) - 1 := by omega
        have g1 : (s.size : Int) - 1 < (s.size : Int) := by omega
        have t1 : ((s.size : Int) == 0) = false := by rw [beq_eq_false_iff_ne]; omega
        clear h0
        have HP := Lib.hid (show ∀ b1 b2 b3 b4 : Bool, ((s[0].toNat : Int) != 48) = b1 → ((s[s.size - 1].toNat : Int) != 48) = b2 → decide (-1073741824 ≤ e) = b3 → decide (e ≤ 1073741824) = b4 → ((b1 && b2 && b3 && b4) = true ↔ Form s.data.toList e) from by
          intro b1 b2 b3 b4 h1 h2 h3 h4
          subst h1 h2 h3 h4
          simp only [Bool.and_eq_true, bne_iff_ne, decide_eq_true_eq]
          constructor
          · rintro ⟨⟨⟨h1, h2⟩, h3⟩, h4⟩
            refine .inr ⟨H0.out, ⟨HDG.out, fun c hc => ?_, fun c hc => ?_⟩, h3, h4⟩
            · rw [HHB.out] at hc
              cases hc
              omega
            · rw [HLB.out] at hc
              cases hc
              omega
          · rintro (⟨h, -⟩ | ⟨-, h, h3, h4⟩)
            · exact absurd h H0.out
            · have a1 := h.head _ HHB.out
              have a2 := h.last _ HLB.out
              exact ⟨⟨⟨by omega, by omega⟩, h3⟩, h4⟩)
        cases b1 : ((s[0].toNat : Int) != 48) <;> cases b2 : ((s[s.size - 1].toNat : Int) != 48) <;> cases b3 : decide (-1073741824 ≤ e) <;> cases b4 : decide (e ≤ 1073741824)
        all_goals
          have HR := Lib.hid (HP.out _ _ _ _ b1 b2 b3 b4)
          go_wp2_with fail
          go_ret
          exact ⟨_, rfl, HR.out, (Below.refl _ w).alloc (Nat.le_refl _) _⟩
end Go.Proofs.YtabmalnandbocaaGreatDoor.Num
