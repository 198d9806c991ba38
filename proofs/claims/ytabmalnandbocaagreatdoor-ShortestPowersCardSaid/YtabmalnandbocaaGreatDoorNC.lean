/- Chapters 13 and 14 (floats, shortest): awake and finite. No conditions beside those that each contract names. -/
import Derived.Test.YtabmalnandbocaaGreatDoorMX
import Derived.Test.YtabmalnandbocaaGreatDoorMH
namespace Go.Proofs.YtabmalnandbocaaGreatDoor.Num
set_option exponentiation.threshold 3000
set_option linter.unusedVariables false
set_option linter.unusedSimpArgs false
set_option exponentiation.threshold 3000
open Go.RowKit Go.Proofs.YtabmalnandbocaaGreatDoor.Mem Go.Proofs.YtabmalnandbocaaGreatDoor.Own Go.Proofs.YtabmalnandbocaaGreatDoor.Big Go.Proofs.YtabmalnandbocaaGreatDoor.Str
open Ieee (double single)
theorem isnan_w (x : Nat) (b : Bool) (w : World) (h : (FloatKind.f64.format.order x x != some .eq) = b) :
    Calls Tryz.prog 31 #[.float .f64 x] w fun e w' => e = .returned (.bool b) ∧ w = w' := by
  go_enter Tryz.func31, Tryz.ntmps31
  go_wp2_with fail
  go_ret
  exact ⟨rfl, rfl⟩
theorem abs_w (s : Bool) (n : Nat) (w : World) (h : n < 9223372036854775808) :
    Calls Tryz.prog 54 #[.float .f64 (double.word s n)] w fun e w' => e = .returned (.float .f64 n) ∧ w = w' := by
  have hb := bits_run
  have hx : double.word s n = (if s then 9223372036854775808 + n else n) := rfl
  have h2 := andnot_sign (x := double.word s n) (by rw [hx]; split <;> omega)
  have h4 : double.word s n % 9223372036854775808 = n := by rw [hx]; split <;> omega
  rw [h4] at h2
  have hf := frombits_run n
  clear h4 hx
  go_enter Tryz.func54, Tryz.ntmps54
  go_wp2_with fail
  go_ret
  exact ⟨rfl, rfl⟩
theorem isinf_w (s : Bool) (n : Nat) (b : Bool) (w : World) (h : n < 9223372036854775808) (hb : (FloatKind.f64.format.order n 9218868437227405311 == some .gt) = b) :
    Calls Tryz.prog 32 #[.float .f64 (double.word s n), .int .i64 0] w fun e w' => e = .returned (.bool b) ∧ w = w' := by
  have HA := Lib.hid (abs_w s n · h)
  go_enter Tryz.func32, Tryz.ntmps32
  go_wp2_with fail
  refine (HA.out _).mono ?_
  rintro en w1 ⟨rfl, hw1⟩
  subst hw1
  go_wp2_with fail
  go_ret
  exact ⟨rfl, rfl⟩
theorem gt_no {n m : Nat} (hn : n < double.infRung) (hm : m < double.infRung) (hle : n ≤ m) : (FloatKind.f64.format.order n m == some .gt) = false := by
  have h1 := (ord_sgn (s := false) (t := false) hn hm (o := compare (Rung.sgn false n) (Rung.sgn false m)) rfl).gt
  have e : ∀ k, double.word false k = k := fun k => rfl
  rw [e, e] at h1
  rw [h1]
  rcases Nat.lt_or_eq_of_le hle with h | h
  · rw [cmp_lt (by unfold Rung.sgn; simp; exact h)]; rfl
  · rw [cmp_eq (by rw [h])]; rfl
theorem finite_yes (s : Bool) (n : Nat) (w : World) (h : n < double.infRung) :
    Calls Tryz.prog 14 #[.float .f64 (double.word s n)] w fun e w' => e = .returned (.bool true) ∧ w = w' := by
  have h' := h
  rw [inf_num] at h'
  have HN := Lib.hid (fun W => isnan_w (double.word s n) false W ((ord_sgn (s := s) (t := s) h h (cmp_eq rfl)).ne.trans rfl))
  have HI := Lib.hid (fun W => isinf_w s n false W (by omega) (gt_no h (by rw [inf_num]; omega) (by omega)))
  clear h h'
  go_enter Tryz.func14, Tryz.ntmps14
  go_wp2_with fail
  refine (HN.out _).mono ?_
  rintro en w1 ⟨rfl, hw1⟩
  subst hw1
  go_wp2_with fail
  refine (HI.out _).mono ?_
  rintro en w1 ⟨rfl, hw1⟩
  subst hw1
  go_wp2_with fail
  go_ret
  exact ⟨rfl, rfl⟩
theorem finite_no (s : Bool) (n : Nat) (w : World) (h : double.infRung ≤ n) (h' : n < double.signWeight) :
    Calls Tryz.prog 14 #[.float .f64 (double.word s n)] w fun e w' => e = .returned (.bool false) ∧ w = w' := by
  rcases Nat.lt_or_ge double.infRung n with hlt | hge
  · have HN := Lib.hid (fun W => isnan_w (double.word s n) true W (by
      have := Rung.order_nan_l (f := double) (s := s) (n := n) (x := double.word s n) Rung.dbl_bin hlt h'
      show (double.order (double.word s n) (double.word s n) != some .eq) = true
      rw [this]; rfl))
    clear h h' hlt
    go_enter Tryz.func14, Tryz.ntmps14
    go_wp2_with fail
    refine (HN.out _).mono ?_
    rintro en w1 ⟨rfl, hw1⟩
    subst hw1
    go_wp2_with fail
    go_ret
    exact ⟨rfl, rfl⟩
  · obtain rfl : n = double.infRung := by omega
    have HN := Lib.hid (fun W => isnan_w (double.word s double.infRung) false W (by
      show (double.order (double.word s double.infRung) (double.word s double.infRung) != some .eq) = false
      rw [Rung.order_inf Rung.dbl_bin]; cases s <;> rfl))
    have HI := Lib.hid (fun W => isinf_w s double.infRung true W (by rw [inf_num]; omega) (by
      have := Rung.order_inf_l (f := double) (s := false) (t := false) (n := 9218868437227405311) Rung.dbl_bin (by rw [inf_num]; omega)
      rw [show double.word false double.infRung = double.infRung from rfl, show double.word false 9218868437227405311 = 9218868437227405311 from rfl] at this
      show (double.order double.infRung 9218868437227405311 == some .gt) = true
      rw [this]; rfl))
    clear h h' hge
    generalize double.infRung = n at *
    go_enter Tryz.func14, Tryz.ntmps14
    go_wp2_with fail
    refine (HN.out _).mono ?_
    rintro en w1 ⟨rfl, hw1⟩
    subst hw1
    go_wp2_with fail
    refine (HI.out _).mono ?_
    rintro en w1 ⟨rfl, hw1⟩
    subst hw1
    go_wp2_with fail
    go_ret
    exact ⟨rfl, rfl⟩
theorem nan_w (w : World) : Calls Tryz.prog 23 #[] w fun e w' => e = .returned (.float .f64 9221120237041090561) ∧ w = w' := by
  have hf := frombits_run' 9221120237041090561 9221120237041090561 rfl
  go_enter Tryz.func23, Tryz.ntmps23
  go_wp2_with fail
  go_ret
  exact ⟨rfl, rfl⟩
set_option maxHeartbeats 4000000 in
set_option maxRecDepth 100000 in
theorem awake_w (w : World) (ht : Tens w) : Calls Tryz.prog 11 #[] w (LwPost w) := by
  have H1 := Lib.hid (text_half w ht)
  have H2 := Lib.hid (fun W => text_bad 9221120237041090561 W (fun W' => digits_no false 9221120237041090561 W' (by rw [inf_num]; omega) (by decide)))
  have H3 := Lib.hid (fun W => nan_w W)
  clear ht
  go_enter Tryz.func11, Tryz.ntmps11
  go_wp2_with fail
  refine H1.out.mono ?_
  rintro en w1 ⟨rfl, b1⟩
  have B1 := Lib.hid b1
  clear b1
  go_wp2_with fail
  refine (H3.out _).mono ?_
  rintro en w2 ⟨rfl, hw2⟩
  subst hw2
  go_wp2_with fail
  refine (H2.out _).mono ?_
  rintro en w2 ⟨rfl, b2⟩
  have B2 := Lib.hid (bthen B1.out b2)
  clear b2
  go_wp2_with fail
  go_ret
  exact ⟨rfl, B2.out⟩
end Go.Proofs.YtabmalnandbocaaGreatDoor.Num
