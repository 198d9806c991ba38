/- Chapter 13 (floats): the laws against the reference. No conditions beside those that each contract names. -/
import Derived.Test.YtncglbnnpdppjaaDoorMI
namespace Go.Proofs.YtncglbnnpdppjaaDoor.Num
set_option exponentiation.threshold 3000
set_option linter.unusedVariables false
set_option linter.unusedSimpArgs false
set_option exponentiation.threshold 3000
open Go.RowKit Go.Proofs.YtncglbnnpdppjaaDoor.Mem Go.Proofs.YtncglbnnpdppjaaDoor.Own Go.Proofs.YtncglbnnpdppjaaDoor.Big
open Ieee (double single)

theorem same_zero (w : World) : Calls Tryd.prog 13 #[.float .f64 0, .float .f64 0] w fun e w' => e = .returned (.bool true) ∧ w = w' := same_w false 0 w zero_inf
theorem widen_zero (w : World) : (convert 31 24 (.float .f32 0)).run Tryd.prog w = .ok (.float .f64 0) w :=
  widen_run (neg := false) (n := 0) (n' := 0) (by decide) zero_inf (by rw [Rung.W_zero, Rung.W_zero, Nat.zero_mul]) w
set_option maxHeartbeats 4000000 in
set_option maxRecDepth 100000 in
theorem floatsOf_w (neg : Bool) (s : ByteArray) (e : Int) (w : World) (hsm : s.size < 140737488355328) :
    Calls Tryd.prog 3 #[.agg #[.bool neg, .string s, .int .i64 e]] w (TruePost w) := by
  have hb0 := Blk.new w 23 #[.bool neg, .string s, .int .i64 e]
  have HB0 := Lib.hid hb0
  have B0 := Lib.hid ((Below.refl _ w).alloc (Nat.le_refl _) (.cells #[.bool neg, .string s, .int .i64 e] 23))
  clear hb0
  by_cases hf : Form s.data.toList e
  · have HA := Lib.hid (fun W => of_yes neg s e W hf hsm)
    have HB := Lib.hid (fun W => rof_yes neg s e W hf hsm)
    have hle : near64 s.data.toList e ≤ 9218868437227405312 := refF_le _ _ _ _ _
    generalize near64 s.data.toList e = n at *
    clear hf
    go_enter Tryd.func3, Tryd.ntmps3
    go_wp2_with fail
    refine (HA.out _).mono ?_
    rintro en w1 ⟨rfl, b1⟩
    have HB1 := Lib.hid (HB0.out.below b1 HB0.out.lt)
    have B1 := Lib.hid (bthen B0.out b1)
    have d0 := HB1.out.cell 0
    have d1 := HB1.out.cell 1
    have d2 := HB1.out.cell 2
    simp at d0 d1 d2
    clear b1
    by_cases htop : n = 9218868437227405312
    · have hv : ofV neg n = .tuple #[.float .f64 0, .int .i64 121] := by unfold ofV; rw [if_pos htop]
      rw [hv]
      clear htop
      go_wp2_with fail
      refine (HB.out _).mono ?_
      rintro en w2 ⟨rfl, b2⟩
      have B2 := Lib.hid (bthen B1.out b2)
      clear b2
      rw [hv]
      clear hv
      go_wp2_with fail
      refine (same_zero _).mono ?_
      rintro en w3 ⟨rfl, hw3⟩
      subst hw3
      go_wp2_with fail
      refine (awake_w _).mono ?_
      rintro en w4 ⟨rfl, b4⟩
      have B4 := Lib.hid (bthen B2.out b4)
      clear b4
      go_wp2_with fail
      go_ret
      exact ⟨rfl, B4.out⟩
    · have hv : ofV neg n = .tuple #[.float .f64 (double.word neg n), .int .i64 0] := by unfold ofV; rw [if_neg htop]
      have hn : n < double.infRung := by rw [inf_num]; omega
      rw [hv]
      clear htop
      go_wp2_with fail
      refine (HB.out _).mono ?_
      rintro en w2 ⟨rfl, b2⟩
      have B2 := Lib.hid (bthen B1.out b2)
      clear b2
      rw [hv]
      clear hv
      go_wp2_with fail
      refine (same_w neg n _ hn).mono ?_
      rintro en w3 ⟨rfl, hw3⟩
      subst hw3
      go_wp2_with fail
      refine (awake_w _).mono ?_
      rintro en w4 ⟨rfl, b4⟩
      have B4 := Lib.hid (bthen B2.out b4)
      clear b4
      go_wp2_with fail
      go_ret
      exact ⟨rfl, B4.out⟩
  · have HA := Lib.hid (fun W => of_no neg s e W hf hsm)
    have HB := Lib.hid (fun W => rof_no neg s e W hf hsm)
    clear hf
    go_enter Tryd.func3, Tryd.ntmps3
    go_wp2_with fail
    refine (HA.out _).mono ?_
    rintro en w1 ⟨rfl, b1⟩
    have HB1 := Lib.hid (HB0.out.below b1 HB0.out.lt)
    have B1 := Lib.hid (bthen B0.out b1)
    have d0 := HB1.out.cell 0
    have d1 := HB1.out.cell 1
    have d2 := HB1.out.cell 2
    simp at d0 d1 d2
    clear b1
    go_wp2_with fail
    refine (HB.out _).mono ?_
    rintro en w2 ⟨rfl, b2⟩
    have B2 := Lib.hid (bthen B1.out b2)
    clear b2
    go_wp2_with fail
    refine (same_zero _).mono ?_
    rintro en w3 ⟨rfl, hw3⟩
    subst hw3
    go_wp2_with fail
    refine (awake_w _).mono ?_
    rintro en w4 ⟨rfl, b4⟩
    have B4 := Lib.hid (bthen B2.out b4)
    clear b4
    go_wp2_with fail
    go_ret
    exact ⟨rfl, B4.out⟩
set_option maxHeartbeats 4000000 in
set_option maxRecDepth 100000 in
theorem floatsShort_w (neg : Bool) (s : ByteArray) (e : Int) (w : World) (hsm : s.size < 140737488355328) :
    Calls Tryd.prog 4 #[.agg #[.bool neg, .string s, .int .i64 e]] w (TruePost w) := by
  have hb0 := Blk.new w 23 #[.bool neg, .string s, .int .i64 e]
  have HB0 := Lib.hid hb0
  have B0 := Lib.hid ((Below.refl _ w).alloc (Nat.le_refl _) (.cells #[.bool neg, .string s, .int .i64 e] 23))
  clear hb0
  by_cases hf : Form s.data.toList e
  · have HA := Lib.hid (fun W => of32_yes neg s e W hf hsm)
    have HB := Lib.hid (fun W => rof32_yes neg s e W hf hsm)
    have hle : near32 s.data.toList e ≤ 2139095040 := refF_le _ _ _ _ _
    generalize near32 s.data.toList e = n at *
    clear hf
    go_enter Tryd.func4, Tryd.ntmps4
    go_wp2_with fail
    refine (HA.out _).mono ?_
    rintro en w1 ⟨rfl, b1⟩
    have HB1 := Lib.hid (HB0.out.below b1 HB0.out.lt)
    have B1 := Lib.hid (bthen B0.out b1)
    have d0 := HB1.out.cell 0
    have d1 := HB1.out.cell 1
    have d2 := HB1.out.cell 2
    simp at d0 d1 d2
    clear b1
    by_cases htop : n = 2139095040
    · have hv : ofV32 neg n = .tuple #[.float .f32 0, .int .i64 121] := by unfold ofV32; rw [if_pos htop]
      rw [hv]
      clear htop
      go_wp2_with fail
      refine (HB.out _).mono ?_
      rintro en w2 ⟨rfl, b2⟩
      have B2 := Lib.hid (bthen B1.out b2)
      clear b2
      rw [hv]
      clear hv
      go_wp2_with (simp only [widen_zero])
      refine (same_zero _).mono ?_
      rintro en w3 ⟨rfl, hw3⟩
      subst hw3
      go_wp2_with fail
      refine (awake_w _).mono ?_
      rintro en w4 ⟨rfl, b4⟩
      have B4 := Lib.hid (bthen B2.out b4)
      clear b4
      go_wp2_with fail
      go_ret
      exact ⟨rfl, B4.out⟩
    · have hv : ofV32 neg n = .tuple #[.float .f32 (single.word neg n), .int .i64 0] := by unfold ofV32; rw [if_neg htop]
      have hn0 : n < single.infRung := by rw [sgl_inf]; omega
      obtain ⟨n', hn, hW⟩ := Rung.has_wide hn0
      have hwd := widen_run (neg := neg) hn0 hn hW
      have HWD := Lib.hid hwd
      rw [hv]
      clear htop hW hwd
      go_wp2_with fail
      refine (HB.out _).mono ?_
      rintro en w2 ⟨rfl, b2⟩
      have B2 := Lib.hid (bthen B1.out b2)
      clear b2
      rw [hv]
      clear hv
      have hwd := HWD.out
      go_wp2_with (simp only [hwd])
      refine (same_w neg n' _ hn).mono ?_
      rintro en w3 ⟨rfl, hw3⟩
      subst hw3
      go_wp2_with fail
      refine (awake_w _).mono ?_
      rintro en w4 ⟨rfl, b4⟩
      have B4 := Lib.hid (bthen B2.out b4)
      clear b4
      go_wp2_with fail
      go_ret
      exact ⟨rfl, B4.out⟩
  · have HA := Lib.hid (fun W => of32_no neg s e W hf hsm)
    have HB := Lib.hid (fun W => rof32_no neg s e W hf hsm)
    clear hf
    go_enter Tryd.func4, Tryd.ntmps4
    go_wp2_with fail
    refine (HA.out _).mono ?_
    rintro en w1 ⟨rfl, b1⟩
    have HB1 := Lib.hid (HB0.out.below b1 HB0.out.lt)
    have B1 := Lib.hid (bthen B0.out b1)
    have d0 := HB1.out.cell 0
    have d1 := HB1.out.cell 1
    have d2 := HB1.out.cell 2
    simp at d0 d1 d2
    clear b1
    go_wp2_with fail
    refine (HB.out _).mono ?_
    rintro en w2 ⟨rfl, b2⟩
    have B2 := Lib.hid (bthen B1.out b2)
    clear b2
    go_wp2_with (simp only [widen_zero])
    refine (same_zero _).mono ?_
    rintro en w3 ⟨rfl, hw3⟩
    subst hw3
    go_wp2_with fail
    refine (awake_w _).mono ?_
    rintro en w4 ⟨rfl, b4⟩
    have B4 := Lib.hid (bthen B2.out b4)
    clear b4
    go_wp2_with fail
    go_ret
    exact ⟨rfl, B4.out⟩
set_option maxHeartbeats 4000000 in
set_option maxRecDepth 100000 in
theorem floatsExact_yes (s : Bool) (n : Nat) (w : World) (hn : n < double.infRung) :
    Calls Tryd.prog 5 #[.float .f64 (double.word s n)] w (TruePost w) := by
  have HA := Lib.hid (fun W => exact_yes s n W hn)
  have HB := Lib.hid (fun W => rexact_yes s n W hn)
  unfold ExPost at HA HB
  generalize (tl (xN (Rung.mant 52 n) (-1074 + ((Rung.expo 52 n : Nat) : Int)))) = l at *
  generalize te (xN (Rung.mant 52 n) (-1074 + ((Rung.expo 52 n : Nat) : Int))) (xE (-1074 + ((Rung.expo 52 n : Nat) : Int))) = ex at *
  go_enter Tryd.func5, Tryd.ntmps5
  go_wp2_with fail
  refine (HA.out _).mono ?_
  rintro en w1 ⟨rfl, b1⟩
  have B1 := Lib.hid b1
  clear b1
  unfold decV
  go_wp2_with fail
  refine (HB.out _).mono ?_
  rintro en w2 ⟨rfl, b2⟩
  have B2 := Lib.hid (bthen (B1.out.alloc B1.out.size (.cells #[.bool s, .string ⟨l.toArray⟩, .int .i64 ex] 23)) b2)
  have hk := (Blk.new w1 23 #[.bool s, .string ⟨l.toArray⟩, .int .i64 ex]).below b2 (by simp)
  have k0 := hk.cell 0
  have k1 := hk.cell 1
  have k2 := hk.cell 2
  simp at k0 k1 k2
  have hz := b2.size
  simp at hz
  have hz2 : w1.heap.size < w2.heap.size := by omega
  clear b2 hk
  unfold decV
  go_wp2_with fail
  refine (awake_w _).mono ?_
  rintro en w3 ⟨rfl, b3⟩
  have B3 := Lib.hid (bthen (B2.out.alloc B2.out.size _) b3)
  clear b3
  go_wp2_with fail
  go_ret
  exact ⟨rfl, B3.out⟩
set_option maxHeartbeats 4000000 in
set_option maxRecDepth 100000 in
theorem floatsExact_no (s : Bool) (n : Nat) (w : World) (h : double.infRung ≤ n) (h' : n < double.signWeight) :
    Calls Tryd.prog 5 #[.float .f64 (double.word s n)] w (TruePost w) := by
  have HA := Lib.hid (fun W => exact_no s n W h h')
  have HB := Lib.hid (fun W => rexact_no s n W h h')
  go_enter Tryd.func5, Tryd.ntmps5
  go_wp2_with fail
  refine (HA.out _).mono ?_
  rintro en w1 ⟨rfl, b1⟩
  have B1 := Lib.hid b1
  clear b1
  unfold decV
  go_wp2_with fail
  refine (HB.out _).mono ?_
  rintro en w2 ⟨rfl, b2⟩
  have B2 := Lib.hid (bthen (B1.out.alloc B1.out.size (.cells #[.bool false, .string ⟨#[]⟩, .int .i64 0] 23)) b2)
  have hk := (Blk.new w1 23 #[.bool false, .string ⟨#[]⟩, .int .i64 0]).below b2 (by simp)
  have k0 := hk.cell 0
  have k1 := hk.cell 1
  have k2 := hk.cell 2
  simp at k0 k1 k2
  have hz := b2.size
  simp at hz
  have hz2 : w1.heap.size < w2.heap.size := by omega
  clear b2 hk
  unfold decV
  go_wp2_with fail
  refine (awake_w _).mono ?_
  rintro en w3 ⟨rfl, b3⟩
  have B3 := Lib.hid (bthen (B2.out.alloc B2.out.size _) b3)
  clear b3
  go_wp2_with fail
  go_ret
  exact ⟨rfl, B3.out⟩
set_option maxHeartbeats 4000000 in
set_option maxRecDepth 100000 in
theorem floatsBetween_pos (n : Nat) (w : World) (hn : n < double.infRung) :
    Calls Tryd.prog 6 #[.float .f64 (double.word false n)] w (TruePost w) := by
  have HA := Lib.hid (fun W => between_pos n W hn)
  have HB := Lib.hid (fun W => rbetween_pos n W hn)
  unfold ExPost at HA HB
  generalize (tl (xN (2 * Rung.mant 52 n + 1) (-1074 + ((Rung.expo 52 n : Nat) : Int) - 1))) = l at *
  generalize te (xN (2 * Rung.mant 52 n + 1) (-1074 + ((Rung.expo 52 n : Nat) : Int) - 1)) (xE (-1074 + ((Rung.expo 52 n : Nat) : Int) - 1)) = ex at *
  go_enter Tryd.func6, Tryd.ntmps6
  go_wp2_with fail
  refine (HA.out _).mono ?_
  rintro en w1 ⟨rfl, b1⟩
  have B1 := Lib.hid b1
  clear b1
  unfold decV
  go_wp2_with fail
  refine (HB.out _).mono ?_
  rintro en w2 ⟨rfl, b2⟩
  have B2 := Lib.hid (bthen (B1.out.alloc B1.out.size (.cells #[.bool false, .string ⟨l.toArray⟩, .int .i64 ex] 23)) b2)
  have hk := (Blk.new w1 23 #[.bool false, .string ⟨l.toArray⟩, .int .i64 ex]).below b2 (by simp)
  have k0 := hk.cell 0
  have k1 := hk.cell 1
  have k2 := hk.cell 2
  simp at k0 k1 k2
  have hz := b2.size
  simp at hz
  have hz2 : w1.heap.size < w2.heap.size := by omega
  clear b2 hk
  unfold decV
  go_wp2_with fail
  refine (awake_w _).mono ?_
  rintro en w3 ⟨rfl, b3⟩
  have B3 := Lib.hid (bthen (B2.out.alloc B2.out.size _) b3)
  clear b3
  go_wp2_with fail
  go_ret
  exact ⟨rfl, B3.out⟩
set_option maxHeartbeats 4000000 in
set_option maxRecDepth 100000 in
theorem floatsBetween_neg (n : Nat) (w : World) (hn : n < double.infRung) (h0 : 0 < n) :
    Calls Tryd.prog 6 #[.float .f64 (double.word true n)] w (TruePost w) := by
  have HA := Lib.hid (fun W => between_neg n W hn h0)
  have HB := Lib.hid (fun W => rbetween_neg n W hn h0)
  unfold ExPost at HA HB
  generalize (tl (xN (2 * Rung.mant 52 (n - 1) + 1) (-1074 + ((Rung.expo 52 (n - 1) : Nat) : Int) - 1))) = l at *
  generalize te (xN (2 * Rung.mant 52 (n - 1) + 1) (-1074 + ((Rung.expo 52 (n - 1) : Nat) : Int) - 1)) (xE (-1074 + ((Rung.expo 52 (n - 1) : Nat) : Int) - 1)) = ex at *
  go_enter Tryd.func6, Tryd.ntmps6
  go_wp2_with fail
  refine (HA.out _).mono ?_
  rintro en w1 ⟨rfl, b1⟩
  have B1 := Lib.hid b1
  clear b1
  unfold decV
  go_wp2_with fail
  refine (HB.out _).mono ?_
  rintro en w2 ⟨rfl, b2⟩
  have B2 := Lib.hid (bthen (B1.out.alloc B1.out.size (.cells #[.bool true, .string ⟨l.toArray⟩, .int .i64 ex] 23)) b2)
  have hk := (Blk.new w1 23 #[.bool true, .string ⟨l.toArray⟩, .int .i64 ex]).below b2 (by simp)
  have k0 := hk.cell 0
  have k1 := hk.cell 1
  have k2 := hk.cell 2
  simp at k0 k1 k2
  have hz := b2.size
  simp at hz
  have hz2 : w1.heap.size < w2.heap.size := by omega
  clear b2 hk
  unfold decV
  go_wp2_with fail
  refine (awake_w _).mono ?_
  rintro en w3 ⟨rfl, b3⟩
  have B3 := Lib.hid (bthen (B2.out.alloc B2.out.size _) b3)
  clear b3
  go_wp2_with fail
  go_ret
  exact ⟨rfl, B3.out⟩
set_option maxHeartbeats 4000000 in
set_option maxRecDepth 100000 in
theorem floatsBetween_nz (w : World) :
    Calls Tryd.prog 6 #[.float .f64 (double.word true 0)] w (TruePost w) := by
  have HA := Lib.hid (fun W => between_nz W)
  have HB := Lib.hid (fun W => rbetween_nz W)
  unfold ExPost at HA HB
  generalize (tl (xN (2 * Rung.mant 52 0 + 1) (-1074 + ((Rung.expo 52 0 : Nat) : Int) - 1))) = l at *
  generalize te (xN (2 * Rung.mant 52 0 + 1) (-1074 + ((Rung.expo 52 0 : Nat) : Int) - 1)) (xE (-1074 + ((Rung.expo 52 0 : Nat) : Int) - 1)) = ex at *
  go_enter Tryd.func6, Tryd.ntmps6
  go_wp2_with fail
  refine (HA.out _).mono ?_
  rintro en w1 ⟨rfl, b1⟩
  have B1 := Lib.hid b1
  clear b1
  unfold decV
  go_wp2_with fail
  refine (HB.out _).mono ?_
  rintro en w2 ⟨rfl, b2⟩
  have B2 := Lib.hid (bthen (B1.out.alloc B1.out.size (.cells #[.bool false, .string ⟨l.toArray⟩, .int .i64 ex] 23)) b2)
  have hk := (Blk.new w1 23 #[.bool false, .string ⟨l.toArray⟩, .int .i64 ex]).below b2 (by simp)
  have k0 := hk.cell 0
  have k1 := hk.cell 1
  have k2 := hk.cell 2
  simp at k0 k1 k2
  have hz := b2.size
  simp at hz
  have hz2 : w1.heap.size < w2.heap.size := by omega
  clear b2 hk
  unfold decV
  go_wp2_with fail
  refine (awake_w _).mono ?_
  rintro en w3 ⟨rfl, b3⟩
  have B3 := Lib.hid (bthen (B2.out.alloc B2.out.size _) b3)
  clear b3
  go_wp2_with fail
  go_ret
  exact ⟨rfl, B3.out⟩
set_option maxHeartbeats 4000000 in
set_option maxRecDepth 100000 in
theorem floatsBetween_no (s : Bool) (n : Nat) (w : World) (h : double.infRung ≤ n) (h' : n < double.signWeight) :
    Calls Tryd.prog 6 #[.float .f64 (double.word s n)] w (TruePost w) := by
  have HA := Lib.hid (fun W => between_no s n W h h')
  have HB := Lib.hid (fun W => rbetween_no s n W h h')
  go_enter Tryd.func6, Tryd.ntmps6
  go_wp2_with fail
  refine (HA.out _).mono ?_
  rintro en w1 ⟨rfl, b1⟩
  have B1 := Lib.hid b1
  clear b1
  unfold decV
  go_wp2_with fail
  refine (HB.out _).mono ?_
  rintro en w2 ⟨rfl, b2⟩
  have B2 := Lib.hid (bthen (B1.out.alloc B1.out.size (.cells #[.bool false, .string ⟨#[]⟩, .int .i64 0] 23)) b2)
  have hk := (Blk.new w1 23 #[.bool false, .string ⟨#[]⟩, .int .i64 0]).below b2 (by simp)
  have k0 := hk.cell 0
  have k1 := hk.cell 1
  have k2 := hk.cell 2
  simp at k0 k1 k2
  have hz := b2.size
  simp at hz
  have hz2 : w1.heap.size < w2.heap.size := by omega
  clear b2 hk
  unfold decV
  go_wp2_with fail
  refine (awake_w _).mono ?_
  rintro en w3 ⟨rfl, b3⟩
  have B3 := Lib.hid (bthen (B2.out.alloc B2.out.size _) b3)
  clear b3
  go_wp2_with fail
  go_ret
  exact ⟨rfl, B3.out⟩
theorem floatsExact_w (x : Nat) (w : World) (hx : x < 18446744073709551616) : Calls Tryd.prog 5 #[.float .f64 x] w (TruePost w) := by
  obtain ⟨s, n, hn, rfl⟩ := Rung.word_of (f := double) (x := x) (by rw [show double.signWeight = 9223372036854775808 by decide]; omega)
  rcases Nat.lt_or_ge n double.infRung with h | h
  · exact floatsExact_yes s n w h
  · exact floatsExact_no s n w h hn
theorem floatsBetween_w (x : Nat) (w : World) (hx : x < 18446744073709551616) : Calls Tryd.prog 6 #[.float .f64 x] w (TruePost w) := by
  obtain ⟨s, n, hn, rfl⟩ := Rung.word_of (f := double) (x := x) (by rw [show double.signWeight = 9223372036854775808 by decide]; omega)
  rcases Nat.lt_or_ge n double.infRung with h | h
  · cases s
    · exact floatsBetween_pos n w h
    · rcases Nat.eq_zero_or_pos n with rfl | hp
      · exact floatsBetween_nz w
      · exact floatsBetween_neg n w h hp
  · exact floatsBetween_no s n w h hn
end Go.Proofs.YtncglbnnpdppjaaDoor.Num
