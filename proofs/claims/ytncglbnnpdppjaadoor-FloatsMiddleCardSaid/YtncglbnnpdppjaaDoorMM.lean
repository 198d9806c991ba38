/- Chapter 13 (floats): FloatsNearest, FloatsBack, FloatsMiddle. No conditions beside those that each contract names. -/
import Derived.Test.YtncglbnnpdppjaaDoorML
import Derived.Deep.QuietTactic
import Derived.BigQuiet
namespace Go.Proofs.YtncglbnnpdppjaaDoor.Num
set_option exponentiation.threshold 3000
set_option linter.unusedVariables false
set_option linter.unusedSimpArgs false
set_option exponentiation.threshold 3000
open Go.RowKit Go.Proofs.YtncglbnnpdppjaaDoor.Mem Go.Proofs.YtncglbnnpdppjaaDoor.Own Go.Proofs.YtncglbnnpdppjaaDoor.Big
open Ieee (double single)
theorem cmpI_three (x y : Nat) : cmpI x y = -1 ∨ cmpI x y = 0 ∨ cmpI x y = 1 := by unfold cmpI; split <;> (try split) <;> omega
theorem tl_len (m : Nat) (e : Int) (hm : m < 100000000000000000000) (h1 : -2000 ≤ e) (h2 : e ≤ 2000) : (tl (xN m e)).length ≤ 3000 := by
  by_cases h0 : tl (xN m e) = []
  · rw [h0]; simp
  · have hb := (canon_bounds (told_canon (xN m e)) h0).1
    have hv := (told_tl (xN m e)).val
    obtain ⟨k, hk, hlt⟩ := xN_lt (e := e) hm
    have hk2 : k ≤ 2000 := by split at hk <;> omega
    have h3 : 10 ^ ((tl (xN m e)).length - 1) < 10 ^ (20 + k) := by
      refine Nat.lt_of_le_of_lt hb (Nat.lt_of_le_of_lt ?_ hlt)
      conv => rhs; rw [← hv]
      exact Nat.le_mul_of_pos_right _ (Nat.pow_pos (by decide))
    have := (Nat.pow_lt_pow_iff_right (by decide)).1 h3
    omega
theorem bt_len {n : Nat} (h : n < double.infRung) : (btL n).length ≤ 3000 := by
  have hx := expo_52 h
  have hm := mant_53 n
  exact tl_len _ _ (by omega) (by omega) (by omega)
theorem ex_len {n : Nat} (h : n < double.infRung) : (exL n).length ≤ 3000 := by
  have hx := expo_52 h
  have hm := mant_53 n
  exact tl_len _ _ (by omega) (by omega) (by omega)
theorem size_of (l : List UInt8) (h : l.length ≤ 3000) : (⟨l.toArray⟩ : ByteArray).size < 140737488355328 := by
  have : (⟨l.toArray⟩ : ByteArray).size = l.length := by simp [ByteArray.size]
  omega
/-- Cmp with the middle behind a float. -/
theorem cmpb_w (s : ByteArray) (e : Int) (n : Nat) (w : World) (h : Form s.data.toList e) (hsm : s.size < 140737488355328) (hn : n < double.infRung) :
    Calls Tryd.prog 23 #[.agg #[.bool false, .string s, .int .i64 e], .agg #[.bool false, .string ⟨(btL n).toArray⟩, .int .i64 (btE n)]] w (CmPost w (cmpI (2 * (rN s.data.toList e * 2 ^ 1074)) (Rung.mid2 52 n * rD e))) := by
  have := dcmp_w false s e false ⟨(btL n).toArray⟩ (btE n) w h (bt_form hn) hsm (size_of _ (bt_len hn))
  rw [show dcmp false s.data.toList e false ((⟨(btL n).toArray⟩ : ByteArray).data.toList) (btE n) = _ from cmp_mid s.data.toList e n] at this
  exact this
def BtPost (w : World) (neg : Bool) (l : List UInt8) (e : Int) (en : Ending) (w' : World) : Prop := en = .returned (.tuple #[.agg #[.bool neg, .string ⟨l.toArray⟩, .int .i64 e], .int .i64 0]) ∧ Below w.heap.size w w'
theorem btw_w (n : Nat) (w : World) (hn : n < double.infRung) :
    Calls Tryd.prog 19 #[.float .f64 (double.word false n)] w (BtPost w false (btL n) (btE n)) := between_pos n w hn
def PlPost (w : World) (s : ByteArray) (e : Int) (en : Ending) (w' : World) : Prop := en = .returned (.agg #[.bool false, .string s, .int .i64 e]) ∧ Below w.heap.size w w'
set_option maxHeartbeats 4000000 in
theorem lplain_w (neg : Bool) (s : ByteArray) (e : Int) (w : World) : Calls Tryd.prog 24 #[.agg #[.bool neg, .string s, .int .i64 e]] w (PlPost w s e) := by
  go_enter Tryd.func24, Tryd.ntmps24
  go_wp2_with fail
  have hk1 := Blk.new (w.alloc (.cells #[.bool neg, .string s, .int .i64 e] 23)) 23 #[.bool false, .string s, .int .i64 e]
  simp at hk1
  have hbf := ((Below.refl _ w).alloc (Nat.le_refl _) (.cells #[.bool neg, .string s, .int .i64 e] 23)).alloc (by simp) (.cells #[.bool false, .string s, .int .i64 e] 23)
  generalize (w.alloc _).alloc _ = Wf at hk1 hbf ⊢
  have q0 : Wf.cell? ⟨w.heap.size + 1, 0, none⟩ = some (.bool false) := hk1.cell 0
  have q1 : Wf.cell? ⟨w.heap.size + 1, 1, none⟩ = some (.string s) := hk1.cell 1
  have q2 : Wf.cell? ⟨w.heap.size + 1, 2, none⟩ = some (.int .i64 e) := hk1.cell 2
  exact bodyPost_ret (v := .agg #[.bool false, .string s, .int .i64 e]) (by simp [results, Tryd.results24, go_sem, q0, q1, q2]) rfl ⟨rfl, hbf⟩
set_option maxHeartbeats 40000000 in
set_option maxRecDepth 100000 in
theorem floatsNearest_no (neg : Bool) (s : ByteArray) (e : Int) (w : World) (hsm : s.size < 140737488355328) (h : ¬ Form s.data.toList e) :
    Calls Tryd.prog 9 #[.agg #[.bool neg, .string s, .int .i64 e]] w (TruePost w) := by
  have HO := Lib.hid (fun W => of_no neg s e W h hsm)
  have HF := Lib.hid (fun W => formed_w neg s e W hsm)
  have HN := Lib.hid h
  clear h
  go_enter Tryd.func9, Tryd.ntmps9
  go_wp2_with fail
  refine (awake_w _).mono ?_
  rintro en w1 ⟨rfl, b1⟩
  have hx := (Blk.new w 23 #[.bool neg, .string s, .int .i64 e])
  have HA1 := Lib.hid (hx.below b1 hx.lt)
  clear hx
  have B1 := Lib.hid (bthen ((Below.refl _ w).alloc (Nat.le_refl _) (.cells #[.bool neg, .string s, .int .i64 e] 23)) b1)
  have A_0 : w1.cell? ⟨w.heap.size, 0, none⟩ = some (.bool neg) := HA1.out.cell 0
  have A_1 : w1.cell? ⟨w.heap.size, 1, none⟩ = some (.string s) := HA1.out.cell 1
  have A_2 : w1.cell? ⟨w.heap.size, 2, none⟩ = some (.int .i64 e) := HA1.out.cell 2
  have A_z : w.heap.size < w1.heap.size := HA1.out.lt
  clear b1
  go_wp2_with fail
  refine (HO.out _).mono ?_
  rintro en w2 ⟨rfl, b2⟩
  have hx := HA1.out
  have HA2 := Lib.hid (hx.below b2 hx.lt)
  clear hx
  have B2 := Lib.hid (bthen B1.out b2)
  clear A_0 A_1 A_2 A_z
  have A_0 : w2.cell? ⟨w.heap.size, 0, none⟩ = some (.bool neg) := HA2.out.cell 0
  have A_1 : w2.cell? ⟨w.heap.size, 1, none⟩ = some (.string s) := HA2.out.cell 1
  have A_2 : w2.cell? ⟨w.heap.size, 2, none⟩ = some (.int .i64 e) := HA2.out.cell 2
  have A_z : w.heap.size < w2.heap.size := HA2.out.lt
  clear b2
  go_wp2_with fail
  refine (HF.out _).mono ?_
  rintro en w3 ⟨b, rfl, hb, b3⟩
  have hx := HA2.out
  have HA3 := Lib.hid (hx.below b3 hx.lt)
  clear hx
  have B3 := Lib.hid (bthen B2.out b3)
  clear A_0 A_1 A_2 A_z
  have A_0 : w3.cell? ⟨w.heap.size, 0, none⟩ = some (.bool neg) := HA3.out.cell 0
  have A_1 : w3.cell? ⟨w.heap.size, 1, none⟩ = some (.string s) := HA3.out.cell 1
  have A_2 : w3.cell? ⟨w.heap.size, 2, none⟩ = some (.int .i64 e) := HA3.out.cell 2
  have A_z : w.heap.size < w3.heap.size := HA3.out.lt
  clear b3
  obtain rfl : b = false := by
    cases b
    · rfl
    · exact absurd (hb.1 rfl) HN.out
  clear hb
  go_wp2_with fail
  refine (same_zero _).mono ?_
  rintro en w4 ⟨rfl, hw4⟩
  subst hw4
  go_wp2_with fail
  go_ret
  exact ⟨rfl, B3.out⟩
set_option maxHeartbeats 40000000 in
set_option maxRecDepth 100000 in
theorem floatsNearest_yes (neg : Bool) (s : ByteArray) (e : Int) (w : World) (hsm : s.size < 140737488355328) (h : Form s.data.toList e) :
    Calls Tryd.prog 9 #[.agg #[.bool neg, .string s, .int .i64 e]] w (TruePost w) := by
  have HO := Lib.hid (fun W => of_yes neg s e W h hsm)
  have HF := Lib.hid (fun W => formed_w neg s e W hsm)
  have HPL := Lib.hid (fun W => lplain_w neg s e W)
  have HN := Lib.hid h
  have HT := Lib.hid (tests_64 e h.canon.1)
  have hle : near64 s.data.toList e ≤ 9218868437227405312 := refF_le _ _ _ _ _
  generalize hR : near64 s.data.toList e = R at *
  clear hR
  by_cases htop : R = 9218868437227405312
  · subst htop
    have hcc := (cmpI_past.1 (HT.out.2 (by decide)))
    have hc0 : 0 ≤ cmpI (2 * (rN s.data.toList e * 2 ^ 1074)) (Rung.mid2 52 9218868437227405311 * rD e) := by
      rcases hcc with h | ⟨h, -⟩ <;> rw [h] <;> decide
    have HCM := Lib.hid (fun W => cmpb_w s e 9218868437227405311 W h hsm (by decide))
    have HFL := Lib.hid (fun W => float_w false 9218868437227405311 W (by decide))
    have HBT := Lib.hid (fun W => btw_w 9218868437227405311 W (by decide))
    generalize cmpI (2 * (rN s.data.toList e * 2 ^ 1074)) (Rung.mid2 52 9218868437227405311 * rD e) = c at *
    clear hcc h
    generalize hbl : btL 9218868437227405311 = bl at *
    generalize hbe : btE 9218868437227405311 = be at *
    clear hbl hbe
    go_enter Tryd.func9, Tryd.ntmps9
    go_wp2_with fail
    refine (awake_w _).mono ?_
    rintro en w1 ⟨rfl, b1⟩
    have hx := (Blk.new w 23 #[.bool neg, .string s, .int .i64 e])
    have HA1 := Lib.hid (hx.below b1 hx.lt)
    clear hx
    have B1 := Lib.hid (bthen ((Below.refl _ w).alloc (Nat.le_refl _) (.cells #[.bool neg, .string s, .int .i64 e] 23)) b1)
    have A_0 : w1.cell? ⟨w.heap.size, 0, none⟩ = some (.bool neg) := HA1.out.cell 0
    have A_1 : w1.cell? ⟨w.heap.size, 1, none⟩ = some (.string s) := HA1.out.cell 1
    have A_2 : w1.cell? ⟨w.heap.size, 2, none⟩ = some (.int .i64 e) := HA1.out.cell 2
    have A_z : w.heap.size < w1.heap.size := HA1.out.lt
    clear b1
    go_wp2_with fail
    refine (HO.out _).mono ?_
    rintro en w2 ⟨rfl, b2⟩
    have hx := HA1.out
    have HA2 := Lib.hid (hx.below b2 hx.lt)
    clear hx
    have B2 := Lib.hid (bthen B1.out b2)
    clear A_0 A_1 A_2 A_z
    have A_0 : w2.cell? ⟨w.heap.size, 0, none⟩ = some (.bool neg) := HA2.out.cell 0
    have A_1 : w2.cell? ⟨w.heap.size, 1, none⟩ = some (.string s) := HA2.out.cell 1
    have A_2 : w2.cell? ⟨w.heap.size, 2, none⟩ = some (.int .i64 e) := HA2.out.cell 2
    have A_z : w.heap.size < w2.heap.size := HA2.out.lt
    clear b2
    rw [ofV_over]
    go_wp2_with fail
    refine (HF.out _).mono ?_
    rintro en w3 ⟨b, rfl, hb, b3⟩
    have hx := HA2.out
    have HA3 := Lib.hid (hx.below b3 hx.lt)
    clear hx
    have B3 := Lib.hid (bthen B2.out b3)
    clear A_0 A_1 A_2 A_z
    have A_0 : w3.cell? ⟨w.heap.size, 0, none⟩ = some (.bool neg) := HA3.out.cell 0
    have A_1 : w3.cell? ⟨w.heap.size, 1, none⟩ = some (.string s) := HA3.out.cell 1
    have A_2 : w3.cell? ⟨w.heap.size, 2, none⟩ = some (.int .i64 e) := HA3.out.cell 2
    have A_z : w.heap.size < w3.heap.size := HA3.out.lt
    clear b3
    obtain rfl : b = true := hb.2 HN.out
    clear hb
    go_wp2_with fail
    refine (HPL.out _).mono ?_
    rintro en w4 ⟨rfl, b4⟩
    have hx := HA3.out
    have HA4 := Lib.hid (hx.below b4 hx.lt)
    clear hx
    have B4 := Lib.hid (bthen B3.out b4)
    clear A_0 A_1 A_2 A_z
    have A_0 : w4.cell? ⟨w.heap.size, 0, none⟩ = some (.bool neg) := HA4.out.cell 0
    have A_1 : w4.cell? ⟨w.heap.size, 1, none⟩ = some (.string s) := HA4.out.cell 1
    have A_2 : w4.cell? ⟨w.heap.size, 2, none⟩ = some (.int .i64 e) := HA4.out.cell 2
    have A_z : w.heap.size < w4.heap.size := HA4.out.lt
    clear b4
    go_wp2_with fail
    refine (long_w _).mono ?_
    rintro en w5 ⟨rfl, b5⟩
    have hx := (HA4.out.alloc (.cells #[.bool false, .string s, .int .i64 e] 23))
    have HA5 := Lib.hid (hx.below b5 hx.lt)
    clear hx
    have hx := (Blk.new w4 23 #[.bool false, .string s, .int .i64 e])
    have HP5 := Lib.hid (hx.below b5 hx.lt)
    clear hx
    have B5 := Lib.hid (bthen (B4.out.alloc B4.out.size (.cells #[.bool false, .string s, .int .i64 e] 23)) b5)
    clear A_0 A_1 A_2 A_z
    have A_0 : w5.cell? ⟨w.heap.size, 0, none⟩ = some (.bool neg) := HA5.out.cell 0
    have A_1 : w5.cell? ⟨w.heap.size, 1, none⟩ = some (.string s) := HA5.out.cell 1
    have A_2 : w5.cell? ⟨w.heap.size, 2, none⟩ = some (.int .i64 e) := HA5.out.cell 2
    have A_z : w.heap.size < w5.heap.size := HA5.out.lt
    have P_0 : w5.cell? ⟨w4.heap.size, 0, none⟩ = some (.bool false) := HP5.out.cell 0
    have P_1 : w5.cell? ⟨w4.heap.size, 1, none⟩ = some (.string s) := HP5.out.cell 1
    have P_2 : w5.cell? ⟨w4.heap.size, 2, none⟩ = some (.int .i64 e) := HP5.out.cell 2
    have P_z : w4.heap.size < w5.heap.size := HP5.out.lt
    clear b5
    go_wp2_with (simp only [over_field])
    refine (HFL.out _).mono ?_
    rintro en w6 ⟨rfl, b6⟩
    have hx := HA5.out
    have HA6 := Lib.hid (hx.below b6 hx.lt)
    clear hx
    have hx := HP5.out
    have HP6 := Lib.hid (hx.below b6 hx.lt)
    clear hx
    have B6 := Lib.hid (bthen B5.out b6)
    clear A_0 A_1 A_2 P_0 P_1 P_2 A_z P_z
    have A_0 : w6.cell? ⟨w.heap.size, 0, none⟩ = some (.bool neg) := HA6.out.cell 0
    have A_1 : w6.cell? ⟨w.heap.size, 1, none⟩ = some (.string s) := HA6.out.cell 1
    have A_2 : w6.cell? ⟨w.heap.size, 2, none⟩ = some (.int .i64 e) := HA6.out.cell 2
    have A_z : w.heap.size < w6.heap.size := HA6.out.lt
    have P_0 : w6.cell? ⟨w4.heap.size, 0, none⟩ = some (.bool false) := HP6.out.cell 0
    have P_1 : w6.cell? ⟨w4.heap.size, 1, none⟩ = some (.string s) := HP6.out.cell 1
    have P_2 : w6.cell? ⟨w4.heap.size, 2, none⟩ = some (.int .i64 e) := HP6.out.cell 2
    have P_z : w4.heap.size < w6.heap.size := HP6.out.lt
    clear b6
    go_wp2_with fail
    refine (HBT.out _).mono ?_
    rintro en w7 ⟨rfl, b7⟩
    have hx := HA6.out
    have HA7 := Lib.hid (hx.below b7 hx.lt)
    clear hx
    have hx := HP6.out
    have HP7 := Lib.hid (hx.below b7 hx.lt)
    clear hx
    have B7 := Lib.hid (bthen B6.out b7)
    clear A_0 A_1 A_2 P_0 P_1 P_2 A_z P_z
    have A_0 : w7.cell? ⟨w.heap.size, 0, none⟩ = some (.bool neg) := HA7.out.cell 0
    have A_1 : w7.cell? ⟨w.heap.size, 1, none⟩ = some (.string s) := HA7.out.cell 1
    have A_2 : w7.cell? ⟨w.heap.size, 2, none⟩ = some (.int .i64 e) := HA7.out.cell 2
    have A_z : w.heap.size < w7.heap.size := HA7.out.lt
    have P_0 : w7.cell? ⟨w4.heap.size, 0, none⟩ = some (.bool false) := HP7.out.cell 0
    have P_1 : w7.cell? ⟨w4.heap.size, 1, none⟩ = some (.string s) := HP7.out.cell 1
    have P_2 : w7.cell? ⟨w4.heap.size, 2, none⟩ = some (.int .i64 e) := HP7.out.cell 2
    have P_z : w4.heap.size < w7.heap.size := HP7.out.lt
    clear b7
    go_wp2_with fail
    refine (HCM.out _).mono ?_
    rintro en w8 ⟨rfl, b8⟩
    have hx := (HA7.out.alloc (.cells #[.bool false, .string ⟨bl.toArray⟩, .int .i64 be] 23))
    have HA8 := Lib.hid (hx.below b8 hx.lt)
    clear hx
    have hx := (HP7.out.alloc (.cells #[.bool false, .string ⟨bl.toArray⟩, .int .i64 be] 23))
    have HP8 := Lib.hid (hx.below b8 hx.lt)
    clear hx
    have hx := (Blk.new w7 23 #[.bool false, .string ⟨bl.toArray⟩, .int .i64 be])
    have HE8 := Lib.hid (hx.below b8 hx.lt)
    clear hx
    have B8 := Lib.hid (bthen (B7.out.alloc B7.out.size (.cells #[.bool false, .string ⟨bl.toArray⟩, .int .i64 be] 23)) b8)
    clear A_0 A_1 A_2 P_0 P_1 P_2 A_z P_z
    have A_0 : w8.cell? ⟨w.heap.size, 0, none⟩ = some (.bool neg) := HA8.out.cell 0
    have A_1 : w8.cell? ⟨w.heap.size, 1, none⟩ = some (.string s) := HA8.out.cell 1
    have A_2 : w8.cell? ⟨w.heap.size, 2, none⟩ = some (.int .i64 e) := HA8.out.cell 2
    have A_z : w.heap.size < w8.heap.size := HA8.out.lt
    have P_0 : w8.cell? ⟨w4.heap.size, 0, none⟩ = some (.bool false) := HP8.out.cell 0
    have P_1 : w8.cell? ⟨w4.heap.size, 1, none⟩ = some (.string s) := HP8.out.cell 1
    have P_2 : w8.cell? ⟨w4.heap.size, 2, none⟩ = some (.int .i64 e) := HP8.out.cell 2
    have P_z : w4.heap.size < w8.heap.size := HP8.out.lt
    have E_0 : w8.cell? ⟨w7.heap.size, 0, none⟩ = some (.bool false) := HE8.out.cell 0
    have E_1 : w8.cell? ⟨w7.heap.size, 1, none⟩ = some (.string ⟨bl.toArray⟩) := HE8.out.cell 1
    have E_2 : w8.cell? ⟨w7.heap.size, 2, none⟩ = some (.int .i64 be) := HE8.out.cell 2
    have E_z : w7.heap.size < w8.heap.size := HE8.out.lt
    clear b8
    go_wp2_with fail
    refine (same_zero _).mono ?_
    rintro en w9 ⟨rfl, hw9⟩
    subst hw9
    go_wp2_with fail
    go_ret
    exact ⟨rfl, B8.out⟩
  · have hn : R < double.infRung := by rw [inf_num]; omega
    have HV := Lib.hid (ofV_ok (neg := neg) htop)
    have hnp := fun hp => HT.out.1 (by omega) (cmpI_past.2 hp)
    have HCM := Lib.hid (fun W => cmpb_w s e R W h hsm hn)
    have HCM2 := Lib.hid (fun W (hr : 0 < R) => cmpb_w s e (R - 1) W h hsm (by omega))
    have hc2 := fun (hr : 0 < R) => cmpI_past.1 (HT.out.2 hr)
    have HFL := Lib.hid (fun W => float_w false R W hn)
    have HBT := Lib.hid (fun W => btw_w R W hn)
    have HFL2 := Lib.hid (fun W (hr : 0 < R) => float_w false (R - 1) W (by omega))
    have HBT2 := Lib.hid (fun W (hr : 0 < R) => btw_w (R - 1) W (by omega))
    have HFI := Lib.hid (fun W => fin_yes neg R W hn)
    have HBL := Lib.hid (fun W => below_w neg R W hn)
    have HNU := Lib.hid (fun W => numb_w neg R W hn)
    have hc3 := cmpI_three (2 * (rN s.data.toList e * 2 ^ 1074)) (Rung.mid2 52 R * rD e)
    have hd3 := cmpI_three (2 * (rN s.data.toList e * 2 ^ 1074)) (Rung.mid2 52 (R - 1) * rD e)
    generalize cmpI (2 * (rN s.data.toList e * 2 ^ 1074)) (Rung.mid2 52 R * rD e) = c at *
    generalize cmpI (2 * (rN s.data.toList e * 2 ^ 1074)) (Rung.mid2 52 (R - 1) * rD e) = d at *
    clear h htop
    generalize hbl : btL R = bl at *
    generalize hbe : btE R = be at *
    generalize hbl2 : btL (R - 1) = bl2 at *
    generalize hbe2 : btE (R - 1) = be2 at *
    clear hbl hbe hbl2 hbe2
    have HNP := Lib.hid hnp
    have HC2 := Lib.hid hc2
    have HC3 := Lib.hid hc3
    have HD3 := Lib.hid hd3
    clear hnp hc2 hc3 hd3
    go_enter Tryd.func9, Tryd.ntmps9
    go_wp2_with fail
    refine (awake_w _).mono ?_
    rintro en w1 ⟨rfl, b1⟩
    have hx := (Blk.new w 23 #[.bool neg, .string s, .int .i64 e])
    have HA1 := Lib.hid (hx.below b1 hx.lt)
    clear hx
    have B1 := Lib.hid (bthen ((Below.refl _ w).alloc (Nat.le_refl _) (.cells #[.bool neg, .string s, .int .i64 e] 23)) b1)
    have A_0 : w1.cell? ⟨w.heap.size, 0, none⟩ = some (.bool neg) := HA1.out.cell 0
    have A_1 : w1.cell? ⟨w.heap.size, 1, none⟩ = some (.string s) := HA1.out.cell 1
    have A_2 : w1.cell? ⟨w.heap.size, 2, none⟩ = some (.int .i64 e) := HA1.out.cell 2
    have A_z : w.heap.size < w1.heap.size := HA1.out.lt
    clear b1
    go_wp2_with fail
    refine (HO.out _).mono ?_
    rintro en w2 ⟨rfl, b2⟩
    have hx := HA1.out
    have HA2 := Lib.hid (hx.below b2 hx.lt)
    clear hx
    have B2 := Lib.hid (bthen B1.out b2)
    clear A_0 A_1 A_2 A_z
    have A_0 : w2.cell? ⟨w.heap.size, 0, none⟩ = some (.bool neg) := HA2.out.cell 0
    have A_1 : w2.cell? ⟨w.heap.size, 1, none⟩ = some (.string s) := HA2.out.cell 1
    have A_2 : w2.cell? ⟨w.heap.size, 2, none⟩ = some (.int .i64 e) := HA2.out.cell 2
    have A_z : w.heap.size < w2.heap.size := HA2.out.lt
    clear b2
    rw [HV.out]
    go_wp2_with fail
    refine (HF.out _).mono ?_
    rintro en w3 ⟨b, rfl, hb, b3⟩
    have hx := HA2.out
    have HA3 := Lib.hid (hx.below b3 hx.lt)
    clear hx
    have B3 := Lib.hid (bthen B2.out b3)
    clear A_0 A_1 A_2 A_z
    have A_0 : w3.cell? ⟨w.heap.size, 0, none⟩ = some (.bool neg) := HA3.out.cell 0
    have A_1 : w3.cell? ⟨w.heap.size, 1, none⟩ = some (.string s) := HA3.out.cell 1
    have A_2 : w3.cell? ⟨w.heap.size, 2, none⟩ = some (.int .i64 e) := HA3.out.cell 2
    have A_z : w.heap.size < w3.heap.size := HA3.out.lt
    clear b3
    obtain rfl : b = true := hb.2 HN.out
    clear hb
    go_wp2_with fail
    refine (HPL.out _).mono ?_
    rintro en w4 ⟨rfl, b4⟩
    have hx := HA3.out
    have HA4 := Lib.hid (hx.below b4 hx.lt)
    clear hx
    have B4 := Lib.hid (bthen B3.out b4)
    clear A_0 A_1 A_2 A_z
    have A_0 : w4.cell? ⟨w.heap.size, 0, none⟩ = some (.bool neg) := HA4.out.cell 0
    have A_1 : w4.cell? ⟨w.heap.size, 1, none⟩ = some (.string s) := HA4.out.cell 1
    have A_2 : w4.cell? ⟨w.heap.size, 2, none⟩ = some (.int .i64 e) := HA4.out.cell 2
    have A_z : w.heap.size < w4.heap.size := HA4.out.lt
    clear b4
    go_wp2_with fail
    refine (long_w _).mono ?_
    rintro en w5 ⟨rfl, b5⟩
    have hx := (HA4.out.alloc (.cells #[.bool false, .string s, .int .i64 e] 23))
    have HA5 := Lib.hid (hx.below b5 hx.lt)
    clear hx
    have hx := (Blk.new w4 23 #[.bool false, .string s, .int .i64 e])
    have HP5 := Lib.hid (hx.below b5 hx.lt)
    clear hx
    have B5 := Lib.hid (bthen (B4.out.alloc B4.out.size (.cells #[.bool false, .string s, .int .i64 e] 23)) b5)
    clear A_0 A_1 A_2 A_z
    have A_0 : w5.cell? ⟨w.heap.size, 0, none⟩ = some (.bool neg) := HA5.out.cell 0
    have A_1 : w5.cell? ⟨w.heap.size, 1, none⟩ = some (.string s) := HA5.out.cell 1
    have A_2 : w5.cell? ⟨w.heap.size, 2, none⟩ = some (.int .i64 e) := HA5.out.cell 2
    have A_z : w.heap.size < w5.heap.size := HA5.out.lt
    have P_0 : w5.cell? ⟨w4.heap.size, 0, none⟩ = some (.bool false) := HP5.out.cell 0
    have P_1 : w5.cell? ⟨w4.heap.size, 1, none⟩ = some (.string s) := HP5.out.cell 1
    have P_2 : w5.cell? ⟨w4.heap.size, 2, none⟩ = some (.int .i64 e) := HP5.out.cell 2
    have P_z : w4.heap.size < w5.heap.size := HP5.out.lt
    clear b5
    go_wp2_with (simp only [over_field])
    go_quiet ((first | (go_at_call 21; exact Calls.quiet_of_same ((HFI.out _).mono fun _ _ ⟨he, hw⟩ => ⟨he, hw.symm⟩)) | (go_at_call 27; exact Calls.quiet_of_same ((HBL.out _).mono fun _ _ ⟨he, hw⟩ => ⟨he, hw.symm⟩))))
    obtain ⟨w6, hw6⟩ : ∃ W, W = w5.drewN nq := ⟨_, rfl⟩
    have b6 : Below w5.heap.size w5 w6 := by rw [hw6]; exact bdrewN (Below.refl _ _) nq
    rw [← hw6]
    clear hw6
    have hx := HA5.out
    have HA6 := Lib.hid (hx.below b6 hx.lt)
    clear hx
    have hx := HP5.out
    have HP6 := Lib.hid (hx.below b6 hx.lt)
    clear hx
    have B6 := Lib.hid (bthen B5.out b6)
    clear A_0 A_1 A_2 P_0 P_1 P_2 A_z P_z
    have A_0 : w6.cell? ⟨w.heap.size, 0, none⟩ = some (.bool neg) := HA6.out.cell 0
    have A_1 : w6.cell? ⟨w.heap.size, 1, none⟩ = some (.string s) := HA6.out.cell 1
    have A_2 : w6.cell? ⟨w.heap.size, 2, none⟩ = some (.int .i64 e) := HA6.out.cell 2
    have A_z : w.heap.size < w6.heap.size := HA6.out.lt
    have P_0 : w6.cell? ⟨w4.heap.size, 0, none⟩ = some (.bool false) := HP6.out.cell 0
    have P_1 : w6.cell? ⟨w4.heap.size, 1, none⟩ = some (.string s) := HP6.out.cell 1
    have P_2 : w6.cell? ⟨w4.heap.size, 2, none⟩ = some (.int .i64 e) := HP6.out.cell 2
    have P_z : w4.heap.size < w6.heap.size := HP6.out.lt
    clear b6
    go_wp2_with fail
    refine (HNU.out _).mono ?_
    rintro en w7 ⟨rfl, b7⟩
    have hx := HA6.out
    have HA7 := Lib.hid (hx.below b7 hx.lt)
    clear hx
    have hx := HP6.out
    have HP7 := Lib.hid (hx.below b7 hx.lt)
    clear hx
    have B7 := Lib.hid (bthen B6.out b7)
    clear A_0 A_1 A_2 P_0 P_1 P_2 A_z P_z
    have A_0 : w7.cell? ⟨w.heap.size, 0, none⟩ = some (.bool neg) := HA7.out.cell 0
    have A_1 : w7.cell? ⟨w.heap.size, 1, none⟩ = some (.string s) := HA7.out.cell 1
    have A_2 : w7.cell? ⟨w.heap.size, 2, none⟩ = some (.int .i64 e) := HA7.out.cell 2
    have A_z : w.heap.size < w7.heap.size := HA7.out.lt
    have P_0 : w7.cell? ⟨w4.heap.size, 0, none⟩ = some (.bool false) := HP7.out.cell 0
    have P_1 : w7.cell? ⟨w4.heap.size, 1, none⟩ = some (.string s) := HP7.out.cell 1
    have P_2 : w7.cell? ⟨w4.heap.size, 2, none⟩ = some (.int .i64 e) := HP7.out.cell 2
    have P_z : w4.heap.size < w7.heap.size := HP7.out.lt
    clear b7
    go_wp2_with fail
    refine (HFL.out _).mono ?_
    rintro en w8 ⟨rfl, b8⟩
    have hx := HA7.out
    have HA8 := Lib.hid (hx.below b8 hx.lt)
    clear hx
    have hx := HP7.out
    have HP8 := Lib.hid (hx.below b8 hx.lt)
    clear hx
    have B8 := Lib.hid (bthen B7.out b8)
    clear A_0 A_1 A_2 P_0 P_1 P_2 A_z P_z
    have A_0 : w8.cell? ⟨w.heap.size, 0, none⟩ = some (.bool neg) := HA8.out.cell 0
    have A_1 : w8.cell? ⟨w.heap.size, 1, none⟩ = some (.string s) := HA8.out.cell 1
    have A_2 : w8.cell? ⟨w.heap.size, 2, none⟩ = some (.int .i64 e) := HA8.out.cell 2
    have A_z : w.heap.size < w8.heap.size := HA8.out.lt
    have P_0 : w8.cell? ⟨w4.heap.size, 0, none⟩ = some (.bool false) := HP8.out.cell 0
    have P_1 : w8.cell? ⟨w4.heap.size, 1, none⟩ = some (.string s) := HP8.out.cell 1
    have P_2 : w8.cell? ⟨w4.heap.size, 2, none⟩ = some (.int .i64 e) := HP8.out.cell 2
    have P_z : w4.heap.size < w8.heap.size := HP8.out.lt
    clear b8
    go_wp2_with fail
    refine (HBT.out _).mono ?_
    rintro en w9 ⟨rfl, b9⟩
    have hx := HA8.out
    have HA9 := Lib.hid (hx.below b9 hx.lt)
    clear hx
    have hx := HP8.out
    have HP9 := Lib.hid (hx.below b9 hx.lt)
    clear hx
    have B9 := Lib.hid (bthen B8.out b9)
    clear A_0 A_1 A_2 P_0 P_1 P_2 A_z P_z
    have A_0 : w9.cell? ⟨w.heap.size, 0, none⟩ = some (.bool neg) := HA9.out.cell 0
    have A_1 : w9.cell? ⟨w.heap.size, 1, none⟩ = some (.string s) := HA9.out.cell 1
    have A_2 : w9.cell? ⟨w.heap.size, 2, none⟩ = some (.int .i64 e) := HA9.out.cell 2
    have A_z : w.heap.size < w9.heap.size := HA9.out.lt
    have P_0 : w9.cell? ⟨w4.heap.size, 0, none⟩ = some (.bool false) := HP9.out.cell 0
    have P_1 : w9.cell? ⟨w4.heap.size, 1, none⟩ = some (.string s) := HP9.out.cell 1
    have P_2 : w9.cell? ⟨w4.heap.size, 2, none⟩ = some (.int .i64 e) := HP9.out.cell 2
    have P_z : w4.heap.size < w9.heap.size := HP9.out.lt
    clear b9
    go_wp2_with fail
    refine (HCM.out _).mono ?_
    rintro en w10 ⟨rfl, b10⟩
    have hx := (HA9.out.alloc (.cells #[.bool false, .string ⟨bl.toArray⟩, .int .i64 be] 23))
    have HA10 := Lib.hid (hx.below b10 hx.lt)
    clear hx
    have hx := (HP9.out.alloc (.cells #[.bool false, .string ⟨bl.toArray⟩, .int .i64 be] 23))
    have HP10 := Lib.hid (hx.below b10 hx.lt)
    clear hx
    have hx := (Blk.new w9 23 #[.bool false, .string ⟨bl.toArray⟩, .int .i64 be])
    have HE10 := Lib.hid (hx.below b10 hx.lt)
    clear hx
    have B10 := Lib.hid (bthen (B9.out.alloc B9.out.size (.cells #[.bool false, .string ⟨bl.toArray⟩, .int .i64 be] 23)) b10)
    clear A_0 A_1 A_2 P_0 P_1 P_2 A_z P_z
    have A_0 : w10.cell? ⟨w.heap.size, 0, none⟩ = some (.bool neg) := HA10.out.cell 0
    have A_1 : w10.cell? ⟨w.heap.size, 1, none⟩ = some (.string s) := HA10.out.cell 1
    have A_2 : w10.cell? ⟨w.heap.size, 2, none⟩ = some (.int .i64 e) := HA10.out.cell 2
    have A_z : w.heap.size < w10.heap.size := HA10.out.lt
    have P_0 : w10.cell? ⟨w4.heap.size, 0, none⟩ = some (.bool false) := HP10.out.cell 0
    have P_1 : w10.cell? ⟨w4.heap.size, 1, none⟩ = some (.string s) := HP10.out.cell 1
    have P_2 : w10.cell? ⟨w4.heap.size, 2, none⟩ = some (.int .i64 e) := HP10.out.cell 2
    have P_z : w4.heap.size < w10.heap.size := HP10.out.lt
    have E_0 : w10.cell? ⟨w9.heap.size, 0, none⟩ = some (.bool false) := HE10.out.cell 0
    have E_1 : w10.cell? ⟨w9.heap.size, 1, none⟩ = some (.string ⟨bl.toArray⟩) := HE10.out.cell 1
    have E_2 : w10.cell? ⟨w9.heap.size, 2, none⟩ = some (.int .i64 be) := HE10.out.cell 2
    have E_z : w9.heap.size < w10.heap.size := HE10.out.lt
    clear b10
    rcases HC3.out with rfl | rfl | rfl
    · by_cases hR0 : R = 0
      · subst hR0
        go_wp2_with fail
        go_ret
        exact ⟨rfl, B10.out⟩
      · have hr : 0 < R := by omega
        have t2 : (R : Int) - 1 = ((R - 1 : Nat) : Int) := by omega
        have t3 : ((R : Int) == 0) = false := by rw [beq_eq_false_iff_ne]; omega
        have hdd := HC2.out hr
        have HRR := Lib.hid hr
        clear hR0 hr
        go_wp2_with fail
        refine (HFL2.out _ HRR.out).mono ?_
        rintro en w11 ⟨rfl, b11⟩
        have hx := HA10.out
        have HA11 := Lib.hid (hx.below b11 hx.lt)
        clear hx
        have hx := HP10.out
        have HP11 := Lib.hid (hx.below b11 hx.lt)
        clear hx
        have hx := HE10.out
        have HE11 := Lib.hid (hx.below b11 hx.lt)
        clear hx
        have B11 := Lib.hid (bthen B10.out b11)
        clear A_0 A_1 A_2 P_0 P_1 P_2 E_0 E_1 E_2 A_z P_z E_z
        have A_0 : w11.cell? ⟨w.heap.size, 0, none⟩ = some (.bool neg) := HA11.out.cell 0
        have A_1 : w11.cell? ⟨w.heap.size, 1, none⟩ = some (.string s) := HA11.out.cell 1
        have A_2 : w11.cell? ⟨w.heap.size, 2, none⟩ = some (.int .i64 e) := HA11.out.cell 2
        have A_z : w.heap.size < w11.heap.size := HA11.out.lt
        have P_0 : w11.cell? ⟨w4.heap.size, 0, none⟩ = some (.bool false) := HP11.out.cell 0
        have P_1 : w11.cell? ⟨w4.heap.size, 1, none⟩ = some (.string s) := HP11.out.cell 1
        have P_2 : w11.cell? ⟨w4.heap.size, 2, none⟩ = some (.int .i64 e) := HP11.out.cell 2
        have P_z : w4.heap.size < w11.heap.size := HP11.out.lt
        have E_0 : w11.cell? ⟨w9.heap.size, 0, none⟩ = some (.bool false) := HE11.out.cell 0
        have E_1 : w11.cell? ⟨w9.heap.size, 1, none⟩ = some (.string ⟨bl.toArray⟩) := HE11.out.cell 1
        have E_2 : w11.cell? ⟨w9.heap.size, 2, none⟩ = some (.int .i64 be) := HE11.out.cell 2
        have E_z : w9.heap.size < w11.heap.size := HE11.out.lt
        clear b11
        go_wp2_with fail
        refine (HBT2.out _ HRR.out).mono ?_
        rintro en w12 ⟨rfl, b12⟩
        have hx := HA11.out
        have HA12 := Lib.hid (hx.below b12 hx.lt)
        clear hx
        have hx := HP11.out
        have HP12 := Lib.hid (hx.below b12 hx.lt)
        clear hx
        have hx := HE11.out
        have HE12 := Lib.hid (hx.below b12 hx.lt)
        clear hx
        have B12 := Lib.hid (bthen B11.out b12)
        clear A_0 A_1 A_2 P_0 P_1 P_2 E_0 E_1 E_2 A_z P_z E_z
        have A_0 : w12.cell? ⟨w.heap.size, 0, none⟩ = some (.bool neg) := HA12.out.cell 0
        have A_1 : w12.cell? ⟨w.heap.size, 1, none⟩ = some (.string s) := HA12.out.cell 1
        have A_2 : w12.cell? ⟨w.heap.size, 2, none⟩ = some (.int .i64 e) := HA12.out.cell 2
        have A_z : w.heap.size < w12.heap.size := HA12.out.lt
        have P_0 : w12.cell? ⟨w4.heap.size, 0, none⟩ = some (.bool false) := HP12.out.cell 0
        have P_1 : w12.cell? ⟨w4.heap.size, 1, none⟩ = some (.string s) := HP12.out.cell 1
        have P_2 : w12.cell? ⟨w4.heap.size, 2, none⟩ = some (.int .i64 e) := HP12.out.cell 2
        have P_z : w4.heap.size < w12.heap.size := HP12.out.lt
        have E_0 : w12.cell? ⟨w9.heap.size, 0, none⟩ = some (.bool false) := HE12.out.cell 0
        have E_1 : w12.cell? ⟨w9.heap.size, 1, none⟩ = some (.string ⟨bl.toArray⟩) := HE12.out.cell 1
        have E_2 : w12.cell? ⟨w9.heap.size, 2, none⟩ = some (.int .i64 be) := HE12.out.cell 2
        have E_z : w9.heap.size < w12.heap.size := HE12.out.lt
        clear b12
        go_wp2_with fail
        refine (HCM2.out _ HRR.out).mono ?_
        rintro en w13 ⟨rfl, b13⟩
        have hx := (HA12.out.alloc (.cells #[.bool false, .string ⟨bl2.toArray⟩, .int .i64 be2] 23))
        have HA13 := Lib.hid (hx.below b13 hx.lt)
        clear hx
        have hx := (HP12.out.alloc (.cells #[.bool false, .string ⟨bl2.toArray⟩, .int .i64 be2] 23))
        have HP13 := Lib.hid (hx.below b13 hx.lt)
        clear hx
        have hx := (HE12.out.alloc (.cells #[.bool false, .string ⟨bl2.toArray⟩, .int .i64 be2] 23))
        have HE13 := Lib.hid (hx.below b13 hx.lt)
        clear hx
        have hx := (Blk.new w12 23 #[.bool false, .string ⟨bl2.toArray⟩, .int .i64 be2])
        have HF13 := Lib.hid (hx.below b13 hx.lt)
        clear hx
        have B13 := Lib.hid (bthen (B12.out.alloc B12.out.size (.cells #[.bool false, .string ⟨bl2.toArray⟩, .int .i64 be2] 23)) b13)
        clear A_0 A_1 A_2 P_0 P_1 P_2 E_0 E_1 E_2 A_z P_z E_z
        have A_0 : w13.cell? ⟨w.heap.size, 0, none⟩ = some (.bool neg) := HA13.out.cell 0
        have A_1 : w13.cell? ⟨w.heap.size, 1, none⟩ = some (.string s) := HA13.out.cell 1
        have A_2 : w13.cell? ⟨w.heap.size, 2, none⟩ = some (.int .i64 e) := HA13.out.cell 2
        have A_z : w.heap.size < w13.heap.size := HA13.out.lt
        have P_0 : w13.cell? ⟨w4.heap.size, 0, none⟩ = some (.bool false) := HP13.out.cell 0
        have P_1 : w13.cell? ⟨w4.heap.size, 1, none⟩ = some (.string s) := HP13.out.cell 1
        have P_2 : w13.cell? ⟨w4.heap.size, 2, none⟩ = some (.int .i64 e) := HP13.out.cell 2
        have P_z : w4.heap.size < w13.heap.size := HP13.out.lt
        have E_0 : w13.cell? ⟨w9.heap.size, 0, none⟩ = some (.bool false) := HE13.out.cell 0
        have E_1 : w13.cell? ⟨w9.heap.size, 1, none⟩ = some (.string ⟨bl.toArray⟩) := HE13.out.cell 1
        have E_2 : w13.cell? ⟨w9.heap.size, 2, none⟩ = some (.int .i64 be) := HE13.out.cell 2
        have E_z : w9.heap.size < w13.heap.size := HE13.out.lt
        have F_0 : w13.cell? ⟨w12.heap.size, 0, none⟩ = some (.bool false) := HF13.out.cell 0
        have F_1 : w13.cell? ⟨w12.heap.size, 1, none⟩ = some (.string ⟨bl2.toArray⟩) := HF13.out.cell 1
        have F_2 : w13.cell? ⟨w12.heap.size, 2, none⟩ = some (.int .i64 be2) := HF13.out.cell 2
        have F_z : w12.heap.size < w13.heap.size := HF13.out.lt
        clear b13
        rcases hdd with rfl | ⟨rfl, hd2⟩
        · go_wp2_with fail
          go_ret
          exact ⟨rfl, B13.out⟩
        · have hev : ((R : Int) % 2 == 0) = true := by rw [beq_iff_eq]; have := HRR.out; omega
          clear hd2
          go_wp2_with fail
          go_ret
          exact ⟨rfl, B13.out⟩
    · have hodd : ((R : Int) % 2 == 1) = false := by
        rw [beq_eq_false_iff_ne]
        have : ¬ R % 2 = 1 := fun h => HNP.out (.inr ⟨rfl, h⟩)
        omega
      by_cases hR0 : R = 0
      · subst hR0
        go_wp2_with fail
        go_ret
        exact ⟨rfl, B10.out⟩
      · have hr : 0 < R := by omega
        have t2 : (R : Int) - 1 = ((R - 1 : Nat) : Int) := by omega
        have t3 : ((R : Int) == 0) = false := by rw [beq_eq_false_iff_ne]; omega
        have hdd := HC2.out hr
        have HRR := Lib.hid hr
        clear hR0 hr
        go_wp2_with fail
        refine (HFL2.out _ HRR.out).mono ?_
        rintro en w11 ⟨rfl, b11⟩
        have hx := HA10.out
        have HA11 := Lib.hid (hx.below b11 hx.lt)
        clear hx
        have hx := HP10.out
        have HP11 := Lib.hid (hx.below b11 hx.lt)
        clear hx
        have hx := HE10.out
        have HE11 := Lib.hid (hx.below b11 hx.lt)
        clear hx
        have B11 := Lib.hid (bthen B10.out b11)
        clear A_0 A_1 A_2 P_0 P_1 P_2 E_0 E_1 E_2 A_z P_z E_z
        have A_0 : w11.cell? ⟨w.heap.size, 0, none⟩ = some (.bool neg) := HA11.out.cell 0
        have A_1 : w11.cell? ⟨w.heap.size, 1, none⟩ = some (.string s) := HA11.out.cell 1
        have A_2 : w11.cell? ⟨w.heap.size, 2, none⟩ = some (.int .i64 e) := HA11.out.cell 2
        have A_z : w.heap.size < w11.heap.size := HA11.out.lt
        have P_0 : w11.cell? ⟨w4.heap.size, 0, none⟩ = some (.bool false) := HP11.out.cell 0
        have P_1 : w11.cell? ⟨w4.heap.size, 1, none⟩ = some (.string s) := HP11.out.cell 1
        have P_2 : w11.cell? ⟨w4.heap.size, 2, none⟩ = some (.int .i64 e) := HP11.out.cell 2
        have P_z : w4.heap.size < w11.heap.size := HP11.out.lt
        have E_0 : w11.cell? ⟨w9.heap.size, 0, none⟩ = some (.bool false) := HE11.out.cell 0
        have E_1 : w11.cell? ⟨w9.heap.size, 1, none⟩ = some (.string ⟨bl.toArray⟩) := HE11.out.cell 1
        have E_2 : w11.cell? ⟨w9.heap.size, 2, none⟩ = some (.int .i64 be) := HE11.out.cell 2
        have E_z : w9.heap.size < w11.heap.size := HE11.out.lt
        clear b11
        go_wp2_with fail
        refine (HBT2.out _ HRR.out).mono ?_
        rintro en w12 ⟨rfl, b12⟩
        have hx := HA11.out
        have HA12 := Lib.hid (hx.below b12 hx.lt)
        clear hx
        have hx := HP11.out
        have HP12 := Lib.hid (hx.below b12 hx.lt)
        clear hx
        have hx := HE11.out
        have HE12 := Lib.hid (hx.below b12 hx.lt)
        clear hx
        have B12 := Lib.hid (bthen B11.out b12)
        clear A_0 A_1 A_2 P_0 P_1 P_2 E_0 E_1 E_2 A_z P_z E_z
        have A_0 : w12.cell? ⟨w.heap.size, 0, none⟩ = some (.bool neg) := HA12.out.cell 0
        have A_1 : w12.cell? ⟨w.heap.size, 1, none⟩ = some (.string s) := HA12.out.cell 1
        have A_2 : w12.cell? ⟨w.heap.size, 2, none⟩ = some (.int .i64 e) := HA12.out.cell 2
        have A_z : w.heap.size < w12.heap.size := HA12.out.lt
        have P_0 : w12.cell? ⟨w4.heap.size, 0, none⟩ = some (.bool false) := HP12.out.cell 0
        have P_1 : w12.cell? ⟨w4.heap.size, 1, none⟩ = some (.string s) := HP12.out.cell 1
        have P_2 : w12.cell? ⟨w4.heap.size, 2, none⟩ = some (.int .i64 e) := HP12.out.cell 2
        have P_z : w4.heap.size < w12.heap.size := HP12.out.lt
        have E_0 : w12.cell? ⟨w9.heap.size, 0, none⟩ = some (.bool false) := HE12.out.cell 0
        have E_1 : w12.cell? ⟨w9.heap.size, 1, none⟩ = some (.string ⟨bl.toArray⟩) := HE12.out.cell 1
        have E_2 : w12.cell? ⟨w9.heap.size, 2, none⟩ = some (.int .i64 be) := HE12.out.cell 2
        have E_z : w9.heap.size < w12.heap.size := HE12.out.lt
        clear b12
        go_wp2_with fail
        refine (HCM2.out _ HRR.out).mono ?_
        rintro en w13 ⟨rfl, b13⟩
        have hx := (HA12.out.alloc (.cells #[.bool false, .string ⟨bl2.toArray⟩, .int .i64 be2] 23))
        have HA13 := Lib.hid (hx.below b13 hx.lt)
        clear hx
        have hx := (HP12.out.alloc (.cells #[.bool false, .string ⟨bl2.toArray⟩, .int .i64 be2] 23))
        have HP13 := Lib.hid (hx.below b13 hx.lt)
        clear hx
        have hx := (HE12.out.alloc (.cells #[.bool false, .string ⟨bl2.toArray⟩, .int .i64 be2] 23))
        have HE13 := Lib.hid (hx.below b13 hx.lt)
        clear hx
        have hx := (Blk.new w12 23 #[.bool false, .string ⟨bl2.toArray⟩, .int .i64 be2])
        have HF13 := Lib.hid (hx.below b13 hx.lt)
        clear hx
        have B13 := Lib.hid (bthen (B12.out.alloc B12.out.size (.cells #[.bool false, .string ⟨bl2.toArray⟩, .int .i64 be2] 23)) b13)
        clear A_0 A_1 A_2 P_0 P_1 P_2 E_0 E_1 E_2 A_z P_z E_z
        have A_0 : w13.cell? ⟨w.heap.size, 0, none⟩ = some (.bool neg) := HA13.out.cell 0
        have A_1 : w13.cell? ⟨w.heap.size, 1, none⟩ = some (.string s) := HA13.out.cell 1
        have A_2 : w13.cell? ⟨w.heap.size, 2, none⟩ = some (.int .i64 e) := HA13.out.cell 2
        have A_z : w.heap.size < w13.heap.size := HA13.out.lt
        have P_0 : w13.cell? ⟨w4.heap.size, 0, none⟩ = some (.bool false) := HP13.out.cell 0
        have P_1 : w13.cell? ⟨w4.heap.size, 1, none⟩ = some (.string s) := HP13.out.cell 1
        have P_2 : w13.cell? ⟨w4.heap.size, 2, none⟩ = some (.int .i64 e) := HP13.out.cell 2
        have P_z : w4.heap.size < w13.heap.size := HP13.out.lt
        have E_0 : w13.cell? ⟨w9.heap.size, 0, none⟩ = some (.bool false) := HE13.out.cell 0
        have E_1 : w13.cell? ⟨w9.heap.size, 1, none⟩ = some (.string ⟨bl.toArray⟩) := HE13.out.cell 1
        have E_2 : w13.cell? ⟨w9.heap.size, 2, none⟩ = some (.int .i64 be) := HE13.out.cell 2
        have E_z : w9.heap.size < w13.heap.size := HE13.out.lt
        have F_0 : w13.cell? ⟨w12.heap.size, 0, none⟩ = some (.bool false) := HF13.out.cell 0
        have F_1 : w13.cell? ⟨w12.heap.size, 1, none⟩ = some (.string ⟨bl2.toArray⟩) := HF13.out.cell 1
        have F_2 : w13.cell? ⟨w12.heap.size, 2, none⟩ = some (.int .i64 be2) := HF13.out.cell 2
        have F_z : w12.heap.size < w13.heap.size := HF13.out.lt
        clear b13
        rcases hdd with rfl | ⟨rfl, hd2⟩
        · go_wp2_with fail
          go_ret
          exact ⟨rfl, B13.out⟩
        · have hev : ((R : Int) % 2 == 0) = true := by rw [beq_iff_eq]; have := HRR.out; omega
          clear hd2
          go_wp2_with fail
          go_ret
          exact ⟨rfl, B13.out⟩
    · exact absurd (.inl rfl) HNP.out
end Go.Proofs.YtncglbnnpdppjaaDoor.Num
namespace Go.Proofs.YtncglbnnpdppjaaDoor.Num
set_option exponentiation.threshold 3000
set_option linter.unusedVariables false
set_option linter.unusedSimpArgs false
set_option exponentiation.threshold 3000
open Go.Proofs.YtncglbnnpdppjaaDoor.Mem Go.Proofs.YtncglbnnpdppjaaDoor.Own Go.Proofs.YtncglbnnpdppjaaDoor.Big
theorem four {k : Nat} (hk : k < Ieee.double.infRung) (he : btE k < 0) : ∃ m, btL k = m ++ [53] ∧ Form (m ++ [52]) (btE k) ∧ near64 (m ++ [52]) (btE k) = k := by
  have hx := expo_52 hk
  have hw := bt_worth k
  have hne : btL k ≠ [] := bt_ne
  have hform := bt_form hk
  obtain ⟨m1, m2⟩ := mid2_small hk
  obtain ⟨p1, p2⟩ : -400 ≤ ((btL k).length : Int) + btE k ∧ ((btL k).length : Int) + btE k ≤ 400 := places_of (told_canon _) hne hw m1 m2 (by decide) (by decide)
  have hlt : -1074 + ((Rung.expo 52 k : Nat) : Int) - 1 < 0 := by
    apply Int.lt_of_not_ge
    intro hge
    have : 0 ≤ btE k := by
      show 0 ≤ te _ (xE _)
      unfold te xE
      rw [if_pos hge]
      split <;> omega
    omega
  obtain ⟨j, hj⟩ : ∃ j, Rung.expo 52 k + j = 1075 := ⟨1075 - Rung.expo 52 k, by omega⟩
  have hj1 : 1 ≤ j := by omega
  have hN : xN (2 * Rung.mant 52 k + 1) (-1074 + ((Rung.expo 52 k : Nat) : Int) - 1) = (2 * Rung.mant 52 k + 1) * 5 ^ j := by
    unfold xN
    rw [if_neg (by omega)]
    congr 2
    omega
  obtain ⟨N, hNd⟩ : ∃ N, N = (2 * Rung.mant 52 k + 1) * 5 ^ j := ⟨_, rfl⟩
  have hT := told_tl (xN (2 * Rung.mant 52 k + 1) (-1074 + ((Rung.expo 52 k : Nat) : Int) - 1))
  have hE : btE k = te N (-(j : Int)) := by
    show te _ (xE _) = _
    rw [hN, ← hNd]
    unfold xE
    rw [if_neg (by omega)]
    congr 1
    omega
  have hL : btL k = tl N := by
    show tl _ = _
    rw [hN, ← hNd]
  rw [hN, ← hNd] at hT
  have h5 : 5 ^ j % 2 = 1 := by
    rw [Nat.pow_mod]; simp
  have hodd : N % 2 = 1 := by
    rw [hNd, Nat.mul_mod, h5]; omega
  have h55 : N % 5 = 0 := by
    rw [hNd, show j = (j - 1) + 1 by omega, Nat.pow_succ, ← Nat.mul_assoc]
    exact Nat.mul_mod_left _ _
  have hz : tz N = 0 := by
    apply Classical.byContradiction
    intro h
    have hv := hT.val
    rw [show tz N = (tz N - 1) + 1 by omega, Nat.pow_succ, ← Nat.mul_assoc] at hv
    omega
  have hv := hT.val
  rw [hz, Nat.pow_zero, Nat.mul_one] at hv
  have hN0 : N ≠ 0 := by omega
  have hE2 : btE k = -(j : Int) := by
    rw [hE]
    unfold te
    rw [if_neg hN0, hz]
    omega
  have hc := told_canon N
  rw [hL] at hne p1 p2 hw ⊢
  rw [hE2] at p1 p2 hw ⊢
  obtain ⟨m, c, hm⟩ := snoc_of hne
  have hcd := hc.digs c (by rw [hm]; simp)
  have hdv := hv
  rw [hm, dval_snoc] at hdv
  have hc53 : c.toNat = 53 := by omega
  have hc53' : c = 53 := UInt8.toNat_inj.1 hc53
  subst hc53'
  have hd4 : dval (m ++ [52]) = N - 1 := by
    rw [dval_snoc, show (52 : UInt8).toNat - 48 = 4 from rfl]
    omega
  have hcan : Canon (m ++ [52]) := by
    refine ⟨fun d hd => ?_, fun d hd => ?_, fun d hd => ?_⟩
    · rcases List.mem_append.1 hd with hd | hd
      · exact hc.digs d (by rw [hm]; simp [hd])
      · simp at hd; subst hd; decide
    · cases m with
      | nil => simp at hd; subst hd; decide
      | cons a m => exact hc.head d (by rw [hm]; simpa using hd)
    · simp at hd; subst hd; decide
  have hlen : (m ++ [(52 : UInt8)]).length = (tl N).length := by rw [hm]; simp
  refine ⟨m, hm, ?_, ?_⟩
  · refine .inr ⟨by simp, hcan, ?_⟩
    rw [hE2] at hform
    exact hform.canon.2
  · have hrD : rD (-(j : Int)) = 10 ^ j := by unfold rD; congr 1; omega
    have hrN : ∀ l, rN l (-(j : Int)) = dval l := by intro l; unfold rN; rw [show (-(j : Int)).toNat = 0 by omega, Nat.pow_zero, Nat.mul_one]
    refine near_unique (by decide) hcan (by simp) (by rw [hlen]; exact p1) (by rw [hlen]; exact p2) (fun n => ?_) (by rw [inf_num] at hk; omega)
    unfold past
    rw [hrD, hrN, hd4]
    rw [hrD, hrN, hv] at hw
    have hC : (2 : Nat) ^ 1075 = 2 * 2 ^ 1074 := Nat.pow_succ' ..
    have hWk : Rung.W 52 k * 10 ^ j = 2 * Rung.mant 52 k * 5 ^ j * 2 ^ 1074 := by
      unfold Rung.W
      rw [show (10 : Nat) = 2 * 5 from rfl, Nat.mul_pow]
      have : 2 ^ Rung.expo 52 k * 2 ^ j = 2 * 2 ^ 1074 := by rw [← Nat.pow_add, hj, hC]
      generalize (2 : Nat) ^ 1074 = C at *
      calc Rung.mant 52 k * 2 ^ Rung.expo 52 k * (2 ^ j * 5 ^ j) = Rung.mant 52 k * (2 ^ Rung.expo 52 k * 2 ^ j) * 5 ^ j := by grind
        _ = Rung.mant 52 k * (2 * C) * 5 ^ j := by rw [this]
        _ = 2 * Rung.mant 52 k * 5 ^ j * C := by grind
    have hp : 0 < (2 : Nat) ^ 1074 := Nat.pow_pos (by decide)
    have h10 : 0 < 10 ^ j := Nat.pow_pos (by decide)
    rw [hC] at hw
    generalize (2 : Nat) ^ 1074 = C at *
    have h51 : 0 < 5 ^ j := Nat.pow_pos (by decide)
    have hle : Rung.W 52 k * 10 ^ j ≤ (N - 1) * C := by
      rw [hWk]
      refine Nat.mul_le_mul_right _ ?_
      rw [hNd, Nat.add_mul, Nat.one_mul]
      omega
    constructor
    · intro hnk
      left
      have h1 := Nat.mul_lt_mul_of_pos_right (Rung.mid2_low (b := 52) hnk) h10
      rw [Nat.mul_assoc] at h1
      omega
    · intro hpast
      apply Nat.lt_of_not_le
      intro hkn
      have h1 : Rung.mid2 52 k ≤ Rung.mid2 52 n := by
        rcases Nat.eq_or_lt_of_le hkn with h | h
        · rw [h]; exact Nat.le_refl _
        · exact Nat.le_of_lt (Rung.mid2_lt h)
      have h2 := Nat.mul_le_mul_right (10 ^ j) h1
      have h3 : (N - 1) * C + C = N * C := by
        have : N * C = (N - 1 + 1) * C := by congr 1; omega
        rw [this, Nat.add_mul, Nat.one_mul]
      have h4 : N * (2 * C) = 2 * (N * C) := by grind
      omega
/-- A float lies below the middle behind it. -/
theorem ex_bt_pos (n : Nat) : dcmp false (exL n) (exE n) false (btL n) (btE n) = -1 := by
  rw [cmp_mid, ex_worth]
  have hq := rD_pos (exE n)
  rw [show 2 * (Rung.W 52 n * rD (exE n)) = 2 * Rung.W 52 n * rD (exE n) by rw [Nat.mul_assoc], cmpI_mul hq]
  refine cmpI_l ?_
  have h1 := Rung.mid2_eq 52 n
  have h2 := Rung.W_lt_succ 52 n
  omega
theorem ex_bt_neg {n : Nat} (h : 0 < n) : dcmp true (exL n) (exE n) true (btL (n - 1)) (btE (n - 1)) = -1 := by
  have h1 := cmp_mid (exL n) (exE n) (n - 1)
  rw [ex_worth] at h1
  have hq := rD_pos (exE n)
  rw [show 2 * (Rung.W 52 n * rD (exE n)) = 2 * Rung.W 52 n * rD (exE n) by rw [Nat.mul_assoc], cmpI_mul hq, cmpI_g (Rung.mid2_low (by omega))] at h1
  unfold dcmp at h1 ⊢
  have h2 : cmpI (rN (exL n) (exE n) * rD (btE (n - 1))) (rN (btL (n - 1)) (btE (n - 1)) * rD (exE n)) = 1 := by
    rw [← cmpZ_nat]; exact h1
  show cmpZ (-((rN (exL n) (exE n) * rD (btE (n - 1)) : Nat) : Int)) (-((rN (btL (n - 1)) (btE (n - 1)) * rD (exE n) : Nat) : Int)) = -1
  rw [cmpZ_neg, h2]
theorem ex_bt_zero : dcmp true (exL 0) (exE 0) false (btL 0) (btE 0) = -1 := by
  unfold dcmp
  rw [ex_nil.2 rfl, rN_nil, Nat.zero_mul]
  have h : 0 < rN (btL 0) (btE 0) * rD (exE 0) := Nat.mul_pos (Nat.pos_of_ne_zero (rN_pos (told_canon _).ok bt_ne _)) (rD_pos _)
  refine cmpZ_l ?_
  unfold Rung.sgn
  simp only [if_true, Bool.false_eq_true, if_false]
  omega
end Go.Proofs.YtncglbnnpdppjaaDoor.Num
namespace Go.Proofs.YtncglbnnpdppjaaDoor.Num
set_option exponentiation.threshold 3000
set_option linter.unusedVariables false
set_option linter.unusedSimpArgs false
set_option exponentiation.threshold 3000
open Go.RowKit Go.Proofs.YtncglbnnpdppjaaDoor.Mem Go.Proofs.YtncglbnnpdppjaaDoor.Own Go.Proofs.YtncglbnnpdppjaaDoor.Big
open Ieee (double single)
theorem exw_w (s : Bool) (n : Nat) (w : World) (hn : n < double.infRung) :
    Calls Tryd.prog 17 #[.float .f64 (double.word s n)] w (BtPost w s (exL n) (exE n)) := exact_yes s n w hn
theorem btn_w (n : Nat) (w : World) (hn : n < double.infRung) (h0 : 0 < n) :
    Calls Tryd.prog 19 #[.float .f64 (double.word true n)] w (BtPost w true (btL (n - 1)) (btE (n - 1))) := between_neg n w hn h0
theorem btz_w (w : World) :
    Calls Tryd.prog 19 #[.float .f64 (double.word true 0)] w (BtPost w false (btL 0) (btE 0)) := between_nz w
theorem widen_inf (s : Bool) (w : World) : (convert 31 24 (.float .f32 (single.word s single.infRung))).run Tryd.prog w = .ok (.float .f64 (double.word s double.infRung)) w := by
  refine run_convert_float_float w 31 24 .f32 .f64 _ _ (by rw [Tryd.underlying31]; rfl) Tryd.underlying24 ?_
  unfold floatToFloatBits
  rw [if_neg (by decide)]
  show (match single.read (single.word s single.infRung) with | .nan _ _ => none | .infinity s => some (double.write (.infinity s)) | .number s m e => _) = _
  rw [Rung.read_inf Rung.sgl_bin]
  rfl
theorem widen_nan (s : Bool) (n : Nat) (w : World) (h1 : single.infRung < n) (h2 : n < single.signWeight) : ∃ t v, v < double.signWeight ∧ double.infRung < v ∧ (convert 31 24 (.float .f32 (single.word s n))).run Tryd.prog w = .ok (.float .f64 (double.word t v)) w.drew := by
  have hr := Rung.read_nan (s := s) Rung.sgl_bin h1 h2
  have hd : FloatKind.f32.decode (single.word s n) = .nan s (n - single.infRung) := hr
  obtain ⟨q, hq⟩ : ∃ q, q = w.tape w.drawn (Question.nanConv .f64 (single.word s n)) := ⟨_, rfl⟩
  have hw : double.signWeight = 9223372036854775808 := by decide
  have hi : double.infRung = 9218868437227405312 := by decide
  refine ⟨decide (q % 2 = 1), 9218868437227405312 + 1 + (q / 2) % 4503599627370495, by rw [hw]; omega, by rw [hi]; omega, ?_⟩
  generalize single.word s n = x at hd hq ⊢
  simp [convert, run_underlying Tryd.underlying31, run_underlying Tryd.underlying24, Conv.floatToFloat, hd, Question.forced, ← hq, Question.cut, Ieee.Format.word, hw]
  split <;> omega
def FpPost (w : World) (x : Nat) (e : Ending) (w' : World) : Prop := e = .returned (.tuple #[.float .f64 x, .int .i64 0]) ∧ Below w.heap.size w w'
def Fp32Post (w : World) (x : Nat) (e : Ending) (w' : World) : Prop := e = .returned (.tuple #[.float .f32 x, .int .i64 0]) ∧ Below w.heap.size w w'
theorem back_of (s : Bool) (n : Nat) (w : World) (hn : n < double.infRung) :
    Calls Tryd.prog 11 #[.agg #[.bool s, .string ⟨(exL n).toArray⟩, .int .i64 (exE n)]] w (FpPost w (double.word s n)) := by
  refine (of_yes s ⟨(exL n).toArray⟩ (exE n) w (ex_form hn) (size_of _ (ex_len hn))).mono fun e w' h => ?_
  obtain ⟨rfl, hb⟩ := h
  refine ⟨?_, hb⟩
  rw [show near64 ((⟨(exL n).toArray⟩ : ByteArray).data.toList) (exE n) = n from near_ex hn, ofV_ok (by rw [inf_num] at hn; omega)]
theorem back_of32 (s : Bool) (n n' : Nat) (w : World) (hn : n < single.infRung) (hn' : n' < double.infRung) (hW : Rung.W 52 n' = Rung.W 23 n * 2 ^ 925) :
    Calls Tryd.prog 15 #[.agg #[.bool s, .string ⟨(exL n').toArray⟩, .int .i64 (exE n')]] w (Fp32Post w (single.word s n)) := by
  refine (of32_yes s ⟨(exL n').toArray⟩ (exE n') w (ex_form hn') (size_of _ (ex_len hn'))).mono fun e w' h => ?_
  obtain ⟨rfl, hb⟩ := h
  refine ⟨?_, hb⟩
  rw [show near32 ((⟨(exL n').toArray⟩ : ByteArray).data.toList) (exE n') = n from near_ex32 hn hn' hW, ofV32_ok (by rw [sgl_inf] at hn; omega)]
theorem ex_formed (s : Bool) (n : Nat) (w : World) (hn : n < double.infRung) :
    Calls Tryd.prog 22 #[.agg #[.bool s, .string ⟨(exL n).toArray⟩, .int .i64 (exE n)]] w (TruePost w) := by
  refine (formed_w s ⟨(exL n).toArray⟩ (exE n) w (size_of _ (ex_len hn))).mono fun e w' h => ?_
  obtain ⟨b, rfl, hb, hbel⟩ := h
  exact ⟨by rw [hb.2 (ex_form hn)], hbel⟩
def OvPost (w : World) (e : Ending) (w' : World) : Prop := e = .returned (.tuple #[.float .f64 0, .int .i64 121]) ∧ Below w.heap.size w w'
theorem of_ok (neg : Bool) (l : List UInt8) (e : Int) (r : Nat) (w : World) (hf : Form l e) (hl : l.length ≤ 3000) (hr : near64 l e = r) (h : r ≠ 9218868437227405312) :
    Calls Tryd.prog 11 #[.agg #[.bool neg, .string ⟨l.toArray⟩, .int .i64 e]] w (FpPost w (double.word neg r)) := by
  refine (of_yes neg ⟨l.toArray⟩ e w hf (size_of _ hl)).mono fun en w' hh => ?_
  obtain ⟨rfl, hb⟩ := hh
  refine ⟨?_, hb⟩
  rw [show near64 ((⟨l.toArray⟩ : ByteArray).data.toList) e = r from hr, ofV_ok h]
theorem of_over (neg : Bool) (l : List UInt8) (e : Int) (w : World) (hf : Form l e) (hl : l.length ≤ 3000) (hr : near64 l e = 9218868437227405312) :
    Calls Tryd.prog 11 #[.agg #[.bool neg, .string ⟨l.toArray⟩, .int .i64 e]] w (OvPost w) := by
  refine (of_yes neg ⟨l.toArray⟩ e w hf (size_of _ hl)).mono fun en w' hh => ?_
  obtain ⟨rfl, hb⟩ := hh
  refine ⟨?_, hb⟩
  rw [show near64 ((⟨l.toArray⟩ : ByteArray).data.toList) e = _ from hr, ofV_over]
theorem last53 (s : ByteArray) (m : List UInt8) (hs : s = ⟨(m ++ [53]).toArray⟩) (i : Nat) (hi : i = m.length) (h : i < s.size) : ((((s[i]'h).toNat : Nat) : Int) != 53) = false := by
  subst hs; subst hi
  have : (⟨(m ++ [53]).toArray⟩ : ByteArray)[m.length]'h = 53 := by
    show (m ++ [53]).toArray[m.length]'_ = 53
    simp
  rw [this]; rfl
theorem cut53 (s : ByteArray) (m : List UInt8) (hs : s = ⟨(m ++ [53]).toArray⟩) : s.size = m.length + 1 ∧ s.extract 0 (s.size - 1) ++ ⟨#[52]⟩ = ⟨(m ++ [52]).toArray⟩ := by
  have hz : s.size = m.length + 1 := by subst hs; simp [ByteArray.size]
  refine ⟨hz, ?_⟩
  rw [hz, Nat.add_sub_cancel]
  subst hs
  apply ByteArray.ext
  simp
def BsPost (w : World) (neg : Bool) (s : ByteArray) (e : Int) (en : Ending) (w' : World) : Prop := en = .returned (.tuple #[.agg #[.bool neg, .string s, .int .i64 e], .int .i64 0]) ∧ Below w.heap.size w w'
theorem floatsNearest_w (neg : Bool) (s : ByteArray) (e : Int) (w : World) (hsm : s.size < 140737488355328) :
    Calls Tryd.prog 9 #[.agg #[.bool neg, .string s, .int .i64 e]] w (TruePost w) := by
  by_cases h : Form s.data.toList e
  · exact floatsNearest_yes neg s e w hsm h
  · exact floatsNearest_no neg s e w hsm h
set_option maxHeartbeats 40000000 in
set_option maxRecDepth 100000 in
theorem floatsBack_no (s : Bool) (n : Nat) (x : Nat) (h : double.infRung ≤ n) (h' : n < double.signWeight) (w : World) :
    Calls Tryd.prog 7 #[.float .f64 (double.word s n), .float .f32 x] w (TruePost w) := by
  have HE := Lib.hid (fun W => exact_no s n W h h')
  have HB := Lib.hid (fun W => between_no s n W h h')
  have HF := Lib.hid (fun W => fin_no s n W h h')
  clear h h'
  go_enter Tryd.func7, Tryd.ntmps7
  go_wp2_with fail
  refine (awake_w _).mono ?_
  rintro en w1 ⟨rfl, b1⟩
  have B1 := Lib.hid (bthen (Below.refl _ w) b1)
  clear b1
  go_wp2_with fail
  refine (HE.out _).mono ?_
  rintro en w2 ⟨rfl, b2⟩
  have B2 := Lib.hid (bthen B1.out b2)
  clear b2
  unfold decV
  go_wp2_with fail
  refine (HF.out _).mono ?_
  rintro en w3 ⟨rfl, hw3⟩
  have b3 : Below (w2.alloc (.cells #[.bool false, .string ⟨#[]⟩, .int .i64 0] 23)).heap.size (w2.alloc (.cells #[.bool false, .string ⟨#[]⟩, .int .i64 0] 23)) w3 := by rw [hw3]; exact bdrewN (Below.refl _ _) 1
  clear hw3
  have hx := (Blk.new w2 23 #[.bool false, .string ⟨#[]⟩, .int .i64 0])
  have HD3 := Lib.hid (hx.below b3 hx.lt)
  clear hx
  have B3 := Lib.hid (bthen (B2.out.alloc B2.out.size (.cells #[.bool false, .string ⟨#[]⟩, .int .i64 0] 23)) b3)
  have D_0 : w3.cell? ⟨w2.heap.size, 0, none⟩ = some (.bool false) := HD3.out.cell 0
  have D_1 : w3.cell? ⟨w2.heap.size, 1, none⟩ = some (.string ⟨#[]⟩) := HD3.out.cell 1
  have D_2 : w3.cell? ⟨w2.heap.size, 2, none⟩ = some (.int .i64 0) := HD3.out.cell 2
  have D_z : w2.heap.size < w3.heap.size := HD3.out.lt
  clear b3
  go_wp2_with fail
  refine (HB.out _).mono ?_
  rintro en w4 ⟨rfl, b4⟩
  have hx := HD3.out
  have HD4 := Lib.hid (hx.below b4 hx.lt)
  clear hx
  have B4 := Lib.hid (bthen B3.out b4)
  clear D_0 D_1 D_2 D_z
  have D_0 : w4.cell? ⟨w2.heap.size, 0, none⟩ = some (.bool false) := HD4.out.cell 0
  have D_1 : w4.cell? ⟨w2.heap.size, 1, none⟩ = some (.string ⟨#[]⟩) := HD4.out.cell 1
  have D_2 : w4.cell? ⟨w2.heap.size, 2, none⟩ = some (.int .i64 0) := HD4.out.cell 2
  have D_z : w2.heap.size < w4.heap.size := HD4.out.lt
  clear b4
  unfold decV
  go_wp2_with fail
  go_ret
  exact ⟨rfl, (B4.out.alloc B4.out.size (.cells #[.bool false, .string ⟨#[]⟩, .int .i64 0] 23))⟩
set_option maxHeartbeats 40000000 in
set_option maxRecDepth 100000 in
theorem floatsBack_inf (s : Bool) (n : Nat) (t : Bool) (h : n < double.infRung) (w : World) :
    Calls Tryd.prog 7 #[.float .f64 (double.word s n), .float .f32 (single.word t single.infRung)] w (TruePost w) := by
  have HE := Lib.hid (fun W => exw_w s n W h)
  have HO := Lib.hid (fun W => back_of s n W h)
  have HF := Lib.hid (fun W => fin_yes s n W h)
  have HS := Lib.hid (fun W => same_w s n W h)
  have HM := Lib.hid (fun W => ex_formed s n W h)
  generalize hl : exL n = l at *
  generalize he : exE n = e at *
  clear hl he
  have HFX := Lib.hid (fun W => fin_no t double.infRung W (Nat.le_refl _) (Rung.inf_lt _))
  have HC := widen_inf t
  go_enter Tryd.func7, Tryd.ntmps7
  go_wp2_with fail
  refine (awake_w _).mono ?_
  rintro en w1 ⟨rfl, b1⟩
  have B1 := Lib.hid (bthen (Below.refl _ w) b1)
  clear b1
  go_wp2_with fail
  refine (HE.out _).mono ?_
  rintro en w2 ⟨rfl, b2⟩
  have B2 := Lib.hid (bthen B1.out b2)
  clear b2
  go_wp2_with fail
  refine (HF.out _).mono ?_
  rintro en w3 ⟨rfl, hw3⟩
  subst hw3
  go_wp2_with fail
  refine (HO.out _).mono ?_
  rintro en w3 ⟨rfl, b3⟩
  have hx := (Blk.new w2 23 #[.bool s, .string ⟨l.toArray⟩, .int .i64 e])
  have HD3 := Lib.hid (hx.below b3 hx.lt)
  clear hx
  have B3 := Lib.hid (bthen (B2.out.alloc B2.out.size (.cells #[.bool s, .string ⟨l.toArray⟩, .int .i64 e] 23)) b3)
  have D_0 : w3.cell? ⟨w2.heap.size, 0, none⟩ = some (.bool s) := HD3.out.cell 0
  have D_1 : w3.cell? ⟨w2.heap.size, 1, none⟩ = some (.string ⟨l.toArray⟩) := HD3.out.cell 1
  have D_2 : w3.cell? ⟨w2.heap.size, 2, none⟩ = some (.int .i64 e) := HD3.out.cell 2
  have D_z : w2.heap.size < w3.heap.size := HD3.out.lt
  clear b3
  go_wp2_with fail
  refine (HS.out _).mono ?_
  rintro en w5 ⟨rfl, hw5⟩
  subst hw5
  go_wp2_with fail
  refine (HM.out _).mono ?_
  rintro en w6 ⟨rfl, b6⟩
  have hx := HD3.out
  have HD6 := Lib.hid (hx.below b6 hx.lt)
  clear hx
  have B6 := Lib.hid (bthen B3.out b6)
  clear D_0 D_1 D_2 D_z
  have D_0 : w6.cell? ⟨w2.heap.size, 0, none⟩ = some (.bool s) := HD6.out.cell 0
  have D_1 : w6.cell? ⟨w2.heap.size, 1, none⟩ = some (.string ⟨l.toArray⟩) := HD6.out.cell 1
  have D_2 : w6.cell? ⟨w2.heap.size, 2, none⟩ = some (.int .i64 e) := HD6.out.cell 2
  have D_z : w2.heap.size < w6.heap.size := HD6.out.lt
  clear b6
  go_wp2_with (simp only [HC])
  refine (HFX.out _).mono ?_
  rintro en w7 ⟨rfl, hw7⟩
  have b7 : Below w6.heap.size w6 w7 := by rw [hw7]; exact bdrewN (Below.refl _ _) 1
  clear hw7
  have hx := HD6.out
  have HD7 := Lib.hid (hx.below b7 hx.lt)
  clear hx
  have B7 := Lib.hid (bthen B6.out b7)
  clear D_0 D_1 D_2 D_z
  have D_0 : w7.cell? ⟨w2.heap.size, 0, none⟩ = some (.bool s) := HD7.out.cell 0
  have D_1 : w7.cell? ⟨w2.heap.size, 1, none⟩ = some (.string ⟨l.toArray⟩) := HD7.out.cell 1
  have D_2 : w7.cell? ⟨w2.heap.size, 2, none⟩ = some (.int .i64 e) := HD7.out.cell 2
  have D_z : w2.heap.size < w7.heap.size := HD7.out.lt
  clear b7
  go_wp2_with fail
  go_ret
  exact ⟨rfl, B7.out⟩
set_option maxHeartbeats 40000000 in
set_option maxRecDepth 100000 in
theorem floatsBack_nan (s : Bool) (n : Nat) (t : Bool) (m : Nat) (h : n < double.infRung) (h1 : single.infRung < m) (h2 : m < single.signWeight) (w : World) :
    Calls Tryd.prog 7 #[.float .f64 (double.word s n), .float .f32 (single.word t m)] w (TruePost w) := by
  have HE := Lib.hid (fun W => exw_w s n W h)
  have HO := Lib.hid (fun W => back_of s n W h)
  have HF := Lib.hid (fun W => fin_yes s n W h)
  have HS := Lib.hid (fun W => same_w s n W h)
  have HM := Lib.hid (fun W => ex_formed s n W h)
  generalize hl : exL n = l at *
  generalize he : exE n = e at *
  clear hl he
  have HC := Lib.hid (fun W => widen_nan t m W h1 h2)
  clear h1 h2
  go_enter Tryd.func7, Tryd.ntmps7
  go_wp2_with fail
  refine (awake_w _).mono ?_
  rintro en w1 ⟨rfl, b1⟩
  have B1 := Lib.hid (bthen (Below.refl _ w) b1)
  clear b1
  go_wp2_with fail
  refine (HE.out _).mono ?_
  rintro en w2 ⟨rfl, b2⟩
  have B2 := Lib.hid (bthen B1.out b2)
  clear b2
  go_wp2_with fail
  refine (HF.out _).mono ?_
  rintro en w3 ⟨rfl, hw3⟩
  subst hw3
  go_wp2_with fail
  refine (HO.out _).mono ?_
  rintro en w3 ⟨rfl, b3⟩
  have hx := (Blk.new w2 23 #[.bool s, .string ⟨l.toArray⟩, .int .i64 e])
  have HD3 := Lib.hid (hx.below b3 hx.lt)
  clear hx
  have B3 := Lib.hid (bthen (B2.out.alloc B2.out.size (.cells #[.bool s, .string ⟨l.toArray⟩, .int .i64 e] 23)) b3)
  have D_0 : w3.cell? ⟨w2.heap.size, 0, none⟩ = some (.bool s) := HD3.out.cell 0
  have D_1 : w3.cell? ⟨w2.heap.size, 1, none⟩ = some (.string ⟨l.toArray⟩) := HD3.out.cell 1
  have D_2 : w3.cell? ⟨w2.heap.size, 2, none⟩ = some (.int .i64 e) := HD3.out.cell 2
  have D_z : w2.heap.size < w3.heap.size := HD3.out.lt
  clear b3
  go_wp2_with fail
  refine (HS.out _).mono ?_
  rintro en w5 ⟨rfl, hw5⟩
  subst hw5
  go_wp2_with fail
  refine (HM.out _).mono ?_
  rintro en w6 ⟨rfl, b6⟩
  have hx := HD3.out
  have HD6 := Lib.hid (hx.below b6 hx.lt)
  clear hx
  have B6 := Lib.hid (bthen B3.out b6)
  clear D_0 D_1 D_2 D_z
  have D_0 : w6.cell? ⟨w2.heap.size, 0, none⟩ = some (.bool s) := HD6.out.cell 0
  have D_1 : w6.cell? ⟨w2.heap.size, 1, none⟩ = some (.string ⟨l.toArray⟩) := HD6.out.cell 1
  have D_2 : w6.cell? ⟨w2.heap.size, 2, none⟩ = some (.int .i64 e) := HD6.out.cell 2
  have D_z : w2.heap.size < w6.heap.size := HD6.out.lt
  clear b6
  obtain ⟨u, v, hv1, hv2, hrun⟩ := HC.out w6
  have HFX := Lib.hid (fun W => fin_no u v W (Nat.le_of_lt hv2) hv1)
  clear hv1 hv2
  go_wp2_with (simp only [hrun])
  refine (HFX.out _).mono ?_
  rintro en w7 ⟨rfl, hw7⟩
  have b7 : Below w6.heap.size w6 w7 := by rw [hw7]; exact bdrewN (bdrewN (Below.refl _ _) 1) 1
  clear hw7
  have hx := HD6.out
  have HD7 := Lib.hid (hx.below b7 hx.lt)
  clear hx
  have B7 := Lib.hid (bthen B6.out b7)
  clear D_0 D_1 D_2 D_z
  have D_0 : w7.cell? ⟨w2.heap.size, 0, none⟩ = some (.bool s) := HD7.out.cell 0
  have D_1 : w7.cell? ⟨w2.heap.size, 1, none⟩ = some (.string ⟨l.toArray⟩) := HD7.out.cell 1
  have D_2 : w7.cell? ⟨w2.heap.size, 2, none⟩ = some (.int .i64 e) := HD7.out.cell 2
  have D_z : w2.heap.size < w7.heap.size := HD7.out.lt
  clear b7
  go_wp2_with fail
  go_ret
  exact ⟨rfl, B7.out⟩
set_option maxHeartbeats 40000000 in
set_option maxRecDepth 100000 in
theorem floatsBack_fin (s : Bool) (n : Nat) (t : Bool) (m m' : Nat) (h : n < double.infRung) (hm : m < single.infRung) (hm' : m' < double.infRung) (hW : Rung.W 52 m' = Rung.W 23 m * 2 ^ 925) (w : World) :
    Calls Tryd.prog 7 #[.float .f64 (double.word s n), .float .f32 (single.word t m)] w (TruePost w) := by
  have HE := Lib.hid (fun W => exw_w s n W h)
  have HO := Lib.hid (fun W => back_of s n W h)
  have HF := Lib.hid (fun W => fin_yes s n W h)
  have HS := Lib.hid (fun W => same_w s n W h)
  have HM := Lib.hid (fun W => ex_formed s n W h)
  generalize hl : exL n = l at *
  generalize he : exE n = e at *
  clear hl he
  have hc := widen_run (neg := t) hm hm' hW
  have HFX := Lib.hid (fun W => fin_yes t m' W hm')
  have HEX := Lib.hid (fun W => exw_w t m' W hm')
  have HOX := Lib.hid (fun W => back_of32 t m m' W hm hm' hW)
  have HSX := Lib.hid (fun W => same_w t m' W hm')
  generalize hl : exL m' = lx at *
  generalize he : exE m' = ex at *
  clear hl he hW
  go_enter Tryd.func7, Tryd.ntmps7
  go_wp2_with fail
  refine (awake_w _).mono ?_
  rintro en w1 ⟨rfl, b1⟩
  have B1 := Lib.hid (bthen (Below.refl _ w) b1)
  clear b1
  go_wp2_with fail
  refine (HE.out _).mono ?_
  rintro en w2 ⟨rfl, b2⟩
  have B2 := Lib.hid (bthen B1.out b2)
  clear b2
  go_wp2_with fail
  refine (HF.out _).mono ?_
  rintro en w3 ⟨rfl, hw3⟩
  subst hw3
  go_wp2_with fail
  refine (HO.out _).mono ?_
  rintro en w3 ⟨rfl, b3⟩
  have hx := (Blk.new w2 23 #[.bool s, .string ⟨l.toArray⟩, .int .i64 e])
  have HD3 := Lib.hid (hx.below b3 hx.lt)
  clear hx
  have B3 := Lib.hid (bthen (B2.out.alloc B2.out.size (.cells #[.bool s, .string ⟨l.toArray⟩, .int .i64 e] 23)) b3)
  have D_0 : w3.cell? ⟨w2.heap.size, 0, none⟩ = some (.bool s) := HD3.out.cell 0
  have D_1 : w3.cell? ⟨w2.heap.size, 1, none⟩ = some (.string ⟨l.toArray⟩) := HD3.out.cell 1
  have D_2 : w3.cell? ⟨w2.heap.size, 2, none⟩ = some (.int .i64 e) := HD3.out.cell 2
  have D_z : w2.heap.size < w3.heap.size := HD3.out.lt
  clear b3
  go_wp2_with fail
  refine (HS.out _).mono ?_
  rintro en w5 ⟨rfl, hw5⟩
  subst hw5
  go_wp2_with fail
  refine (HM.out _).mono ?_
  rintro en w6 ⟨rfl, b6⟩
  have hx := HD3.out
  have HD6 := Lib.hid (hx.below b6 hx.lt)
  clear hx
  have B6 := Lib.hid (bthen B3.out b6)
  clear D_0 D_1 D_2 D_z
  have D_0 : w6.cell? ⟨w2.heap.size, 0, none⟩ = some (.bool s) := HD6.out.cell 0
  have D_1 : w6.cell? ⟨w2.heap.size, 1, none⟩ = some (.string ⟨l.toArray⟩) := HD6.out.cell 1
  have D_2 : w6.cell? ⟨w2.heap.size, 2, none⟩ = some (.int .i64 e) := HD6.out.cell 2
  have D_z : w2.heap.size < w6.heap.size := HD6.out.lt
  clear b6
  go_wp2_with (simp only [hc])
  refine (HFX.out _).mono ?_
  rintro en w7 ⟨rfl, hw7⟩
  subst hw7
  go_wp2_with (simp only [hc])
  refine (HEX.out _).mono ?_
  rintro en w8 ⟨rfl, b8⟩
  have hx := HD6.out
  have HD8 := Lib.hid (hx.below b8 hx.lt)
  clear hx
  have B8 := Lib.hid (bthen B6.out b8)
  clear D_0 D_1 D_2 D_z
  have D_0 : w8.cell? ⟨w2.heap.size, 0, none⟩ = some (.bool s) := HD8.out.cell 0
  have D_1 : w8.cell? ⟨w2.heap.size, 1, none⟩ = some (.string ⟨l.toArray⟩) := HD8.out.cell 1
  have D_2 : w8.cell? ⟨w2.heap.size, 2, none⟩ = some (.int .i64 e) := HD8.out.cell 2
  have D_z : w2.heap.size < w8.heap.size := HD8.out.lt
  clear b8
  have D_f0 := HD8.out.frozen 0
  have D_f1 := HD8.out.frozen 1
  have D_f2 := HD8.out.frozen 2
  go_wp2_with (simp only [hc])
  have hws : w.heap.size ≤ w2.heap.size := B2.out.size
  refine (HOX.out _).mono ?_
  rintro en w9 ⟨rfl, b9⟩
  have B9 := Lib.hid (bthen (((B8.out.setCell (p := ⟨w2.heap.size, 0, none⟩) hws (.bool t)).setCell (p := ⟨w2.heap.size, 1, none⟩) hws (.string ⟨lx.toArray⟩)).setCell (p := ⟨w2.heap.size, 2, none⟩) hws (.int .i64 ex)) b9)
  clear b9
  go_wp2_with (simp only [hc])
  refine (HSX.out _).mono ?_
  rintro en w10 ⟨rfl, hw10⟩
  subst hw10
  go_wp2_with (simp only [hc])
  go_ret
  exact ⟨rfl, B9.out⟩
theorem floatsBack_w (x y : Nat) (w : World) (hx : x < 2 ^ 64) (hy : y < 2 ^ 32) :
    Calls Tryd.prog 7 #[.float .f64 x, .float .f32 y] w (TruePost w) := by
  obtain ⟨s, n, hn, rfl⟩ := Rung.word_of (f := double) (x := x) (Nat.lt_of_lt_of_le hx (by decide))
  obtain ⟨t, m, hm, rfl⟩ := Rung.word_of (f := single) (x := y) (Nat.lt_of_lt_of_le hy (by decide))
  by_cases h : n < double.infRung
  · by_cases h1 : m < single.infRung
    · obtain ⟨m', hm', hW⟩ := Rung.has_wide h1
      exact floatsBack_fin s n t m m' h h1 hm' hW w
    · by_cases h2 : m = single.infRung
      · subst h2
        exact floatsBack_inf s n t h w
      · exact floatsBack_nan s n t m h (by omega) hm w
  · exact floatsBack_no s n _ (by omega) hn w
set_option maxHeartbeats 40000000 in
set_option maxRecDepth 100000 in
theorem middle_n_odd (k : Nat) (w : World) (hk : k + 1 < double.infRung) (hv : k % 2 = 1)  :
    Calls Tryd.prog 10 #[.float .f64 (double.word true (k + 1))] w (TruePost w) := by
  have hki : k < double.infRung := by omega
  have hkn : k < 9218868437227405312 := by rw [← inf_num]; exact hki
  have hB : ∀ W, Calls Tryd.prog 19 #[.float .f64 (double.word true (k + 1))] W (BtPost W true (btL k) (btE k)) := fun W => btn_w (k + 1) W hk (by omega)
  have hC : dcmp true (exL (k + 1)) (exE (k + 1)) true (btL k) (btE k) = -1 := ex_bt_neg (n := k + 1) (by omega)
  have hlt := (ord_zero (s := true) (n := k + 1) hk (o := .lt) (by rw [cmp_lt]; unfold Rung.sgn; simp)).lt
  rw [lt_lt] at hlt
  have hu : IntKind.u64.wrap (((k + 1 : Nat) : Int) - 1) = ((k : Nat) : Int) := by rw [show (((k + 1 : Nat) : Int) - 1) = ((k : Nat) : Int) by omega]; exact wraps_u64 _ (by omega) (by omega)
  have HB := Lib.hid hB
  have HF := Lib.hid (fun W => fin_yes true (k + 1) W hk)
  have HE := Lib.hid (fun W => exw_w true (k + 1) W hk)
  have hcm := fun W => dcmp_w true ⟨(exL (k + 1)).toArray⟩ (exE (k + 1)) true ⟨(btL k).toArray⟩ (btE k) W (ex_form hk) (bt_form hki) (size_of _ (ex_len hk)) (size_of _ (bt_len hki))
  simp only [show dcmp true ((⟨(exL (k + 1)).toArray⟩ : ByteArray).data.toList) (exE (k + 1)) true ((⟨(btL k).toArray⟩ : ByteArray).data.toList) (btE k) = -1 from hC] at hcm
  have HC := Lib.hid hcm
  have HN := Lib.hid (fun W => numb_w true (k + 1) W hk)
  have hnb := near_bt hki
  have hki1 : k + 1 < double.infRung := by rw [inf_num] at hk ⊢; omega
  rw [if_pos hv] at hnb
  have HO := Lib.hid (fun W => of_ok true (btL k) (btE k) (k + 1) W (bt_form hki) (bt_len hki) hnb (by rw [inf_num] at hk; omega))
  have HFL := Lib.hid (fun W => float_w true (k + 1) W hki1)
  have HSA := Lib.hid (fun W => same_w true (k + 1) W hki1)
  have hp : ((k : Int) % 2 == 1) = true := by rw [beq_iff_eq]; omega
  have hu1 : IntKind.u64.wrap (((k : Nat) : Int) + 1) = ((k + 1 : Nat) : Int) := by rw [show (((k : Nat) : Int) + 1) = ((k + 1 : Nat) : Int) by omega]; exact wraps_u64 _ (by omega) (by omega)
  have ho : (((k + 1 : Nat) : Int) == 9218868437227405312) = false := by rw [inf_num] at hk; rw [beq_eq_false_iff_ne]; omega
  generalize hbl : btL k = l at *
  generalize hbe : btE k = be at *
  generalize hlx : exL (k + 1) = lx at *
  generalize hex : exE (k + 1) = ex at *
  clear hB hC hcm hnb hlx hex hbe hbl
  go_enter Tryd.func10, Tryd.ntmps10
  go_wp2_with fail
  refine (awake_w _).mono ?_
  rintro en w1 ⟨rfl, b1⟩
  have B1 := Lib.hid (bthen (Below.refl _ w) b1)
  clear b1
  go_wp2_with fail
  refine (HB.out _).mono ?_
  rintro en w2 ⟨rfl, b2⟩
  have B2 := Lib.hid (bthen B1.out b2)
  clear b2
  go_wp2_with fail
  refine (HF.out _).mono ?_
  rintro en w3 ⟨rfl, hw3⟩
  subst hw3
  go_wp2_with fail
  refine (HE.out _).mono ?_
  rintro en w4 ⟨rfl, b4⟩
  have hx := (Blk.new w2 23 #[.bool true, .string ⟨l.toArray⟩, .int .i64 be])
  have HH4 := Lib.hid (hx.below b4 hx.lt)
  clear hx
  have B4 := Lib.hid (bthen (B2.out.alloc B2.out.size (.cells #[.bool true, .string ⟨l.toArray⟩, .int .i64 be] 23)) b4)
  have H_0 : w4.cell? ⟨w2.heap.size, 0, none⟩ = some (.bool true) := HH4.out.cell 0
  have H_1 : w4.cell? ⟨w2.heap.size, 1, none⟩ = some (.string ⟨l.toArray⟩) := HH4.out.cell 1
  have H_2 : w4.cell? ⟨w2.heap.size, 2, none⟩ = some (.int .i64 be) := HH4.out.cell 2
  have H_z : w2.heap.size < w4.heap.size := HH4.out.lt
  clear b4
  go_wp2_with fail
  refine (HC.out _).mono ?_
  rintro en w5 ⟨rfl, b5⟩
  have hx := (HH4.out.alloc (.cells #[.bool true, .string ⟨lx.toArray⟩, .int .i64 ex] 23))
  have HH5 := Lib.hid (hx.below b5 hx.lt)
  clear hx
  have hx := (Blk.new w4 23 #[.bool true, .string ⟨lx.toArray⟩, .int .i64 ex])
  have HD5 := Lib.hid (hx.below b5 hx.lt)
  clear hx
  have B5 := Lib.hid (bthen (B4.out.alloc B4.out.size (.cells #[.bool true, .string ⟨lx.toArray⟩, .int .i64 ex] 23)) b5)
  clear H_0 H_1 H_2 H_z
  have H_0 : w5.cell? ⟨w2.heap.size, 0, none⟩ = some (.bool true) := HH5.out.cell 0
  have H_1 : w5.cell? ⟨w2.heap.size, 1, none⟩ = some (.string ⟨l.toArray⟩) := HH5.out.cell 1
  have H_2 : w5.cell? ⟨w2.heap.size, 2, none⟩ = some (.int .i64 be) := HH5.out.cell 2
  have H_z : w2.heap.size < w5.heap.size := HH5.out.lt
  have D_0 : w5.cell? ⟨w4.heap.size, 0, none⟩ = some (.bool true) := HD5.out.cell 0
  have D_1 : w5.cell? ⟨w4.heap.size, 1, none⟩ = some (.string ⟨lx.toArray⟩) := HD5.out.cell 1
  have D_2 : w5.cell? ⟨w4.heap.size, 2, none⟩ = some (.int .i64 ex) := HD5.out.cell 2
  have D_z : w4.heap.size < w5.heap.size := HD5.out.lt
  clear b5
  go_wp2_with (simp only [hlt, over_field, hp, ho, hu1, hu])
  refine (HN.out _).mono ?_
  rintro en w6 ⟨rfl, b6⟩
  have hx := HH5.out
  have HH6 := Lib.hid (hx.below b6 hx.lt)
  clear hx
  have hx := HD5.out
  have HD6 := Lib.hid (hx.below b6 hx.lt)
  clear hx
  have B6 := Lib.hid (bthen B5.out b6)
  clear H_0 H_1 H_2 D_0 D_1 D_2 H_z D_z
  have H_0 : w6.cell? ⟨w2.heap.size, 0, none⟩ = some (.bool true) := HH6.out.cell 0
  have H_1 : w6.cell? ⟨w2.heap.size, 1, none⟩ = some (.string ⟨l.toArray⟩) := HH6.out.cell 1
  have H_2 : w6.cell? ⟨w2.heap.size, 2, none⟩ = some (.int .i64 be) := HH6.out.cell 2
  have H_z : w2.heap.size < w6.heap.size := HH6.out.lt
  have D_0 : w6.cell? ⟨w4.heap.size, 0, none⟩ = some (.bool true) := HD6.out.cell 0
  have D_1 : w6.cell? ⟨w4.heap.size, 1, none⟩ = some (.string ⟨lx.toArray⟩) := HD6.out.cell 1
  have D_2 : w6.cell? ⟨w4.heap.size, 2, none⟩ = some (.int .i64 ex) := HD6.out.cell 2
  have D_z : w4.heap.size < w6.heap.size := HD6.out.lt
  clear b6
  go_wp2_with (simp only [hlt, over_field, hp, ho, hu1, hu])
  refine (HO.out _).mono ?_
  rintro en w7 ⟨rfl, b7⟩
  have hx := HH6.out
  have HH7 := Lib.hid (hx.below b7 hx.lt)
  clear hx
  have hx := HD6.out
  have HD7 := Lib.hid (hx.below b7 hx.lt)
  clear hx
  have B7 := Lib.hid (bthen B6.out b7)
  clear H_0 H_1 H_2 D_0 D_1 D_2 H_z D_z
  have H_0 : w7.cell? ⟨w2.heap.size, 0, none⟩ = some (.bool true) := HH7.out.cell 0
  have H_1 : w7.cell? ⟨w2.heap.size, 1, none⟩ = some (.string ⟨l.toArray⟩) := HH7.out.cell 1
  have H_2 : w7.cell? ⟨w2.heap.size, 2, none⟩ = some (.int .i64 be) := HH7.out.cell 2
  have H_z : w2.heap.size < w7.heap.size := HH7.out.lt
  have D_0 : w7.cell? ⟨w4.heap.size, 0, none⟩ = some (.bool true) := HD7.out.cell 0
  have D_1 : w7.cell? ⟨w4.heap.size, 1, none⟩ = some (.string ⟨lx.toArray⟩) := HD7.out.cell 1
  have D_2 : w7.cell? ⟨w4.heap.size, 2, none⟩ = some (.int .i64 ex) := HD7.out.cell 2
  have D_z : w4.heap.size < w7.heap.size := HD7.out.lt
  clear b7
  go_wp2_with (simp only [hlt, over_field, hp, ho, hu1, hu])
  refine (long_w _).mono ?_
  rintro en w8 ⟨rfl, b8⟩
  have hx := HH7.out
  have HH8 := Lib.hid (hx.below b8 hx.lt)
  clear hx
  have hx := HD7.out
  have HD8 := Lib.hid (hx.below b8 hx.lt)
  clear hx
  have B8 := Lib.hid (bthen B7.out b8)
  clear H_0 H_1 H_2 D_0 D_1 D_2 H_z D_z
  have H_0 : w8.cell? ⟨w2.heap.size, 0, none⟩ = some (.bool true) := HH8.out.cell 0
  have H_1 : w8.cell? ⟨w2.heap.size, 1, none⟩ = some (.string ⟨l.toArray⟩) := HH8.out.cell 1
  have H_2 : w8.cell? ⟨w2.heap.size, 2, none⟩ = some (.int .i64 be) := HH8.out.cell 2
  have H_z : w2.heap.size < w8.heap.size := HH8.out.lt
  have D_0 : w8.cell? ⟨w4.heap.size, 0, none⟩ = some (.bool true) := HD8.out.cell 0
  have D_1 : w8.cell? ⟨w4.heap.size, 1, none⟩ = some (.string ⟨lx.toArray⟩) := HD8.out.cell 1
  have D_2 : w8.cell? ⟨w4.heap.size, 2, none⟩ = some (.int .i64 ex) := HD8.out.cell 2
  have D_z : w4.heap.size < w8.heap.size := HD8.out.lt
  clear b8
  go_wp2_with (simp only [hlt, over_field, hp, ho, hu1, hu])
  refine (HFL.out _).mono ?_
  rintro en w9 ⟨rfl, b9⟩
  have hx := HH8.out
  have HH9 := Lib.hid (hx.below b9 hx.lt)
  clear hx
  have hx := HD8.out
  have HD9 := Lib.hid (hx.below b9 hx.lt)
  clear hx
  have B9 := Lib.hid (bthen B8.out b9)
  clear H_0 H_1 H_2 D_0 D_1 D_2 H_z D_z
  have H_0 : w9.cell? ⟨w2.heap.size, 0, none⟩ = some (.bool true) := HH9.out.cell 0
  have H_1 : w9.cell? ⟨w2.heap.size, 1, none⟩ = some (.string ⟨l.toArray⟩) := HH9.out.cell 1
  have H_2 : w9.cell? ⟨w2.heap.size, 2, none⟩ = some (.int .i64 be) := HH9.out.cell 2
  have H_z : w2.heap.size < w9.heap.size := HH9.out.lt
  have D_0 : w9.cell? ⟨w4.heap.size, 0, none⟩ = some (.bool true) := HD9.out.cell 0
  have D_1 : w9.cell? ⟨w4.heap.size, 1, none⟩ = some (.string ⟨lx.toArray⟩) := HD9.out.cell 1
  have D_2 : w9.cell? ⟨w4.heap.size, 2, none⟩ = some (.int .i64 ex) := HD9.out.cell 2
  have D_z : w4.heap.size < w9.heap.size := HD9.out.lt
  clear b9
  go_wp2_with (simp only [hlt, over_field, hp, ho, hu1, hu])
  refine (HSA.out _).mono ?_
  rintro en w10 ⟨rfl, hw10⟩
  subst hw10
  go_wp2_with (simp only [hlt, over_field, hp, ho, hu1, hu])
  go_ret
  exact ⟨rfl, B9.out⟩
set_option maxHeartbeats 40000000 in
set_option maxRecDepth 100000 in
theorem middle_n_even (k : Nat) (w : World) (hk : k + 1 < double.infRung) (hv : k % 2 = 0)  :
    Calls Tryd.prog 10 #[.float .f64 (double.word true (k + 1))] w (TruePost w) := by
  have hki : k < double.infRung := by omega
  have hkn : k < 9218868437227405312 := by rw [← inf_num]; exact hki
  have hB : ∀ W, Calls Tryd.prog 19 #[.float .f64 (double.word true (k + 1))] W (BtPost W true (btL k) (btE k)) := fun W => btn_w (k + 1) W hk (by omega)
  have hC : dcmp true (exL (k + 1)) (exE (k + 1)) true (btL k) (btE k) = -1 := ex_bt_neg (n := k + 1) (by omega)
  have hlt := (ord_zero (s := true) (n := k + 1) hk (o := .lt) (by rw [cmp_lt]; unfold Rung.sgn; simp)).lt
  rw [lt_lt] at hlt
  have hu : IntKind.u64.wrap (((k + 1 : Nat) : Int) - 1) = ((k : Nat) : Int) := by rw [show (((k + 1 : Nat) : Int) - 1) = ((k : Nat) : Int) by omega]; exact wraps_u64 _ (by omega) (by omega)
  have HB := Lib.hid hB
  have HF := Lib.hid (fun W => fin_yes true (k + 1) W hk)
  have HE := Lib.hid (fun W => exw_w true (k + 1) W hk)
  have hcm := fun W => dcmp_w true ⟨(exL (k + 1)).toArray⟩ (exE (k + 1)) true ⟨(btL k).toArray⟩ (btE k) W (ex_form hk) (bt_form hki) (size_of _ (ex_len hk)) (size_of _ (bt_len hki))
  simp only [show dcmp true ((⟨(exL (k + 1)).toArray⟩ : ByteArray).data.toList) (exE (k + 1)) true ((⟨(btL k).toArray⟩ : ByteArray).data.toList) (btE k) = -1 from hC] at hcm
  have HC := Lib.hid hcm
  have HN := Lib.hid (fun W => numb_w true (k + 1) W hk)
  have hnb := near_bt hki
  rw [if_neg (by omega)] at hnb
  have HO := Lib.hid (fun W => of_ok true (btL k) (btE k) k W (bt_form hki) (bt_len hki) hnb (by omega))
  have HFL := Lib.hid (fun W => float_w true k W hki)
  have HSA := Lib.hid (fun W => same_w true k W hki)
  have hp : ((k : Int) % 2 == 1) = false := by rw [beq_eq_false_iff_ne]; omega
  have ho : (((k : Nat) : Int) == 9218868437227405312) = false := by rw [beq_eq_false_iff_ne]; omega
  generalize hbl : btL k = l at *
  generalize hbe : btE k = be at *
  generalize hlx : exL (k + 1) = lx at *
  generalize hex : exE (k + 1) = ex at *
  clear hB hC hcm hnb hlx hex hbe hbl
  go_enter Tryd.func10, Tryd.ntmps10
  go_wp2_with fail
  refine (awake_w _).mono ?_
  rintro en w1 ⟨rfl, b1⟩
  have B1 := Lib.hid (bthen (Below.refl _ w) b1)
  clear b1
  go_wp2_with fail
  refine (HB.out _).mono ?_
  rintro en w2 ⟨rfl, b2⟩
  have B2 := Lib.hid (bthen B1.out b2)
  clear b2
  go_wp2_with fail
  refine (HF.out _).mono ?_
  rintro en w3 ⟨rfl, hw3⟩
  subst hw3
  go_wp2_with fail
  refine (HE.out _).mono ?_
  rintro en w4 ⟨rfl, b4⟩
  have hx := (Blk.new w2 23 #[.bool true, .string ⟨l.toArray⟩, .int .i64 be])
  have HH4 := Lib.hid (hx.below b4 hx.lt)
  clear hx
  have B4 := Lib.hid (bthen (B2.out.alloc B2.out.size (.cells #[.bool true, .string ⟨l.toArray⟩, .int .i64 be] 23)) b4)
  have H_0 : w4.cell? ⟨w2.heap.size, 0, none⟩ = some (.bool true) := HH4.out.cell 0
  have H_1 : w4.cell? ⟨w2.heap.size, 1, none⟩ = some (.string ⟨l.toArray⟩) := HH4.out.cell 1
  have H_2 : w4.cell? ⟨w2.heap.size, 2, none⟩ = some (.int .i64 be) := HH4.out.cell 2
  have H_z : w2.heap.size < w4.heap.size := HH4.out.lt
  clear b4
  go_wp2_with fail
  refine (HC.out _).mono ?_
  rintro en w5 ⟨rfl, b5⟩
  have hx := (HH4.out.alloc (.cells #[.bool true, .string ⟨lx.toArray⟩, .int .i64 ex] 23))
  have HH5 := Lib.hid (hx.below b5 hx.lt)
  clear hx
  have hx := (Blk.new w4 23 #[.bool true, .string ⟨lx.toArray⟩, .int .i64 ex])
  have HD5 := Lib.hid (hx.below b5 hx.lt)
  clear hx
  have B5 := Lib.hid (bthen (B4.out.alloc B4.out.size (.cells #[.bool true, .string ⟨lx.toArray⟩, .int .i64 ex] 23)) b5)
  clear H_0 H_1 H_2 H_z
  have H_0 : w5.cell? ⟨w2.heap.size, 0, none⟩ = some (.bool true) := HH5.out.cell 0
  have H_1 : w5.cell? ⟨w2.heap.size, 1, none⟩ = some (.string ⟨l.toArray⟩) := HH5.out.cell 1
  have H_2 : w5.cell? ⟨w2.heap.size, 2, none⟩ = some (.int .i64 be) := HH5.out.cell 2
  have H_z : w2.heap.size < w5.heap.size := HH5.out.lt
  have D_0 : w5.cell? ⟨w4.heap.size, 0, none⟩ = some (.bool true) := HD5.out.cell 0
  have D_1 : w5.cell? ⟨w4.heap.size, 1, none⟩ = some (.string ⟨lx.toArray⟩) := HD5.out.cell 1
  have D_2 : w5.cell? ⟨w4.heap.size, 2, none⟩ = some (.int .i64 ex) := HD5.out.cell 2
  have D_z : w4.heap.size < w5.heap.size := HD5.out.lt
  clear b5
  go_wp2_with (simp only [hlt, over_field, hp, ho, hu])
  refine (HN.out _).mono ?_
  rintro en w6 ⟨rfl, b6⟩
  have hx := HH5.out
  have HH6 := Lib.hid (hx.below b6 hx.lt)
  clear hx
  have hx := HD5.out
  have HD6 := Lib.hid (hx.below b6 hx.lt)
  clear hx
  have B6 := Lib.hid (bthen B5.out b6)
  clear H_0 H_1 H_2 D_0 D_1 D_2 H_z D_z
  have H_0 : w6.cell? ⟨w2.heap.size, 0, none⟩ = some (.bool true) := HH6.out.cell 0
  have H_1 : w6.cell? ⟨w2.heap.size, 1, none⟩ = some (.string ⟨l.toArray⟩) := HH6.out.cell 1
  have H_2 : w6.cell? ⟨w2.heap.size, 2, none⟩ = some (.int .i64 be) := HH6.out.cell 2
  have H_z : w2.heap.size < w6.heap.size := HH6.out.lt
  have D_0 : w6.cell? ⟨w4.heap.size, 0, none⟩ = some (.bool true) := HD6.out.cell 0
  have D_1 : w6.cell? ⟨w4.heap.size, 1, none⟩ = some (.string ⟨lx.toArray⟩) := HD6.out.cell 1
  have D_2 : w6.cell? ⟨w4.heap.size, 2, none⟩ = some (.int .i64 ex) := HD6.out.cell 2
  have D_z : w4.heap.size < w6.heap.size := HD6.out.lt
  clear b6
  go_wp2_with (simp only [hlt, over_field, hp, ho, hu])
  refine (HO.out _).mono ?_
  rintro en w7 ⟨rfl, b7⟩
  have hx := HH6.out
  have HH7 := Lib.hid (hx.below b7 hx.lt)
  clear hx
  have hx := HD6.out
  have HD7 := Lib.hid (hx.below b7 hx.lt)
  clear hx
  have B7 := Lib.hid (bthen B6.out b7)
  clear H_0 H_1 H_2 D_0 D_1 D_2 H_z D_z
  have H_0 : w7.cell? ⟨w2.heap.size, 0, none⟩ = some (.bool true) := HH7.out.cell 0
  have H_1 : w7.cell? ⟨w2.heap.size, 1, none⟩ = some (.string ⟨l.toArray⟩) := HH7.out.cell 1
  have H_2 : w7.cell? ⟨w2.heap.size, 2, none⟩ = some (.int .i64 be) := HH7.out.cell 2
  have H_z : w2.heap.size < w7.heap.size := HH7.out.lt
  have D_0 : w7.cell? ⟨w4.heap.size, 0, none⟩ = some (.bool true) := HD7.out.cell 0
  have D_1 : w7.cell? ⟨w4.heap.size, 1, none⟩ = some (.string ⟨lx.toArray⟩) := HD7.out.cell 1
  have D_2 : w7.cell? ⟨w4.heap.size, 2, none⟩ = some (.int .i64 ex) := HD7.out.cell 2
  have D_z : w4.heap.size < w7.heap.size := HD7.out.lt
  clear b7
  go_wp2_with (simp only [hlt, over_field, hp, ho, hu])
  refine (long_w _).mono ?_
  rintro en w8 ⟨rfl, b8⟩
  have hx := HH7.out
  have HH8 := Lib.hid (hx.below b8 hx.lt)
  clear hx
  have hx := HD7.out
  have HD8 := Lib.hid (hx.below b8 hx.lt)
  clear hx
  have B8 := Lib.hid (bthen B7.out b8)
  clear H_0 H_1 H_2 D_0 D_1 D_2 H_z D_z
  have H_0 : w8.cell? ⟨w2.heap.size, 0, none⟩ = some (.bool true) := HH8.out.cell 0
  have H_1 : w8.cell? ⟨w2.heap.size, 1, none⟩ = some (.string ⟨l.toArray⟩) := HH8.out.cell 1
  have H_2 : w8.cell? ⟨w2.heap.size, 2, none⟩ = some (.int .i64 be) := HH8.out.cell 2
  have H_z : w2.heap.size < w8.heap.size := HH8.out.lt
  have D_0 : w8.cell? ⟨w4.heap.size, 0, none⟩ = some (.bool true) := HD8.out.cell 0
  have D_1 : w8.cell? ⟨w4.heap.size, 1, none⟩ = some (.string ⟨lx.toArray⟩) := HD8.out.cell 1
  have D_2 : w8.cell? ⟨w4.heap.size, 2, none⟩ = some (.int .i64 ex) := HD8.out.cell 2
  have D_z : w4.heap.size < w8.heap.size := HD8.out.lt
  clear b8
  go_wp2_with (simp only [hlt, over_field, hp, ho, hu])
  refine (HFL.out _).mono ?_
  rintro en w9 ⟨rfl, b9⟩
  have hx := HH8.out
  have HH9 := Lib.hid (hx.below b9 hx.lt)
  clear hx
  have hx := HD8.out
  have HD9 := Lib.hid (hx.below b9 hx.lt)
  clear hx
  have B9 := Lib.hid (bthen B8.out b9)
  clear H_0 H_1 H_2 D_0 D_1 D_2 H_z D_z
  have H_0 : w9.cell? ⟨w2.heap.size, 0, none⟩ = some (.bool true) := HH9.out.cell 0
  have H_1 : w9.cell? ⟨w2.heap.size, 1, none⟩ = some (.string ⟨l.toArray⟩) := HH9.out.cell 1
  have H_2 : w9.cell? ⟨w2.heap.size, 2, none⟩ = some (.int .i64 be) := HH9.out.cell 2
  have H_z : w2.heap.size < w9.heap.size := HH9.out.lt
  have D_0 : w9.cell? ⟨w4.heap.size, 0, none⟩ = some (.bool true) := HD9.out.cell 0
  have D_1 : w9.cell? ⟨w4.heap.size, 1, none⟩ = some (.string ⟨lx.toArray⟩) := HD9.out.cell 1
  have D_2 : w9.cell? ⟨w4.heap.size, 2, none⟩ = some (.int .i64 ex) := HD9.out.cell 2
  have D_z : w4.heap.size < w9.heap.size := HD9.out.lt
  clear b9
  go_wp2_with (simp only [hlt, over_field, hp, ho, hu])
  refine (HSA.out _).mono ?_
  rintro en w10 ⟨rfl, hw10⟩
  subst hw10
  go_wp2_with (simp only [hlt, over_field, hp, ho, hu])
  go_ret
  exact ⟨rfl, B9.out⟩
set_option maxHeartbeats 40000000 in
set_option maxRecDepth 100000 in
theorem middle_p_over (s : Bool) (k : Nat) (hs : s = false ∨ k = 0) (w : World) (hk : k < double.infRung) (hv : k = 9218868437227405311)  :
    Calls Tryd.prog 10 #[.float .f64 (double.word s k)] w (TruePost w) := by
  have hki : k < double.infRung := by omega
  have hkn : k < 9218868437227405312 := by rw [← inf_num]; exact hki
  have hB : ∀ W, Calls Tryd.prog 19 #[.float .f64 (double.word s k)] W (BtPost W false (btL k) (btE k)) := by
    intro W
    rcases hs with rfl | rfl
    · exact btw_w k W hk
    · cases s
      · exact btw_w 0 W hk
      · exact btz_w W
  have hC : dcmp s (exL k) (exE k) false (btL k) (btE k) = -1 := by
    rcases hs with rfl | rfl
    · exact ex_bt_pos k
    · cases s
      · exact ex_bt_pos 0
      · exact ex_bt_zero
  have hlt : (FloatKind.f64.format.order (double.word s k) 0 == some .lt) = false := by
    by_cases h0 : k = 0
    · subst h0
      have := (ord_zero (s := s) (n := 0) hk (o := .eq) (by cases s <;> rfl)).lt
      rw [eq_lt] at this; exact this
    · obtain rfl : s = false := by rcases hs with h | h; exact h; exact absurd h h0
      have := (ord_zero (s := false) (n := k) hk (o := .gt) (by rw [cmp_gt]; unfold Rung.sgn; simp; omega)).lt
      rw [gt_lt] at this; exact this
  have HB := Lib.hid hB
  have HF := Lib.hid (fun W => fin_yes s k W hk)
  have HE := Lib.hid (fun W => exw_w s k W hk)
  have hcm := fun W => dcmp_w s ⟨(exL k).toArray⟩ (exE k) false ⟨(btL k).toArray⟩ (btE k) W (ex_form hk) (bt_form hki) (size_of _ (ex_len hk)) (size_of _ (bt_len hki))
  simp only [show dcmp s ((⟨(exL k).toArray⟩ : ByteArray).data.toList) (exE k) false ((⟨(btL k).toArray⟩ : ByteArray).data.toList) (btE k) = -1 from hC] at hcm
  have HC := Lib.hid hcm
  have HN := Lib.hid (fun W => numb_w s k W hk)
  have hnb := near_bt hki
  rw [if_pos (by omega), show k + 1 = 9218868437227405312 by omega] at hnb
  have HO := Lib.hid (fun W => of_over false (btL k) (btE k) W (bt_form hki) (bt_len hki) hnb)
  have hp : ((k : Int) % 2 == 1) = true := by rw [beq_iff_eq]; omega
  have hu1 : IntKind.u64.wrap (((k : Nat) : Int) + 1) = ((k + 1 : Nat) : Int) := by rw [show (((k : Nat) : Int) + 1) = ((k + 1 : Nat) : Int) by omega]; exact wraps_u64 _ (by omega) (by omega)
  have ho : (((k + 1 : Nat) : Int) == 9218868437227405312) = true := by rw [beq_iff_eq]; omega
  generalize hbl : btL k = l at *
  generalize hbe : btE k = be at *
  generalize hlx : exL k = lx at *
  generalize hex : exE k = ex at *
  clear hB hC hcm hnb hlx hex hbe hbl
  clear hv hkn
  go_enter Tryd.func10, Tryd.ntmps10
  go_wp2_with fail
  refine (awake_w _).mono ?_
  rintro en w1 ⟨rfl, b1⟩
  have B1 := Lib.hid (bthen (Below.refl _ w) b1)
  clear b1
  go_wp2_with fail
  refine (HB.out _).mono ?_
  rintro en w2 ⟨rfl, b2⟩
  have B2 := Lib.hid (bthen B1.out b2)
  clear b2
  go_wp2_with fail
  refine (HF.out _).mono ?_
  rintro en w3 ⟨rfl, hw3⟩
  subst hw3
  go_wp2_with fail
  refine (HE.out _).mono ?_
  rintro en w4 ⟨rfl, b4⟩
  have hx := (Blk.new w2 23 #[.bool false, .string ⟨l.toArray⟩, .int .i64 be])
  have HH4 := Lib.hid (hx.below b4 hx.lt)
  clear hx
  have B4 := Lib.hid (bthen (B2.out.alloc B2.out.size (.cells #[.bool false, .string ⟨l.toArray⟩, .int .i64 be] 23)) b4)
  have H_0 : w4.cell? ⟨w2.heap.size, 0, none⟩ = some (.bool false) := HH4.out.cell 0
  have H_1 : w4.cell? ⟨w2.heap.size, 1, none⟩ = some (.string ⟨l.toArray⟩) := HH4.out.cell 1
  have H_2 : w4.cell? ⟨w2.heap.size, 2, none⟩ = some (.int .i64 be) := HH4.out.cell 2
  have H_z : w2.heap.size < w4.heap.size := HH4.out.lt
  clear b4
  go_wp2_with fail
  refine (HC.out _).mono ?_
  rintro en w5 ⟨rfl, b5⟩
  have hx := (HH4.out.alloc (.cells #[.bool s, .string ⟨lx.toArray⟩, .int .i64 ex] 23))
  have HH5 := Lib.hid (hx.below b5 hx.lt)
  clear hx
  have hx := (Blk.new w4 23 #[.bool s, .string ⟨lx.toArray⟩, .int .i64 ex])
  have HD5 := Lib.hid (hx.below b5 hx.lt)
  clear hx
  have B5 := Lib.hid (bthen (B4.out.alloc B4.out.size (.cells #[.bool s, .string ⟨lx.toArray⟩, .int .i64 ex] 23)) b5)
  clear H_0 H_1 H_2 H_z
  have H_0 : w5.cell? ⟨w2.heap.size, 0, none⟩ = some (.bool false) := HH5.out.cell 0
  have H_1 : w5.cell? ⟨w2.heap.size, 1, none⟩ = some (.string ⟨l.toArray⟩) := HH5.out.cell 1
  have H_2 : w5.cell? ⟨w2.heap.size, 2, none⟩ = some (.int .i64 be) := HH5.out.cell 2
  have H_z : w2.heap.size < w5.heap.size := HH5.out.lt
  have D_0 : w5.cell? ⟨w4.heap.size, 0, none⟩ = some (.bool s) := HD5.out.cell 0
  have D_1 : w5.cell? ⟨w4.heap.size, 1, none⟩ = some (.string ⟨lx.toArray⟩) := HD5.out.cell 1
  have D_2 : w5.cell? ⟨w4.heap.size, 2, none⟩ = some (.int .i64 ex) := HD5.out.cell 2
  have D_z : w4.heap.size < w5.heap.size := HD5.out.lt
  clear b5
  go_wp2_with (simp only [hlt, over_field, hp, ho, hu1])
  refine (HN.out _).mono ?_
  rintro en w6 ⟨rfl, b6⟩
  have hx := HH5.out
  have HH6 := Lib.hid (hx.below b6 hx.lt)
  clear hx
  have hx := HD5.out
  have HD6 := Lib.hid (hx.below b6 hx.lt)
  clear hx
  have B6 := Lib.hid (bthen B5.out b6)
  clear H_0 H_1 H_2 D_0 D_1 D_2 H_z D_z
  have H_0 : w6.cell? ⟨w2.heap.size, 0, none⟩ = some (.bool false) := HH6.out.cell 0
  have H_1 : w6.cell? ⟨w2.heap.size, 1, none⟩ = some (.string ⟨l.toArray⟩) := HH6.out.cell 1
  have H_2 : w6.cell? ⟨w2.heap.size, 2, none⟩ = some (.int .i64 be) := HH6.out.cell 2
  have H_z : w2.heap.size < w6.heap.size := HH6.out.lt
  have D_0 : w6.cell? ⟨w4.heap.size, 0, none⟩ = some (.bool s) := HD6.out.cell 0
  have D_1 : w6.cell? ⟨w4.heap.size, 1, none⟩ = some (.string ⟨lx.toArray⟩) := HD6.out.cell 1
  have D_2 : w6.cell? ⟨w4.heap.size, 2, none⟩ = some (.int .i64 ex) := HD6.out.cell 2
  have D_z : w4.heap.size < w6.heap.size := HD6.out.lt
  clear b6
  go_wp2_with (simp only [hlt, over_field, hp, ho, hu1])
  refine (HO.out _).mono ?_
  rintro en w7 ⟨rfl, b7⟩
  have hx := HH6.out
  have HH7 := Lib.hid (hx.below b7 hx.lt)
  clear hx
  have hx := HD6.out
  have HD7 := Lib.hid (hx.below b7 hx.lt)
  clear hx
  have B7 := Lib.hid (bthen B6.out b7)
  clear H_0 H_1 H_2 D_0 D_1 D_2 H_z D_z
  have H_0 : w7.cell? ⟨w2.heap.size, 0, none⟩ = some (.bool false) := HH7.out.cell 0
  have H_1 : w7.cell? ⟨w2.heap.size, 1, none⟩ = some (.string ⟨l.toArray⟩) := HH7.out.cell 1
  have H_2 : w7.cell? ⟨w2.heap.size, 2, none⟩ = some (.int .i64 be) := HH7.out.cell 2
  have H_z : w2.heap.size < w7.heap.size := HH7.out.lt
  have D_0 : w7.cell? ⟨w4.heap.size, 0, none⟩ = some (.bool s) := HD7.out.cell 0
  have D_1 : w7.cell? ⟨w4.heap.size, 1, none⟩ = some (.string ⟨lx.toArray⟩) := HD7.out.cell 1
  have D_2 : w7.cell? ⟨w4.heap.size, 2, none⟩ = some (.int .i64 ex) := HD7.out.cell 2
  have D_z : w4.heap.size < w7.heap.size := HD7.out.lt
  clear b7
  go_wp2_with (simp only [hlt, over_field, hp, ho, hu1])
  refine (long_w _).mono ?_
  rintro en w8 ⟨rfl, b8⟩
  have hx := HH7.out
  have HH8 := Lib.hid (hx.below b8 hx.lt)
  clear hx
  have hx := HD7.out
  have HD8 := Lib.hid (hx.below b8 hx.lt)
  clear hx
  have B8 := Lib.hid (bthen B7.out b8)
  clear H_0 H_1 H_2 D_0 D_1 D_2 H_z D_z
  have H_0 : w8.cell? ⟨w2.heap.size, 0, none⟩ = some (.bool false) := HH8.out.cell 0
  have H_1 : w8.cell? ⟨w2.heap.size, 1, none⟩ = some (.string ⟨l.toArray⟩) := HH8.out.cell 1
  have H_2 : w8.cell? ⟨w2.heap.size, 2, none⟩ = some (.int .i64 be) := HH8.out.cell 2
  have H_z : w2.heap.size < w8.heap.size := HH8.out.lt
  have D_0 : w8.cell? ⟨w4.heap.size, 0, none⟩ = some (.bool s) := HD8.out.cell 0
  have D_1 : w8.cell? ⟨w4.heap.size, 1, none⟩ = some (.string ⟨lx.toArray⟩) := HD8.out.cell 1
  have D_2 : w8.cell? ⟨w4.heap.size, 2, none⟩ = some (.int .i64 ex) := HD8.out.cell 2
  have D_z : w4.heap.size < w8.heap.size := HD8.out.lt
  clear b8
  go_wp2_with (simp only [hlt, over_field, hp, ho, hu1])
  go_ret
  exact ⟨rfl, B8.out⟩
set_option maxHeartbeats 40000000 in
set_option maxRecDepth 100000 in
theorem middle_p_odd_hi (s : Bool) (k : Nat) (hs : s = false ∨ k = 0) (w : World) (hk : k < double.infRung) (hv : k % 2 = 1) (hv2 : k ≠ 9218868437227405311) (ht : 0 ≤ btE k) :
    Calls Tryd.prog 10 #[.float .f64 (double.word s k)] w (TruePost w) := by
  have hki : k < double.infRung := by omega
  have hkn : k < 9218868437227405312 := by rw [← inf_num]; exact hki
  have hB : ∀ W, Calls Tryd.prog 19 #[.float .f64 (double.word s k)] W (BtPost W false (btL k) (btE k)) := by
    intro W
    rcases hs with rfl | rfl
    · exact btw_w k W hk
    · cases s
      · exact btw_w 0 W hk
      · exact btz_w W
  have hC : dcmp s (exL k) (exE k) false (btL k) (btE k) = -1 := by
    rcases hs with rfl | rfl
    · exact ex_bt_pos k
    · cases s
      · exact ex_bt_pos 0
      · exact ex_bt_zero
  have hlt : (FloatKind.f64.format.order (double.word s k) 0 == some .lt) = false := by
    by_cases h0 : k = 0
    · subst h0
      have := (ord_zero (s := s) (n := 0) hk (o := .eq) (by cases s <;> rfl)).lt
      rw [eq_lt] at this; exact this
    · obtain rfl : s = false := by rcases hs with h | h; exact h; exact absurd h h0
      have := (ord_zero (s := false) (n := k) hk (o := .gt) (by rw [cmp_gt]; unfold Rung.sgn; simp; omega)).lt
      rw [gt_lt] at this; exact this
  have HB := Lib.hid hB
  have HF := Lib.hid (fun W => fin_yes s k W hk)
  have HE := Lib.hid (fun W => exw_w s k W hk)
  have hcm := fun W => dcmp_w s ⟨(exL k).toArray⟩ (exE k) false ⟨(btL k).toArray⟩ (btE k) W (ex_form hk) (bt_form hki) (size_of _ (ex_len hk)) (size_of _ (bt_len hki))
  simp only [show dcmp s ((⟨(exL k).toArray⟩ : ByteArray).data.toList) (exE k) false ((⟨(btL k).toArray⟩ : ByteArray).data.toList) (btE k) = -1 from hC] at hcm
  have HC := Lib.hid hcm
  have HN := Lib.hid (fun W => numb_w s k W hk)
  have hnb := near_bt hki
  have hki1 : k + 1 < double.infRung := by rw [inf_num] at hk ⊢; omega
  rw [if_pos hv] at hnb
  have HO := Lib.hid (fun W => of_ok false (btL k) (btE k) (k + 1) W (bt_form hki) (bt_len hki) hnb (by rw [inf_num] at hk; omega))
  have HFL := Lib.hid (fun W => float_w false (k + 1) W hki1)
  have HSA := Lib.hid (fun W => same_w false (k + 1) W hki1)
  have hp : ((k : Int) % 2 == 1) = true := by rw [beq_iff_eq]; omega
  have hu1 : IntKind.u64.wrap (((k : Nat) : Int) + 1) = ((k + 1 : Nat) : Int) := by rw [show (((k : Nat) : Int) + 1) = ((k + 1 : Nat) : Int) by omega]; exact wraps_u64 _ (by omega) (by omega)
  have ho : (((k + 1 : Nat) : Int) == 9218868437227405312) = false := by rw [inf_num] at hk; rw [beq_eq_false_iff_ne]; omega
  generalize hbl : btL k = l at *
  generalize hbe : btE k = be at *
  generalize hlx : exL k = lx at *
  generalize hex : exE k = ex at *
  clear hB hC hcm hnb hlx hex hbe hbl
  have ht2 : decide (be < 0) = false := by rw [decide_eq_false_iff_not]; omega
  have ht3 : decide (0 ≤ be) = true := by rw [decide_eq_true_iff]; omega
  have ht4 : ¬ be < 0 := by omega
  go_enter Tryd.func10, Tryd.ntmps10
  go_wp2_with fail
  refine (awake_w _).mono ?_
  rintro en w1 ⟨rfl, b1⟩
  have B1 := Lib.hid (bthen (Below.refl _ w) b1)
  clear b1
  go_wp2_with fail
  refine (HB.out _).mono ?_
  rintro en w2 ⟨rfl, b2⟩
  have B2 := Lib.hid (bthen B1.out b2)
  clear b2
  go_wp2_with fail
  refine (HF.out _).mono ?_
  rintro en w3 ⟨rfl, hw3⟩
  subst hw3
  go_wp2_with fail
  refine (HE.out _).mono ?_
  rintro en w4 ⟨rfl, b4⟩
  have hx := (Blk.new w2 23 #[.bool false, .string ⟨l.toArray⟩, .int .i64 be])
  have HH4 := Lib.hid (hx.below b4 hx.lt)
  clear hx
  have B4 := Lib.hid (bthen (B2.out.alloc B2.out.size (.cells #[.bool false, .string ⟨l.toArray⟩, .int .i64 be] 23)) b4)
  have H_0 : w4.cell? ⟨w2.heap.size, 0, none⟩ = some (.bool false) := HH4.out.cell 0
  have H_1 : w4.cell? ⟨w2.heap.size, 1, none⟩ = some (.string ⟨l.toArray⟩) := HH4.out.cell 1
  have H_2 : w4.cell? ⟨w2.heap.size, 2, none⟩ = some (.int .i64 be) := HH4.out.cell 2
  have H_z : w2.heap.size < w4.heap.size := HH4.out.lt
  clear b4
  go_wp2_with fail
  refine (HC.out _).mono ?_
  rintro en w5 ⟨rfl, b5⟩
  have hx := (HH4.out.alloc (.cells #[.bool s, .string ⟨lx.toArray⟩, .int .i64 ex] 23))
  have HH5 := Lib.hid (hx.below b5 hx.lt)
  clear hx
  have hx := (Blk.new w4 23 #[.bool s, .string ⟨lx.toArray⟩, .int .i64 ex])
  have HD5 := Lib.hid (hx.below b5 hx.lt)
  clear hx
  have B5 := Lib.hid (bthen (B4.out.alloc B4.out.size (.cells #[.bool s, .string ⟨lx.toArray⟩, .int .i64 ex] 23)) b5)
  clear H_0 H_1 H_2 H_z
  have H_0 : w5.cell? ⟨w2.heap.size, 0, none⟩ = some (.bool false) := HH5.out.cell 0
  have H_1 : w5.cell? ⟨w2.heap.size, 1, none⟩ = some (.string ⟨l.toArray⟩) := HH5.out.cell 1
  have H_2 : w5.cell? ⟨w2.heap.size, 2, none⟩ = some (.int .i64 be) := HH5.out.cell 2
  have H_z : w2.heap.size < w5.heap.size := HH5.out.lt
  have D_0 : w5.cell? ⟨w4.heap.size, 0, none⟩ = some (.bool s) := HD5.out.cell 0
  have D_1 : w5.cell? ⟨w4.heap.size, 1, none⟩ = some (.string ⟨lx.toArray⟩) := HD5.out.cell 1
  have D_2 : w5.cell? ⟨w4.heap.size, 2, none⟩ = some (.int .i64 ex) := HD5.out.cell 2
  have D_z : w4.heap.size < w5.heap.size := HD5.out.lt
  clear b5
  go_wp2_with (simp only [hlt, over_field, hp, ho, hu1])
  refine (HN.out _).mono ?_
  rintro en w6 ⟨rfl, b6⟩
  have hx := HH5.out
  have HH6 := Lib.hid (hx.below b6 hx.lt)
  clear hx
  have hx := HD5.out
  have HD6 := Lib.hid (hx.below b6 hx.lt)
  clear hx
  have B6 := Lib.hid (bthen B5.out b6)
  clear H_0 H_1 H_2 D_0 D_1 D_2 H_z D_z
  have H_0 : w6.cell? ⟨w2.heap.size, 0, none⟩ = some (.bool false) := HH6.out.cell 0
  have H_1 : w6.cell? ⟨w2.heap.size, 1, none⟩ = some (.string ⟨l.toArray⟩) := HH6.out.cell 1
  have H_2 : w6.cell? ⟨w2.heap.size, 2, none⟩ = some (.int .i64 be) := HH6.out.cell 2
  have H_z : w2.heap.size < w6.heap.size := HH6.out.lt
  have D_0 : w6.cell? ⟨w4.heap.size, 0, none⟩ = some (.bool s) := HD6.out.cell 0
  have D_1 : w6.cell? ⟨w4.heap.size, 1, none⟩ = some (.string ⟨lx.toArray⟩) := HD6.out.cell 1
  have D_2 : w6.cell? ⟨w4.heap.size, 2, none⟩ = some (.int .i64 ex) := HD6.out.cell 2
  have D_z : w4.heap.size < w6.heap.size := HD6.out.lt
  clear b6
  go_wp2_with (simp only [hlt, over_field, hp, ho, hu1])
  refine (HO.out _).mono ?_
  rintro en w7 ⟨rfl, b7⟩
  have hx := HH6.out
  have HH7 := Lib.hid (hx.below b7 hx.lt)
  clear hx
  have hx := HD6.out
  have HD7 := Lib.hid (hx.below b7 hx.lt)
  clear hx
  have B7 := Lib.hid (bthen B6.out b7)
  clear H_0 H_1 H_2 D_0 D_1 D_2 H_z D_z
  have H_0 : w7.cell? ⟨w2.heap.size, 0, none⟩ = some (.bool false) := HH7.out.cell 0
  have H_1 : w7.cell? ⟨w2.heap.size, 1, none⟩ = some (.string ⟨l.toArray⟩) := HH7.out.cell 1
  have H_2 : w7.cell? ⟨w2.heap.size, 2, none⟩ = some (.int .i64 be) := HH7.out.cell 2
  have H_z : w2.heap.size < w7.heap.size := HH7.out.lt
  have D_0 : w7.cell? ⟨w4.heap.size, 0, none⟩ = some (.bool s) := HD7.out.cell 0
  have D_1 : w7.cell? ⟨w4.heap.size, 1, none⟩ = some (.string ⟨lx.toArray⟩) := HD7.out.cell 1
  have D_2 : w7.cell? ⟨w4.heap.size, 2, none⟩ = some (.int .i64 ex) := HD7.out.cell 2
  have D_z : w4.heap.size < w7.heap.size := HD7.out.lt
  clear b7
  go_wp2_with (simp only [hlt, over_field, hp, ho, hu1])
  refine (long_w _).mono ?_
  rintro en w8 ⟨rfl, b8⟩
  have hx := HH7.out
  have HH8 := Lib.hid (hx.below b8 hx.lt)
  clear hx
  have hx := HD7.out
  have HD8 := Lib.hid (hx.below b8 hx.lt)
  clear hx
  have B8 := Lib.hid (bthen B7.out b8)
  clear H_0 H_1 H_2 D_0 D_1 D_2 H_z D_z
  have H_0 : w8.cell? ⟨w2.heap.size, 0, none⟩ = some (.bool false) := HH8.out.cell 0
  have H_1 : w8.cell? ⟨w2.heap.size, 1, none⟩ = some (.string ⟨l.toArray⟩) := HH8.out.cell 1
  have H_2 : w8.cell? ⟨w2.heap.size, 2, none⟩ = some (.int .i64 be) := HH8.out.cell 2
  have H_z : w2.heap.size < w8.heap.size := HH8.out.lt
  have D_0 : w8.cell? ⟨w4.heap.size, 0, none⟩ = some (.bool s) := HD8.out.cell 0
  have D_1 : w8.cell? ⟨w4.heap.size, 1, none⟩ = some (.string ⟨lx.toArray⟩) := HD8.out.cell 1
  have D_2 : w8.cell? ⟨w4.heap.size, 2, none⟩ = some (.int .i64 ex) := HD8.out.cell 2
  have D_z : w4.heap.size < w8.heap.size := HD8.out.lt
  clear b8
  go_wp2_with (simp only [hlt, over_field, hp, ho, hu1])
  refine (HFL.out _).mono ?_
  rintro en w9 ⟨rfl, b9⟩
  have hx := HH8.out
  have HH9 := Lib.hid (hx.below b9 hx.lt)
  clear hx
  have hx := HD8.out
  have HD9 := Lib.hid (hx.below b9 hx.lt)
  clear hx
  have B9 := Lib.hid (bthen B8.out b9)
  clear H_0 H_1 H_2 D_0 D_1 D_2 H_z D_z
  have H_0 : w9.cell? ⟨w2.heap.size, 0, none⟩ = some (.bool false) := HH9.out.cell 0
  have H_1 : w9.cell? ⟨w2.heap.size, 1, none⟩ = some (.string ⟨l.toArray⟩) := HH9.out.cell 1
  have H_2 : w9.cell? ⟨w2.heap.size, 2, none⟩ = some (.int .i64 be) := HH9.out.cell 2
  have H_z : w2.heap.size < w9.heap.size := HH9.out.lt
  have D_0 : w9.cell? ⟨w4.heap.size, 0, none⟩ = some (.bool s) := HD9.out.cell 0
  have D_1 : w9.cell? ⟨w4.heap.size, 1, none⟩ = some (.string ⟨lx.toArray⟩) := HD9.out.cell 1
  have D_2 : w9.cell? ⟨w4.heap.size, 2, none⟩ = some (.int .i64 ex) := HD9.out.cell 2
  have D_z : w4.heap.size < w9.heap.size := HD9.out.lt
  clear b9
  go_wp2_with (simp only [hlt, over_field, hp, ho, hu1])
  refine (HSA.out _).mono ?_
  rintro en w10 ⟨rfl, hw10⟩
  subst hw10
  go_wp2_with (simp only [hlt, over_field, hp, ho, hu1])
  go_ret
  exact ⟨rfl, B9.out⟩
set_option maxHeartbeats 40000000 in
set_option maxRecDepth 100000 in
theorem middle_p_odd_lo (s : Bool) (k : Nat) (hs : s = false ∨ k = 0) (w : World) (hk : k < double.infRung) (hv : k % 2 = 1) (hv2 : k ≠ 9218868437227405311) (ht : btE k < 0) :
    Calls Tryd.prog 10 #[.float .f64 (double.word s k)] w (TruePost w) := by
  have hki : k < double.infRung := by omega
  have hkn : k < 9218868437227405312 := by rw [← inf_num]; exact hki
  have hB : ∀ W, Calls Tryd.prog 19 #[.float .f64 (double.word s k)] W (BtPost W false (btL k) (btE k)) := by
    intro W
    rcases hs with rfl | rfl
    · exact btw_w k W hk
    · cases s
      · exact btw_w 0 W hk
      · exact btz_w W
  have hC : dcmp s (exL k) (exE k) false (btL k) (btE k) = -1 := by
    rcases hs with rfl | rfl
    · exact ex_bt_pos k
    · cases s
      · exact ex_bt_pos 0
      · exact ex_bt_zero
  have hlt : (FloatKind.f64.format.order (double.word s k) 0 == some .lt) = false := by
    by_cases h0 : k = 0
    · subst h0
      have := (ord_zero (s := s) (n := 0) hk (o := .eq) (by cases s <;> rfl)).lt
      rw [eq_lt] at this; exact this
    · obtain rfl : s = false := by rcases hs with h | h; exact h; exact absurd h h0
      have := (ord_zero (s := false) (n := k) hk (o := .gt) (by rw [cmp_gt]; unfold Rung.sgn; simp; omega)).lt
      rw [gt_lt] at this; exact this
  have HB := Lib.hid hB
  have HF := Lib.hid (fun W => fin_yes s k W hk)
  have HE := Lib.hid (fun W => exw_w s k W hk)
  have hcm := fun W => dcmp_w s ⟨(exL k).toArray⟩ (exE k) false ⟨(btL k).toArray⟩ (btE k) W (ex_form hk) (bt_form hki) (size_of _ (ex_len hk)) (size_of _ (bt_len hki))
  simp only [show dcmp s ((⟨(exL k).toArray⟩ : ByteArray).data.toList) (exE k) false ((⟨(btL k).toArray⟩ : ByteArray).data.toList) (btE k) = -1 from hC] at hcm
  have HC := Lib.hid hcm
  have HN := Lib.hid (fun W => numb_w s k W hk)
  have hnb := near_bt hki
  have hki1 : k + 1 < double.infRung := by rw [inf_num] at hk ⊢; omega
  rw [if_pos hv] at hnb
  have HO := Lib.hid (fun W => of_ok false (btL k) (btE k) (k + 1) W (bt_form hki) (bt_len hki) hnb (by rw [inf_num] at hk; omega))
  have HFL := Lib.hid (fun W => float_w false (k + 1) W hki1)
  have HSA := Lib.hid (fun W => same_w false (k + 1) W hki1)
  have hp : ((k : Int) % 2 == 1) = true := by rw [beq_iff_eq]; omega
  have hu1 : IntKind.u64.wrap (((k : Nat) : Int) + 1) = ((k + 1 : Nat) : Int) := by rw [show (((k : Nat) : Int) + 1) = ((k + 1 : Nat) : Int) by omega]; exact wraps_u64 _ (by omega) (by omega)
  have ho : (((k + 1 : Nat) : Int) == 9218868437227405312) = false := by rw [inf_num] at hk; rw [beq_eq_false_iff_ne]; omega
  obtain ⟨m, hm, hmf, hmn⟩ := four hki ht
  have hml : (m ++ [52]).length ≤ 3000 := by have := bt_len hki; rw [hm] at this; simpa using this
  have HQ := Lib.hid (fun W => of_ok false (m ++ [52]) (btE k) k W hmf hml hmn (by omega))
  clear hmf hmn
  have hml2 : m.length < 3000 := by simp at hml; omega
  clear hml
  have heq : (FloatKind.f64.format.order (double.word false k) (double.word s k) == some .eq) = true := by
    rcases hs with rfl | rfl
    · have := (ord_sgn (s := false) (t := false) hk hk (cmp_eq rfl)).eq
      rw [eq_eq] at this; exact this
    · have := (ord_sgn (s := false) (t := s) (n := 0) (m := 0) hk hk (cmp_eq (by cases s <;> rfl))).eq
      rw [eq_eq] at this; exact this
  generalize hbl : btL k = l at *
  generalize hbe : btE k = be at *
  generalize hlx : exL k = lx at *
  generalize hex : exE k = ex at *
  clear hB hC hcm hnb hlx hex hbe hbl
  have HB2 := Lib.hid (fun W => show Calls Tryd.prog 19 #[.float .f64 (double.word s k)] W (BsPost W false ⟨l.toArray⟩ be) from HB.out W)
  clear HB
  generalize hs5 : (⟨l.toArray⟩ : ByteArray) = s5 at *
  rw [hm] at hs5
  obtain ⟨hz5, he5⟩ := cut53 s5 m hs5.symm
  rw [← he5] at HQ
  have hj5 : s5.size < 3002 := by omega
  have h15 : 1 ≤ s5.size := by omega
  have HL5 := Lib.hid (fun i (hi : i = m.length) h => last53 s5 m hs5.symm i hi h)
  have HZ5 := Lib.hid hz5
  clear hs5 he5 hm hz5 hml2
  have ht3 : decide (0 ≤ be) = false := by rw [decide_eq_false_iff_not]; omega
  go_enter Tryd.func10, Tryd.ntmps10
  go_wp2_with fail
  refine (awake_w _).mono ?_
  rintro en w1 ⟨rfl, b1⟩
  have B1 := Lib.hid (bthen (Below.refl _ w) b1)
  clear b1
  go_wp2_with fail
  refine (HB2.out _).mono ?_
  rintro en w2 ⟨rfl, b2⟩
  have B2 := Lib.hid (bthen B1.out b2)
  clear b2
  go_wp2_with fail
  refine (HF.out _).mono ?_
  rintro en w3 ⟨rfl, hw3⟩
  subst hw3
  go_wp2_with fail
  refine (HE.out _).mono ?_
  rintro en w4 ⟨rfl, b4⟩
  have hx := (Blk.new w2 23 #[.bool false, .string s5, .int .i64 be])
  have HH4 := Lib.hid (hx.below b4 hx.lt)
  clear hx
  have B4 := Lib.hid (bthen (B2.out.alloc B2.out.size (.cells #[.bool false, .string s5, .int .i64 be] 23)) b4)
  have H_0 : w4.cell? ⟨w2.heap.size, 0, none⟩ = some (.bool false) := HH4.out.cell 0
  have H_1 : w4.cell? ⟨w2.heap.size, 1, none⟩ = some (.string s5) := HH4.out.cell 1
  have H_2 : w4.cell? ⟨w2.heap.size, 2, none⟩ = some (.int .i64 be) := HH4.out.cell 2
  have H_z : w2.heap.size < w4.heap.size := HH4.out.lt
  clear b4
  go_wp2_with fail
  refine (HC.out _).mono ?_
  rintro en w5 ⟨rfl, b5⟩
  have hx := (HH4.out.alloc (.cells #[.bool s, .string ⟨lx.toArray⟩, .int .i64 ex] 23))
  have HH5 := Lib.hid (hx.below b5 hx.lt)
  clear hx
  have hx := (Blk.new w4 23 #[.bool s, .string ⟨lx.toArray⟩, .int .i64 ex])
  have HD5 := Lib.hid (hx.below b5 hx.lt)
  clear hx
  have B5 := Lib.hid (bthen (B4.out.alloc B4.out.size (.cells #[.bool s, .string ⟨lx.toArray⟩, .int .i64 ex] 23)) b5)
  clear H_0 H_1 H_2 H_z
  have H_0 : w5.cell? ⟨w2.heap.size, 0, none⟩ = some (.bool false) := HH5.out.cell 0
  have H_1 : w5.cell? ⟨w2.heap.size, 1, none⟩ = some (.string s5) := HH5.out.cell 1
  have H_2 : w5.cell? ⟨w2.heap.size, 2, none⟩ = some (.int .i64 be) := HH5.out.cell 2
  have H_z : w2.heap.size < w5.heap.size := HH5.out.lt
  have D_0 : w5.cell? ⟨w4.heap.size, 0, none⟩ = some (.bool s) := HD5.out.cell 0
  have D_1 : w5.cell? ⟨w4.heap.size, 1, none⟩ = some (.string ⟨lx.toArray⟩) := HD5.out.cell 1
  have D_2 : w5.cell? ⟨w4.heap.size, 2, none⟩ = some (.int .i64 ex) := HD5.out.cell 2
  have D_z : w4.heap.size < w5.heap.size := HD5.out.lt
  clear b5
  go_wp2_with (simp only [hlt, over_field, hp, ho, hu1, heq])
  refine (HN.out _).mono ?_
  rintro en w6 ⟨rfl, b6⟩
  have hx := HH5.out
  have HH6 := Lib.hid (hx.below b6 hx.lt)
  clear hx
  have hx := HD5.out
  have HD6 := Lib.hid (hx.below b6 hx.lt)
  clear hx
  have B6 := Lib.hid (bthen B5.out b6)
  clear H_0 H_1 H_2 D_0 D_1 D_2 H_z D_z
  have H_0 : w6.cell? ⟨w2.heap.size, 0, none⟩ = some (.bool false) := HH6.out.cell 0
  have H_1 : w6.cell? ⟨w2.heap.size, 1, none⟩ = some (.string s5) := HH6.out.cell 1
  have H_2 : w6.cell? ⟨w2.heap.size, 2, none⟩ = some (.int .i64 be) := HH6.out.cell 2
  have H_z : w2.heap.size < w6.heap.size := HH6.out.lt
  have D_0 : w6.cell? ⟨w4.heap.size, 0, none⟩ = some (.bool s) := HD6.out.cell 0
  have D_1 : w6.cell? ⟨w4.heap.size, 1, none⟩ = some (.string ⟨lx.toArray⟩) := HD6.out.cell 1
  have D_2 : w6.cell? ⟨w4.heap.size, 2, none⟩ = some (.int .i64 ex) := HD6.out.cell 2
  have D_z : w4.heap.size < w6.heap.size := HD6.out.lt
  clear b6
  go_wp2_with (simp only [hlt, over_field, hp, ho, hu1, heq])
  refine (HO.out _).mono ?_
  rintro en w7 ⟨rfl, b7⟩
  have hx := HH6.out
  have HH7 := Lib.hid (hx.below b7 hx.lt)
  clear hx
  have hx := HD6.out
  have HD7 := Lib.hid (hx.below b7 hx.lt)
  clear hx
  have B7 := Lib.hid (bthen B6.out b7)
  clear H_0 H_1 H_2 D_0 D_1 D_2 H_z D_z
  have H_0 : w7.cell? ⟨w2.heap.size, 0, none⟩ = some (.bool false) := HH7.out.cell 0
  have H_1 : w7.cell? ⟨w2.heap.size, 1, none⟩ = some (.string s5) := HH7.out.cell 1
  have H_2 : w7.cell? ⟨w2.heap.size, 2, none⟩ = some (.int .i64 be) := HH7.out.cell 2
  have H_z : w2.heap.size < w7.heap.size := HH7.out.lt
  have D_0 : w7.cell? ⟨w4.heap.size, 0, none⟩ = some (.bool s) := HD7.out.cell 0
  have D_1 : w7.cell? ⟨w4.heap.size, 1, none⟩ = some (.string ⟨lx.toArray⟩) := HD7.out.cell 1
  have D_2 : w7.cell? ⟨w4.heap.size, 2, none⟩ = some (.int .i64 ex) := HD7.out.cell 2
  have D_z : w4.heap.size < w7.heap.size := HD7.out.lt
  clear b7
  go_wp2_with (simp only [hlt, over_field, hp, ho, hu1, heq])
  refine (long_w _).mono ?_
  rintro en w8 ⟨rfl, b8⟩
  have hx := HH7.out
  have HH8 := Lib.hid (hx.below b8 hx.lt)
  clear hx
  have hx := HD7.out
  have HD8 := Lib.hid (hx.below b8 hx.lt)
  clear hx
  have B8 := Lib.hid (bthen B7.out b8)
  clear H_0 H_1 H_2 D_0 D_1 D_2 H_z D_z
  have H_0 : w8.cell? ⟨w2.heap.size, 0, none⟩ = some (.bool false) := HH8.out.cell 0
  have H_1 : w8.cell? ⟨w2.heap.size, 1, none⟩ = some (.string s5) := HH8.out.cell 1
  have H_2 : w8.cell? ⟨w2.heap.size, 2, none⟩ = some (.int .i64 be) := HH8.out.cell 2
  have H_z : w2.heap.size < w8.heap.size := HH8.out.lt
  have D_0 : w8.cell? ⟨w4.heap.size, 0, none⟩ = some (.bool s) := HD8.out.cell 0
  have D_1 : w8.cell? ⟨w4.heap.size, 1, none⟩ = some (.string ⟨lx.toArray⟩) := HD8.out.cell 1
  have D_2 : w8.cell? ⟨w4.heap.size, 2, none⟩ = some (.int .i64 ex) := HD8.out.cell 2
  have D_z : w4.heap.size < w8.heap.size := HD8.out.lt
  clear b8
  go_wp2_with (simp only [hlt, over_field, hp, ho, hu1, heq])
  refine (HFL.out _).mono ?_
  rintro en w9 ⟨rfl, b9⟩
  have hx := HH8.out
  have HH9 := Lib.hid (hx.below b9 hx.lt)
  clear hx
  have hx := HD8.out
  have HD9 := Lib.hid (hx.below b9 hx.lt)
  clear hx
  have B9 := Lib.hid (bthen B8.out b9)
  clear H_0 H_1 H_2 D_0 D_1 D_2 H_z D_z
  have H_0 : w9.cell? ⟨w2.heap.size, 0, none⟩ = some (.bool false) := HH9.out.cell 0
  have H_1 : w9.cell? ⟨w2.heap.size, 1, none⟩ = some (.string s5) := HH9.out.cell 1
  have H_2 : w9.cell? ⟨w2.heap.size, 2, none⟩ = some (.int .i64 be) := HH9.out.cell 2
  have H_z : w2.heap.size < w9.heap.size := HH9.out.lt
  have D_0 : w9.cell? ⟨w4.heap.size, 0, none⟩ = some (.bool s) := HD9.out.cell 0
  have D_1 : w9.cell? ⟨w4.heap.size, 1, none⟩ = some (.string ⟨lx.toArray⟩) := HD9.out.cell 1
  have D_2 : w9.cell? ⟨w4.heap.size, 2, none⟩ = some (.int .i64 ex) := HD9.out.cell 2
  have D_z : w4.heap.size < w9.heap.size := HD9.out.lt
  clear b9
  go_wp2_with (simp only [hlt, over_field, hp, ho, hu1, heq])
  refine (HSA.out _).mono ?_
  rintro en w10 ⟨rfl, hw10⟩
  subst hw10
  go_wp2_with (simp only [hlt, over_field, hp, ho, hu1, heq])
  · exact absurd ‹_ ∨ _› (by rintro (h | h); omega; rw [HL5.out _ (by rw [HZ5.out]; omega)] at h; exact absurd h (by decide))

  refine wp_region_held_drew (S := (fun w' => w'.cell? ⟨w2.heap.size, 1, none⟩ = some (.string s5) ∧ w'.cell? ⟨w2.heap.size, 2, none⟩ = some (.int .i64 be))) (by kernel_rfl) ?_ (fun hHeld => ?_)
  · exact ⟨H_1, H_2⟩
  refine wpAnyH_take (i := 0) (oi := _) (v := ?_) rfl (by kernel_rfl) (by kernel_rfl) (by kernel_rfl) (fun _ _ _ h => h) (Or.inl ⟨by rfl, ?_⟩) (by assumption) ?_
  rotate_left 1
  · (intro w hSw; (try dsimp only at hSw); (go_simp <;> with_reducible rfl))
  (try simp only [Act.put, List.setIfInBounds_toArray, List.set_cons_zero, List.set_cons_succ])
  refine wpAnyH_take (i := 1) (oi := _) (v := ?_) rfl (by kernel_rfl) (by kernel_rfl) (by kernel_rfl) (fun _ _ _ h => h) (Or.inl ⟨by rfl, ?_⟩) (by assumption) ?_
  rotate_left 1
  · (intro w hSw; (try dsimp only at hSw); (go_simp <;> with_reducible rfl))
  (try simp only [Act.put, List.setIfInBounds_toArray, List.set_cons_zero, List.set_cons_succ])
  refine wpAnyH_take (i := 2) (oi := _) (v := ?_) rfl (by kernel_rfl) (by kernel_rfl) (by kernel_rfl) (fun _ _ _ h => h) (Or.inl ⟨by rfl, ?_⟩) (by assumption) ?_
  rotate_left 1
  · (intro w hSw; (try dsimp only at hSw); (go_simp <;> with_reducible rfl))
  (try simp only [Act.put, List.setIfInBounds_toArray, List.set_cons_zero, List.set_cons_succ])
  refine wpAnyH_take (i := 3) (oi := _) (v := ?_) rfl (by kernel_rfl) (by kernel_rfl) (by kernel_rfl) (fun _ _ _ h => h) (Or.inl ⟨by rfl, ?_⟩) (by assumption) ?_
  rotate_left 1
  · (intro w hSw; (try dsimp only at hSw); (go_simp <;> first | with_reducible rfl | (rw [if_pos (by omega)])))
  (try simp only [Act.put, List.setIfInBounds_toArray, List.set_cons_zero, List.set_cons_succ])
  refine wpAnyH_take (i := 4) (oi := _) (v := ?_) rfl (by kernel_rfl) (by kernel_rfl) (by kernel_rfl) (fun _ _ _ h => h) (Or.inl ⟨by rfl, ?_⟩) (by assumption) ?_
  rotate_left 1
  · (intro w hSw; (try dsimp only at hSw); (go_simp <;> first | with_reducible rfl | (rw [if_neg (by omega)])))
  (try simp only [Act.put, List.setIfInBounds_toArray, List.set_cons_zero, List.set_cons_succ])
  refine wpAnyH_take (i := 5) (oi := _) (v := ?_) rfl (by kernel_rfl) (by kernel_rfl) (by kernel_rfl) (fun _ _ _ h => h) (Or.inl ⟨by rfl, ?_⟩) (by assumption) ?_
  rotate_left 1
  · (intro w hSw; (try dsimp only at hSw); (go_simp <;> with_reducible rfl))
  (try simp only [Act.put, List.setIfInBounds_toArray, List.set_cons_zero, List.set_cons_succ])
  refine wpAnyH_take (i := 6) (oi := _) (v := ?_) rfl (by kernel_rfl) (by kernel_rfl) (by kernel_rfl) (fun _ _ _ h => h) (Or.inl ⟨by rfl, ?_⟩) (by assumption) ?_
  rotate_left 1
  · (intro w hSw; (try dsimp only at hSw); (go_simp <;> with_reducible rfl))
  (try simp only [Act.put, List.setIfInBounds_toArray, List.set_cons_zero, List.set_cons_succ])
  refine wpAnyH_take (i := 7) (oi := _) (v := ?_) rfl (by kernel_rfl) (by kernel_rfl) (by kernel_rfl) (fun _ _ _ h => h) (Or.inl ⟨by rfl, ?_⟩) (by assumption) ?_
  rotate_left 1
  · (intro w hSw; (try dsimp only at hSw); (go_simp <;> with_reducible rfl))
  (try simp only [Act.put, List.setIfInBounds_toArray, List.set_cons_zero, List.set_cons_succ])
  refine wpAnyH_ready (rs := [8]) (by kernel_rfl) (by simp) ?_
  refine AllReadyH.cons (o := _) rfl (fun K hK => ?_) ?_
  · go_simp
    refine (HQ.out _).mono ?_
    rintro en w10 ⟨rfl, b10⟩
    have e1 := (b10.cell (p := ⟨w2.heap.size, 1, none⟩) H_z).trans H_1
    have e2 := (b10.cell (p := ⟨w2.heap.size, 2, none⟩) H_z).trans H_2
    have B10 := Lib.hid (bthen (bdrewN B9.out _) b10)
    clear b10
    go_simp
    refine hK.out _ _ ?_ (fun hHeld => ?_)
    · exact ⟨e1, e2⟩
    clear hK K
    (try simp only [Act.put, List.setIfInBounds_toArray, List.set_cons_zero, List.set_cons_succ])
    refine wpAnyH_take (i := 9) (oi := _) (v := ?_) rfl (by kernel_rfl) (by kernel_rfl) (by kernel_rfl) (fun _ _ _ h => h) (Or.inl ⟨by rfl, ?_⟩) (by assumption) ?_
    rotate_left 1
    · (intro w hSw; (try dsimp only at hSw); (go_simp <;> with_reducible rfl))
    (try simp only [Act.put, List.setIfInBounds_toArray, List.set_cons_zero, List.set_cons_succ])
    refine wpAnyH_take (i := 10) (oi := _) (v := ?_) rfl (by kernel_rfl) (by kernel_rfl) (by kernel_rfl) (fun _ _ _ h => h) (Or.inl ⟨by rfl, ?_⟩) (by assumption) ?_
    rotate_left 1
    · (intro w hSw; (try dsimp only at hSw); (go_simp <;> with_reducible rfl))
    (try simp only [Act.put, List.setIfInBounds_toArray, List.set_cons_zero, List.set_cons_succ])
    refine wpAnyH_take (i := 11) (oi := _) (v := ?_) rfl (by kernel_rfl) (by kernel_rfl) (by kernel_rfl) (fun _ _ _ h => h) (Or.inl ⟨by rfl, ?_⟩) (by assumption) ?_
    rotate_left 1
    · (intro w hSw; (try dsimp only at hSw); (go_simp <;> with_reducible rfl))
    (try simp only [Act.put, List.setIfInBounds_toArray, List.set_cons_zero, List.set_cons_succ])
    refine wpAnyH_take (i := 12) (oi := _) (v := ?_) rfl (by kernel_rfl) (by kernel_rfl) (by kernel_rfl) (fun _ _ _ h => h) (Or.inl ⟨by rfl, ?_⟩) (by assumption) ?_
    rotate_left 1
    · (intro w hSw; (try dsimp only at hSw); (go_simp <;> with_reducible rfl))
    (try simp only [Act.put, List.setIfInBounds_toArray, List.set_cons_zero, List.set_cons_succ])
    refine wpAnyH_take (i := 13) (oi := _) (v := ?_) rfl (by kernel_rfl) (by kernel_rfl) (by kernel_rfl) (fun _ _ _ h => h) (Or.inl ⟨by rfl, ?_⟩) (by assumption) ?_
    rotate_left 1
    · (intro w hSw; (try dsimp only at hSw); (go_simp <;> with_reducible rfl))
    (try simp only [Act.put, List.setIfInBounds_toArray, List.set_cons_zero, List.set_cons_succ])
    refine wpAnyH_done (by kernel_rfl) ?_ _
    go_wp2_with (simp only [heq])
    go_ret
    exact ⟨rfl, B10.out⟩
  exact AllReadyH.nil

set_option maxHeartbeats 40000000 in
set_option maxRecDepth 100000 in
theorem middle_p_even_hi (s : Bool) (k : Nat) (hs : s = false ∨ k = 0) (w : World) (hk : k < double.infRung) (hv : k % 2 = 0) (ht : 0 ≤ btE k) :
    Calls Tryd.prog 10 #[.float .f64 (double.word s k)] w (TruePost w) := by
  have hki : k < double.infRung := by omega
  have hkn : k < 9218868437227405312 := by rw [← inf_num]; exact hki
  have hB : ∀ W, Calls Tryd.prog 19 #[.float .f64 (double.word s k)] W (BtPost W false (btL k) (btE k)) := by
    intro W
    rcases hs with rfl | rfl
    · exact btw_w k W hk
    · cases s
      · exact btw_w 0 W hk
      · exact btz_w W
  have hC : dcmp s (exL k) (exE k) false (btL k) (btE k) = -1 := by
    rcases hs with rfl | rfl
    · exact ex_bt_pos k
    · cases s
      · exact ex_bt_pos 0
      · exact ex_bt_zero
  have hlt : (FloatKind.f64.format.order (double.word s k) 0 == some .lt) = false := by
    by_cases h0 : k = 0
    · subst h0
      have := (ord_zero (s := s) (n := 0) hk (o := .eq) (by cases s <;> rfl)).lt
      rw [eq_lt] at this; exact this
    · obtain rfl : s = false := by rcases hs with h | h; exact h; exact absurd h h0
      have := (ord_zero (s := false) (n := k) hk (o := .gt) (by rw [cmp_gt]; unfold Rung.sgn; simp; omega)).lt
      rw [gt_lt] at this; exact this
  have HB := Lib.hid hB
  have HF := Lib.hid (fun W => fin_yes s k W hk)
  have HE := Lib.hid (fun W => exw_w s k W hk)
  have hcm := fun W => dcmp_w s ⟨(exL k).toArray⟩ (exE k) false ⟨(btL k).toArray⟩ (btE k) W (ex_form hk) (bt_form hki) (size_of _ (ex_len hk)) (size_of _ (bt_len hki))
  simp only [show dcmp s ((⟨(exL k).toArray⟩ : ByteArray).data.toList) (exE k) false ((⟨(btL k).toArray⟩ : ByteArray).data.toList) (btE k) = -1 from hC] at hcm
  have HC := Lib.hid hcm
  have HN := Lib.hid (fun W => numb_w s k W hk)
  have hnb := near_bt hki
  rw [if_neg (by omega)] at hnb
  have HO := Lib.hid (fun W => of_ok false (btL k) (btE k) k W (bt_form hki) (bt_len hki) hnb (by omega))
  have HFL := Lib.hid (fun W => float_w false k W hki)
  have HSA := Lib.hid (fun W => same_w false k W hki)
  have hp : ((k : Int) % 2 == 1) = false := by rw [beq_eq_false_iff_ne]; omega
  have ho : (((k : Nat) : Int) == 9218868437227405312) = false := by rw [beq_eq_false_iff_ne]; omega
  generalize hbl : btL k = l at *
  generalize hbe : btE k = be at *
  generalize hlx : exL k = lx at *
  generalize hex : exE k = ex at *
  clear hB hC hcm hnb hlx hex hbe hbl
  have ht2 : decide (be < 0) = false := by rw [decide_eq_false_iff_not]; omega
  have ht3 : decide (0 ≤ be) = true := by rw [decide_eq_true_iff]; omega
  have ht4 : ¬ be < 0 := by omega
  go_enter Tryd.func10, Tryd.ntmps10
  go_wp2_with fail
  refine (awake_w _).mono ?_
  rintro en w1 ⟨rfl, b1⟩
  have B1 := Lib.hid (bthen (Below.refl _ w) b1)
  clear b1
  go_wp2_with fail
  refine (HB.out _).mono ?_
  rintro en w2 ⟨rfl, b2⟩
  have B2 := Lib.hid (bthen B1.out b2)
  clear b2
  go_wp2_with fail
  refine (HF.out _).mono ?_
  rintro en w3 ⟨rfl, hw3⟩
  subst hw3
  go_wp2_with fail
  refine (HE.out _).mono ?_
  rintro en w4 ⟨rfl, b4⟩
  have hx := (Blk.new w2 23 #[.bool false, .string ⟨l.toArray⟩, .int .i64 be])
  have HH4 := Lib.hid (hx.below b4 hx.lt)
  clear hx
  have B4 := Lib.hid (bthen (B2.out.alloc B2.out.size (.cells #[.bool false, .string ⟨l.toArray⟩, .int .i64 be] 23)) b4)
  have H_0 : w4.cell? ⟨w2.heap.size, 0, none⟩ = some (.bool false) := HH4.out.cell 0
  have H_1 : w4.cell? ⟨w2.heap.size, 1, none⟩ = some (.string ⟨l.toArray⟩) := HH4.out.cell 1
  have H_2 : w4.cell? ⟨w2.heap.size, 2, none⟩ = some (.int .i64 be) := HH4.out.cell 2
  have H_z : w2.heap.size < w4.heap.size := HH4.out.lt
  clear b4
  go_wp2_with fail
  refine (HC.out _).mono ?_
  rintro en w5 ⟨rfl, b5⟩
  have hx := (HH4.out.alloc (.cells #[.bool s, .string ⟨lx.toArray⟩, .int .i64 ex] 23))
  have HH5 := Lib.hid (hx.below b5 hx.lt)
  clear hx
  have hx := (Blk.new w4 23 #[.bool s, .string ⟨lx.toArray⟩, .int .i64 ex])
  have HD5 := Lib.hid (hx.below b5 hx.lt)
  clear hx
  have B5 := Lib.hid (bthen (B4.out.alloc B4.out.size (.cells #[.bool s, .string ⟨lx.toArray⟩, .int .i64 ex] 23)) b5)
  clear H_0 H_1 H_2 H_z
  have H_0 : w5.cell? ⟨w2.heap.size, 0, none⟩ = some (.bool false) := HH5.out.cell 0
  have H_1 : w5.cell? ⟨w2.heap.size, 1, none⟩ = some (.string ⟨l.toArray⟩) := HH5.out.cell 1
  have H_2 : w5.cell? ⟨w2.heap.size, 2, none⟩ = some (.int .i64 be) := HH5.out.cell 2
  have H_z : w2.heap.size < w5.heap.size := HH5.out.lt
  have D_0 : w5.cell? ⟨w4.heap.size, 0, none⟩ = some (.bool s) := HD5.out.cell 0
  have D_1 : w5.cell? ⟨w4.heap.size, 1, none⟩ = some (.string ⟨lx.toArray⟩) := HD5.out.cell 1
  have D_2 : w5.cell? ⟨w4.heap.size, 2, none⟩ = some (.int .i64 ex) := HD5.out.cell 2
  have D_z : w4.heap.size < w5.heap.size := HD5.out.lt
  clear b5
  go_wp2_with (simp only [hlt, over_field, hp, ho])
  refine (HN.out _).mono ?_
  rintro en w6 ⟨rfl, b6⟩
  have hx := HH5.out
  have HH6 := Lib.hid (hx.below b6 hx.lt)
  clear hx
  have hx := HD5.out
  have HD6 := Lib.hid (hx.below b6 hx.lt)
  clear hx
  have B6 := Lib.hid (bthen B5.out b6)
  clear H_0 H_1 H_2 D_0 D_1 D_2 H_z D_z
  have H_0 : w6.cell? ⟨w2.heap.size, 0, none⟩ = some (.bool false) := HH6.out.cell 0
  have H_1 : w6.cell? ⟨w2.heap.size, 1, none⟩ = some (.string ⟨l.toArray⟩) := HH6.out.cell 1
  have H_2 : w6.cell? ⟨w2.heap.size, 2, none⟩ = some (.int .i64 be) := HH6.out.cell 2
  have H_z : w2.heap.size < w6.heap.size := HH6.out.lt
  have D_0 : w6.cell? ⟨w4.heap.size, 0, none⟩ = some (.bool s) := HD6.out.cell 0
  have D_1 : w6.cell? ⟨w4.heap.size, 1, none⟩ = some (.string ⟨lx.toArray⟩) := HD6.out.cell 1
  have D_2 : w6.cell? ⟨w4.heap.size, 2, none⟩ = some (.int .i64 ex) := HD6.out.cell 2
  have D_z : w4.heap.size < w6.heap.size := HD6.out.lt
  clear b6
  go_wp2_with (simp only [hlt, over_field, hp, ho])
  refine (HO.out _).mono ?_
  rintro en w7 ⟨rfl, b7⟩
  have hx := HH6.out
  have HH7 := Lib.hid (hx.below b7 hx.lt)
  clear hx
  have hx := HD6.out
  have HD7 := Lib.hid (hx.below b7 hx.lt)
  clear hx
  have B7 := Lib.hid (bthen B6.out b7)
  clear H_0 H_1 H_2 D_0 D_1 D_2 H_z D_z
  have H_0 : w7.cell? ⟨w2.heap.size, 0, none⟩ = some (.bool false) := HH7.out.cell 0
  have H_1 : w7.cell? ⟨w2.heap.size, 1, none⟩ = some (.string ⟨l.toArray⟩) := HH7.out.cell 1
  have H_2 : w7.cell? ⟨w2.heap.size, 2, none⟩ = some (.int .i64 be) := HH7.out.cell 2
  have H_z : w2.heap.size < w7.heap.size := HH7.out.lt
  have D_0 : w7.cell? ⟨w4.heap.size, 0, none⟩ = some (.bool s) := HD7.out.cell 0
  have D_1 : w7.cell? ⟨w4.heap.size, 1, none⟩ = some (.string ⟨lx.toArray⟩) := HD7.out.cell 1
  have D_2 : w7.cell? ⟨w4.heap.size, 2, none⟩ = some (.int .i64 ex) := HD7.out.cell 2
  have D_z : w4.heap.size < w7.heap.size := HD7.out.lt
  clear b7
  go_wp2_with (simp only [hlt, over_field, hp, ho])
  refine (long_w _).mono ?_
  rintro en w8 ⟨rfl, b8⟩
  have hx := HH7.out
  have HH8 := Lib.hid (hx.below b8 hx.lt)
  clear hx
  have hx := HD7.out
  have HD8 := Lib.hid (hx.below b8 hx.lt)
  clear hx
  have B8 := Lib.hid (bthen B7.out b8)
  clear H_0 H_1 H_2 D_0 D_1 D_2 H_z D_z
  have H_0 : w8.cell? ⟨w2.heap.size, 0, none⟩ = some (.bool false) := HH8.out.cell 0
  have H_1 : w8.cell? ⟨w2.heap.size, 1, none⟩ = some (.string ⟨l.toArray⟩) := HH8.out.cell 1
  have H_2 : w8.cell? ⟨w2.heap.size, 2, none⟩ = some (.int .i64 be) := HH8.out.cell 2
  have H_z : w2.heap.size < w8.heap.size := HH8.out.lt
  have D_0 : w8.cell? ⟨w4.heap.size, 0, none⟩ = some (.bool s) := HD8.out.cell 0
  have D_1 : w8.cell? ⟨w4.heap.size, 1, none⟩ = some (.string ⟨lx.toArray⟩) := HD8.out.cell 1
  have D_2 : w8.cell? ⟨w4.heap.size, 2, none⟩ = some (.int .i64 ex) := HD8.out.cell 2
  have D_z : w4.heap.size < w8.heap.size := HD8.out.lt
  clear b8
  go_wp2_with (simp only [hlt, over_field, hp, ho])
  refine (HFL.out _).mono ?_
  rintro en w9 ⟨rfl, b9⟩
  have hx := HH8.out
  have HH9 := Lib.hid (hx.below b9 hx.lt)
  clear hx
  have hx := HD8.out
  have HD9 := Lib.hid (hx.below b9 hx.lt)
  clear hx
  have B9 := Lib.hid (bthen B8.out b9)
  clear H_0 H_1 H_2 D_0 D_1 D_2 H_z D_z
  have H_0 : w9.cell? ⟨w2.heap.size, 0, none⟩ = some (.bool false) := HH9.out.cell 0
  have H_1 : w9.cell? ⟨w2.heap.size, 1, none⟩ = some (.string ⟨l.toArray⟩) := HH9.out.cell 1
  have H_2 : w9.cell? ⟨w2.heap.size, 2, none⟩ = some (.int .i64 be) := HH9.out.cell 2
  have H_z : w2.heap.size < w9.heap.size := HH9.out.lt
  have D_0 : w9.cell? ⟨w4.heap.size, 0, none⟩ = some (.bool s) := HD9.out.cell 0
  have D_1 : w9.cell? ⟨w4.heap.size, 1, none⟩ = some (.string ⟨lx.toArray⟩) := HD9.out.cell 1
  have D_2 : w9.cell? ⟨w4.heap.size, 2, none⟩ = some (.int .i64 ex) := HD9.out.cell 2
  have D_z : w4.heap.size < w9.heap.size := HD9.out.lt
  clear b9
  go_wp2_with (simp only [hlt, over_field, hp, ho])
  refine (HSA.out _).mono ?_
  rintro en w10 ⟨rfl, hw10⟩
  subst hw10
  go_wp2_with (simp only [hlt, over_field, hp, ho])
  go_ret
  exact ⟨rfl, B9.out⟩
set_option maxHeartbeats 40000000 in
set_option maxRecDepth 100000 in
theorem middle_p_even_lo (s : Bool) (k : Nat) (hs : s = false ∨ k = 0) (w : World) (hk : k < double.infRung) (hv : k % 2 = 0) (ht : btE k < 0) :
    Calls Tryd.prog 10 #[.float .f64 (double.word s k)] w (TruePost w) := by
  have hki : k < double.infRung := by omega
  have hkn : k < 9218868437227405312 := by rw [← inf_num]; exact hki
  have hB : ∀ W, Calls Tryd.prog 19 #[.float .f64 (double.word s k)] W (BtPost W false (btL k) (btE k)) := by
    intro W
    rcases hs with rfl | rfl
    · exact btw_w k W hk
    · cases s
      · exact btw_w 0 W hk
      · exact btz_w W
  have hC : dcmp s (exL k) (exE k) false (btL k) (btE k) = -1 := by
    rcases hs with rfl | rfl
    · exact ex_bt_pos k
    · cases s
      · exact ex_bt_pos 0
      · exact ex_bt_zero
  have hlt : (FloatKind.f64.format.order (double.word s k) 0 == some .lt) = false := by
    by_cases h0 : k = 0
    · subst h0
      have := (ord_zero (s := s) (n := 0) hk (o := .eq) (by cases s <;> rfl)).lt
      rw [eq_lt] at this; exact this
    · obtain rfl : s = false := by rcases hs with h | h; exact h; exact absurd h h0
      have := (ord_zero (s := false) (n := k) hk (o := .gt) (by rw [cmp_gt]; unfold Rung.sgn; simp; omega)).lt
      rw [gt_lt] at this; exact this
  have HB := Lib.hid hB
  have HF := Lib.hid (fun W => fin_yes s k W hk)
  have HE := Lib.hid (fun W => exw_w s k W hk)
  have hcm := fun W => dcmp_w s ⟨(exL k).toArray⟩ (exE k) false ⟨(btL k).toArray⟩ (btE k) W (ex_form hk) (bt_form hki) (size_of _ (ex_len hk)) (size_of _ (bt_len hki))
  simp only [show dcmp s ((⟨(exL k).toArray⟩ : ByteArray).data.toList) (exE k) false ((⟨(btL k).toArray⟩ : ByteArray).data.toList) (btE k) = -1 from hC] at hcm
  have HC := Lib.hid hcm
  have HN := Lib.hid (fun W => numb_w s k W hk)
  have hnb := near_bt hki
  rw [if_neg (by omega)] at hnb
  have HO := Lib.hid (fun W => of_ok false (btL k) (btE k) k W (bt_form hki) (bt_len hki) hnb (by omega))
  have HFL := Lib.hid (fun W => float_w false k W hki)
  have HSA := Lib.hid (fun W => same_w false k W hki)
  have hp : ((k : Int) % 2 == 1) = false := by rw [beq_eq_false_iff_ne]; omega
  have ho : (((k : Nat) : Int) == 9218868437227405312) = false := by rw [beq_eq_false_iff_ne]; omega
  obtain ⟨m, hm, hmf, hmn⟩ := four hki ht
  have hml : (m ++ [52]).length ≤ 3000 := by have := bt_len hki; rw [hm] at this; simpa using this
  have HQ := Lib.hid (fun W => of_ok false (m ++ [52]) (btE k) k W hmf hml hmn (by omega))
  clear hmf hmn
  have hml2 : m.length < 3000 := by simp at hml; omega
  clear hml
  have heq : (FloatKind.f64.format.order (double.word false k) (double.word s k) == some .eq) = true := by
    rcases hs with rfl | rfl
    · have := (ord_sgn (s := false) (t := false) hk hk (cmp_eq rfl)).eq
      rw [eq_eq] at this; exact this
    · have := (ord_sgn (s := false) (t := s) (n := 0) (m := 0) hk hk (cmp_eq (by cases s <;> rfl))).eq
      rw [eq_eq] at this; exact this
  generalize hbl : btL k = l at *
  generalize hbe : btE k = be at *
  generalize hlx : exL k = lx at *
  generalize hex : exE k = ex at *
  clear hB hC hcm hnb hlx hex hbe hbl
  have HB2 := Lib.hid (fun W => show Calls Tryd.prog 19 #[.float .f64 (double.word s k)] W (BsPost W false ⟨l.toArray⟩ be) from HB.out W)
  clear HB
  generalize hs5 : (⟨l.toArray⟩ : ByteArray) = s5 at *
  rw [hm] at hs5
  obtain ⟨hz5, he5⟩ := cut53 s5 m hs5.symm
  rw [← he5] at HQ
  have hj5 : s5.size < 3002 := by omega
  have h15 : 1 ≤ s5.size := by omega
  have HL5 := Lib.hid (fun i (hi : i = m.length) h => last53 s5 m hs5.symm i hi h)
  have HZ5 := Lib.hid hz5
  clear hs5 he5 hm hz5 hml2
  have ht3 : decide (0 ≤ be) = false := by rw [decide_eq_false_iff_not]; omega
  go_enter Tryd.func10, Tryd.ntmps10
  go_wp2_with fail
  refine (awake_w _).mono ?_
  rintro en w1 ⟨rfl, b1⟩
  have B1 := Lib.hid (bthen (Below.refl _ w) b1)
  clear b1
  go_wp2_with fail
  refine (HB2.out _).mono ?_
  rintro en w2 ⟨rfl, b2⟩
  have B2 := Lib.hid (bthen B1.out b2)
  clear b2
  go_wp2_with fail
  refine (HF.out _).mono ?_
  rintro en w3 ⟨rfl, hw3⟩
  subst hw3
  go_wp2_with fail
  refine (HE.out _).mono ?_
  rintro en w4 ⟨rfl, b4⟩
  have hx := (Blk.new w2 23 #[.bool false, .string s5, .int .i64 be])
  have HH4 := Lib.hid (hx.below b4 hx.lt)
  clear hx
  have B4 := Lib.hid (bthen (B2.out.alloc B2.out.size (.cells #[.bool false, .string s5, .int .i64 be] 23)) b4)
  have H_0 : w4.cell? ⟨w2.heap.size, 0, none⟩ = some (.bool false) := HH4.out.cell 0
  have H_1 : w4.cell? ⟨w2.heap.size, 1, none⟩ = some (.string s5) := HH4.out.cell 1
  have H_2 : w4.cell? ⟨w2.heap.size, 2, none⟩ = some (.int .i64 be) := HH4.out.cell 2
  have H_z : w2.heap.size < w4.heap.size := HH4.out.lt
  clear b4
  go_wp2_with fail
  refine (HC.out _).mono ?_
  rintro en w5 ⟨rfl, b5⟩
  have hx := (HH4.out.alloc (.cells #[.bool s, .string ⟨lx.toArray⟩, .int .i64 ex] 23))
  have HH5 := Lib.hid (hx.below b5 hx.lt)
  clear hx
  have hx := (Blk.new w4 23 #[.bool s, .string ⟨lx.toArray⟩, .int .i64 ex])
  have HD5 := Lib.hid (hx.below b5 hx.lt)
  clear hx
  have B5 := Lib.hid (bthen (B4.out.alloc B4.out.size (.cells #[.bool s, .string ⟨lx.toArray⟩, .int .i64 ex] 23)) b5)
  clear H_0 H_1 H_2 H_z
  have H_0 : w5.cell? ⟨w2.heap.size, 0, none⟩ = some (.bool false) := HH5.out.cell 0
  have H_1 : w5.cell? ⟨w2.heap.size, 1, none⟩ = some (.string s5) := HH5.out.cell 1
  have H_2 : w5.cell? ⟨w2.heap.size, 2, none⟩ = some (.int .i64 be) := HH5.out.cell 2
  have H_z : w2.heap.size < w5.heap.size := HH5.out.lt
  have D_0 : w5.cell? ⟨w4.heap.size, 0, none⟩ = some (.bool s) := HD5.out.cell 0
  have D_1 : w5.cell? ⟨w4.heap.size, 1, none⟩ = some (.string ⟨lx.toArray⟩) := HD5.out.cell 1
  have D_2 : w5.cell? ⟨w4.heap.size, 2, none⟩ = some (.int .i64 ex) := HD5.out.cell 2
  have D_z : w4.heap.size < w5.heap.size := HD5.out.lt
  clear b5
  go_wp2_with (simp only [hlt, over_field, hp, ho, heq])
  refine (HN.out _).mono ?_
  rintro en w6 ⟨rfl, b6⟩
  have hx := HH5.out
  have HH6 := Lib.hid (hx.below b6 hx.lt)
  clear hx
  have hx := HD5.out
  have HD6 := Lib.hid (hx.below b6 hx.lt)
  clear hx
  have B6 := Lib.hid (bthen B5.out b6)
  clear H_0 H_1 H_2 D_0 D_1 D_2 H_z D_z
  have H_0 : w6.cell? ⟨w2.heap.size, 0, none⟩ = some (.bool false) := HH6.out.cell 0
  have H_1 : w6.cell? ⟨w2.heap.size, 1, none⟩ = some (.string s5) := HH6.out.cell 1
  have H_2 : w6.cell? ⟨w2.heap.size, 2, none⟩ = some (.int .i64 be) := HH6.out.cell 2
  have H_z : w2.heap.size < w6.heap.size := HH6.out.lt
  have D_0 : w6.cell? ⟨w4.heap.size, 0, none⟩ = some (.bool s) := HD6.out.cell 0
  have D_1 : w6.cell? ⟨w4.heap.size, 1, none⟩ = some (.string ⟨lx.toArray⟩) := HD6.out.cell 1
  have D_2 : w6.cell? ⟨w4.heap.size, 2, none⟩ = some (.int .i64 ex) := HD6.out.cell 2
  have D_z : w4.heap.size < w6.heap.size := HD6.out.lt
  clear b6
  go_wp2_with (simp only [hlt, over_field, hp, ho, heq])
  refine (HO.out _).mono ?_
  rintro en w7 ⟨rfl, b7⟩
  have hx := HH6.out
  have HH7 := Lib.hid (hx.below b7 hx.lt)
  clear hx
  have hx := HD6.out
  have HD7 := Lib.hid (hx.below b7 hx.lt)
  clear hx
  have B7 := Lib.hid (bthen B6.out b7)
  clear H_0 H_1 H_2 D_0 D_1 D_2 H_z D_z
  have H_0 : w7.cell? ⟨w2.heap.size, 0, none⟩ = some (.bool false) := HH7.out.cell 0
  have H_1 : w7.cell? ⟨w2.heap.size, 1, none⟩ = some (.string s5) := HH7.out.cell 1
  have H_2 : w7.cell? ⟨w2.heap.size, 2, none⟩ = some (.int .i64 be) := HH7.out.cell 2
  have H_z : w2.heap.size < w7.heap.size := HH7.out.lt
  have D_0 : w7.cell? ⟨w4.heap.size, 0, none⟩ = some (.bool s) := HD7.out.cell 0
  have D_1 : w7.cell? ⟨w4.heap.size, 1, none⟩ = some (.string ⟨lx.toArray⟩) := HD7.out.cell 1
  have D_2 : w7.cell? ⟨w4.heap.size, 2, none⟩ = some (.int .i64 ex) := HD7.out.cell 2
  have D_z : w4.heap.size < w7.heap.size := HD7.out.lt
  clear b7
  go_wp2_with (simp only [hlt, over_field, hp, ho, heq])
  refine (long_w _).mono ?_
  rintro en w8 ⟨rfl, b8⟩
  have hx := HH7.out
  have HH8 := Lib.hid (hx.below b8 hx.lt)
  clear hx
  have hx := HD7.out
  have HD8 := Lib.hid (hx.below b8 hx.lt)
  clear hx
  have B8 := Lib.hid (bthen B7.out b8)
  clear H_0 H_1 H_2 D_0 D_1 D_2 H_z D_z
  have H_0 : w8.cell? ⟨w2.heap.size, 0, none⟩ = some (.bool false) := HH8.out.cell 0
  have H_1 : w8.cell? ⟨w2.heap.size, 1, none⟩ = some (.string s5) := HH8.out.cell 1
  have H_2 : w8.cell? ⟨w2.heap.size, 2, none⟩ = some (.int .i64 be) := HH8.out.cell 2
  have H_z : w2.heap.size < w8.heap.size := HH8.out.lt
  have D_0 : w8.cell? ⟨w4.heap.size, 0, none⟩ = some (.bool s) := HD8.out.cell 0
  have D_1 : w8.cell? ⟨w4.heap.size, 1, none⟩ = some (.string ⟨lx.toArray⟩) := HD8.out.cell 1
  have D_2 : w8.cell? ⟨w4.heap.size, 2, none⟩ = some (.int .i64 ex) := HD8.out.cell 2
  have D_z : w4.heap.size < w8.heap.size := HD8.out.lt
  clear b8
  go_wp2_with (simp only [hlt, over_field, hp, ho, heq])
  refine (HFL.out _).mono ?_
  rintro en w9 ⟨rfl, b9⟩
  have hx := HH8.out
  have HH9 := Lib.hid (hx.below b9 hx.lt)
  clear hx
  have hx := HD8.out
  have HD9 := Lib.hid (hx.below b9 hx.lt)
  clear hx
  have B9 := Lib.hid (bthen B8.out b9)
  clear H_0 H_1 H_2 D_0 D_1 D_2 H_z D_z
  have H_0 : w9.cell? ⟨w2.heap.size, 0, none⟩ = some (.bool false) := HH9.out.cell 0
  have H_1 : w9.cell? ⟨w2.heap.size, 1, none⟩ = some (.string s5) := HH9.out.cell 1
  have H_2 : w9.cell? ⟨w2.heap.size, 2, none⟩ = some (.int .i64 be) := HH9.out.cell 2
  have H_z : w2.heap.size < w9.heap.size := HH9.out.lt
  have D_0 : w9.cell? ⟨w4.heap.size, 0, none⟩ = some (.bool s) := HD9.out.cell 0
  have D_1 : w9.cell? ⟨w4.heap.size, 1, none⟩ = some (.string ⟨lx.toArray⟩) := HD9.out.cell 1
  have D_2 : w9.cell? ⟨w4.heap.size, 2, none⟩ = some (.int .i64 ex) := HD9.out.cell 2
  have D_z : w4.heap.size < w9.heap.size := HD9.out.lt
  clear b9
  go_wp2_with (simp only [hlt, over_field, hp, ho, heq])
  refine (HSA.out _).mono ?_
  rintro en w10 ⟨rfl, hw10⟩
  subst hw10
  go_wp2_with (simp only [hlt, over_field, hp, ho, heq])
  · exact absurd ‹_ ∨ _› (by rintro (h | h); omega; rw [HL5.out _ (by rw [HZ5.out]; omega)] at h; exact absurd h (by decide))

  refine wp_region_held_drew (S := (fun w' => w'.cell? ⟨w2.heap.size, 1, none⟩ = some (.string s5) ∧ w'.cell? ⟨w2.heap.size, 2, none⟩ = some (.int .i64 be))) (by kernel_rfl) ?_ (fun hHeld => ?_)
  · exact ⟨H_1, H_2⟩
  refine wpAnyH_take (i := 0) (oi := _) (v := ?_) rfl (by kernel_rfl) (by kernel_rfl) (by kernel_rfl) (fun _ _ _ h => h) (Or.inl ⟨by rfl, ?_⟩) (by assumption) ?_
  rotate_left 1
  · (intro w hSw; (try dsimp only at hSw); (go_simp <;> with_reducible rfl))
  (try simp only [Act.put, List.setIfInBounds_toArray, List.set_cons_zero, List.set_cons_succ])
  refine wpAnyH_take (i := 1) (oi := _) (v := ?_) rfl (by kernel_rfl) (by kernel_rfl) (by kernel_rfl) (fun _ _ _ h => h) (Or.inl ⟨by rfl, ?_⟩) (by assumption) ?_
  rotate_left 1
  · (intro w hSw; (try dsimp only at hSw); (go_simp <;> with_reducible rfl))
  (try simp only [Act.put, List.setIfInBounds_toArray, List.set_cons_zero, List.set_cons_succ])
  refine wpAnyH_take (i := 2) (oi := _) (v := ?_) rfl (by kernel_rfl) (by kernel_rfl) (by kernel_rfl) (fun _ _ _ h => h) (Or.inl ⟨by rfl, ?_⟩) (by assumption) ?_
  rotate_left 1
  · (intro w hSw; (try dsimp only at hSw); (go_simp <;> with_reducible rfl))
  (try simp only [Act.put, List.setIfInBounds_toArray, List.set_cons_zero, List.set_cons_succ])
  refine wpAnyH_take (i := 3) (oi := _) (v := ?_) rfl (by kernel_rfl) (by kernel_rfl) (by kernel_rfl) (fun _ _ _ h => h) (Or.inl ⟨by rfl, ?_⟩) (by assumption) ?_
  rotate_left 1
  · (intro w hSw; (try dsimp only at hSw); (go_simp <;> first | with_reducible rfl | (rw [if_pos (by omega)])))
  (try simp only [Act.put, List.setIfInBounds_toArray, List.set_cons_zero, List.set_cons_succ])
  refine wpAnyH_take (i := 4) (oi := _) (v := ?_) rfl (by kernel_rfl) (by kernel_rfl) (by kernel_rfl) (fun _ _ _ h => h) (Or.inl ⟨by rfl, ?_⟩) (by assumption) ?_
  rotate_left 1
  · (intro w hSw; (try dsimp only at hSw); (go_simp <;> first | with_reducible rfl | (rw [if_neg (by omega)])))
  (try simp only [Act.put, List.setIfInBounds_toArray, List.set_cons_zero, List.set_cons_succ])
  refine wpAnyH_take (i := 5) (oi := _) (v := ?_) rfl (by kernel_rfl) (by kernel_rfl) (by kernel_rfl) (fun _ _ _ h => h) (Or.inl ⟨by rfl, ?_⟩) (by assumption) ?_
  rotate_left 1
  · (intro w hSw; (try dsimp only at hSw); (go_simp <;> with_reducible rfl))
  (try simp only [Act.put, List.setIfInBounds_toArray, List.set_cons_zero, List.set_cons_succ])
  refine wpAnyH_take (i := 6) (oi := _) (v := ?_) rfl (by kernel_rfl) (by kernel_rfl) (by kernel_rfl) (fun _ _ _ h => h) (Or.inl ⟨by rfl, ?_⟩) (by assumption) ?_
  rotate_left 1
  · (intro w hSw; (try dsimp only at hSw); (go_simp <;> with_reducible rfl))
  (try simp only [Act.put, List.setIfInBounds_toArray, List.set_cons_zero, List.set_cons_succ])
  refine wpAnyH_take (i := 7) (oi := _) (v := ?_) rfl (by kernel_rfl) (by kernel_rfl) (by kernel_rfl) (fun _ _ _ h => h) (Or.inl ⟨by rfl, ?_⟩) (by assumption) ?_
  rotate_left 1
  · (intro w hSw; (try dsimp only at hSw); (go_simp <;> with_reducible rfl))
  (try simp only [Act.put, List.setIfInBounds_toArray, List.set_cons_zero, List.set_cons_succ])
  refine wpAnyH_ready (rs := [8]) (by kernel_rfl) (by simp) ?_
  refine AllReadyH.cons (o := _) rfl (fun K hK => ?_) ?_
  · go_simp
    refine (HQ.out _).mono ?_
    rintro en w10 ⟨rfl, b10⟩
    have e1 := (b10.cell (p := ⟨w2.heap.size, 1, none⟩) H_z).trans H_1
    have e2 := (b10.cell (p := ⟨w2.heap.size, 2, none⟩) H_z).trans H_2
    have B10 := Lib.hid (bthen (bdrewN B9.out _) b10)
    clear b10
    go_simp
    refine hK.out _ _ ?_ (fun hHeld => ?_)
    · exact ⟨e1, e2⟩
    clear hK K
    (try simp only [Act.put, List.setIfInBounds_toArray, List.set_cons_zero, List.set_cons_succ])
    refine wpAnyH_take (i := 9) (oi := _) (v := ?_) rfl (by kernel_rfl) (by kernel_rfl) (by kernel_rfl) (fun _ _ _ h => h) (Or.inl ⟨by rfl, ?_⟩) (by assumption) ?_
    rotate_left 1
    · (intro w hSw; (try dsimp only at hSw); (go_simp <;> with_reducible rfl))
    (try simp only [Act.put, List.setIfInBounds_toArray, List.set_cons_zero, List.set_cons_succ])
    refine wpAnyH_take (i := 10) (oi := _) (v := ?_) rfl (by kernel_rfl) (by kernel_rfl) (by kernel_rfl) (fun _ _ _ h => h) (Or.inl ⟨by rfl, ?_⟩) (by assumption) ?_
    rotate_left 1
    · (intro w hSw; (try dsimp only at hSw); (go_simp <;> with_reducible rfl))
    (try simp only [Act.put, List.setIfInBounds_toArray, List.set_cons_zero, List.set_cons_succ])
    refine wpAnyH_take (i := 11) (oi := _) (v := ?_) rfl (by kernel_rfl) (by kernel_rfl) (by kernel_rfl) (fun _ _ _ h => h) (Or.inl ⟨by rfl, ?_⟩) (by assumption) ?_
    rotate_left 1
    · (intro w hSw; (try dsimp only at hSw); (go_simp <;> with_reducible rfl))
    (try simp only [Act.put, List.setIfInBounds_toArray, List.set_cons_zero, List.set_cons_succ])
    refine wpAnyH_take (i := 12) (oi := _) (v := ?_) rfl (by kernel_rfl) (by kernel_rfl) (by kernel_rfl) (fun _ _ _ h => h) (Or.inl ⟨by rfl, ?_⟩) (by assumption) ?_
    rotate_left 1
    · (intro w hSw; (try dsimp only at hSw); (go_simp <;> with_reducible rfl))
    (try simp only [Act.put, List.setIfInBounds_toArray, List.set_cons_zero, List.set_cons_succ])
    refine wpAnyH_take (i := 13) (oi := _) (v := ?_) rfl (by kernel_rfl) (by kernel_rfl) (by kernel_rfl) (fun _ _ _ h => h) (Or.inl ⟨by rfl, ?_⟩) (by assumption) ?_
    rotate_left 1
    · (intro w hSw; (try dsimp only at hSw); (go_simp <;> with_reducible rfl))
    (try simp only [Act.put, List.setIfInBounds_toArray, List.set_cons_zero, List.set_cons_succ])
    refine wpAnyH_done (by kernel_rfl) ?_ _
    go_wp2_with (simp only [heq])
    go_ret
    exact ⟨rfl, B10.out⟩
  exact AllReadyH.nil

set_option maxHeartbeats 40000000 in
set_option maxRecDepth 100000 in
theorem middle_no (s : Bool) (n : Nat) (h : double.infRung ≤ n) (h' : n < double.signWeight) (w : World) :
    Calls Tryd.prog 10 #[.float .f64 (double.word s n)] w (TruePost w) := by
  have HB := Lib.hid (fun W => between_no s n W h h')
  have HF := Lib.hid (fun W => fin_no s n W h h')
  clear h h'
  go_enter Tryd.func10, Tryd.ntmps10
  go_wp2_with fail
  refine (awake_w _).mono ?_
  rintro en w1 ⟨rfl, b1⟩
  have B1 := Lib.hid (bthen (Below.refl _ w) b1)
  clear b1
  go_wp2_with fail
  refine (HB.out _).mono ?_
  rintro en w2 ⟨rfl, b2⟩
  have B2 := Lib.hid (bthen B1.out b2)
  clear b2
  unfold decV
  go_wp2_with fail
  refine (HF.out _).mono ?_
  rintro en w3 ⟨rfl, hw3⟩
  have b3 : Below (w2.alloc (.cells #[.bool false, .string ⟨#[]⟩, .int .i64 0] 23)).heap.size (w2.alloc (.cells #[.bool false, .string ⟨#[]⟩, .int .i64 0] 23)) w3 := by rw [hw3]; exact bdrewN (Below.refl _ _) 1
  clear hw3
  have hx := (Blk.new w2 23 #[.bool false, .string ⟨#[]⟩, .int .i64 0])
  have HD3 := Lib.hid (hx.below b3 hx.lt)
  clear hx
  have B3 := Lib.hid (bthen (B2.out.alloc B2.out.size (.cells #[.bool false, .string ⟨#[]⟩, .int .i64 0] 23)) b3)
  have D_0 : w3.cell? ⟨w2.heap.size, 0, none⟩ = some (.bool false) := HD3.out.cell 0
  have D_1 : w3.cell? ⟨w2.heap.size, 1, none⟩ = some (.string ⟨#[]⟩) := HD3.out.cell 1
  have D_2 : w3.cell? ⟨w2.heap.size, 2, none⟩ = some (.int .i64 0) := HD3.out.cell 2
  have D_z : w2.heap.size < w3.heap.size := HD3.out.lt
  clear b3
  go_wp2_with fail
  go_ret
  exact ⟨rfl, B3.out⟩
theorem floatsMiddle_w (x : Nat) (w : World) (hx : x < 2 ^ 64) :
    Calls Tryd.prog 10 #[.float .f64 x] w (TruePost w) := by
  obtain ⟨s, n, hn, rfl⟩ := Rung.word_of (f := double) (x := x) (Nat.lt_of_lt_of_le hx (by decide))
  by_cases h : n < double.infRung
  · by_cases hs : s = false ∨ n = 0
    · by_cases ho : n = 9218868437227405311
      · exact middle_p_over s n hs w h ho
      · by_cases hv : n % 2 = 1
        · by_cases ht : 0 ≤ btE n
          · exact middle_p_odd_hi s n hs w h hv ho ht
          · exact middle_p_odd_lo s n hs w h hv ho (by omega)
        · by_cases ht : 0 ≤ btE n
          · exact middle_p_even_hi s n hs w h (by omega) ht
          · exact middle_p_even_lo s n hs w h (by omega) (by omega)
    · have h0 : n ≠ 0 := fun h => hs (.inr h)
      obtain rfl : s = true := by cases s; exact absurd (.inl rfl) hs; rfl
      obtain ⟨k, rfl⟩ : ∃ k, n = k + 1 := ⟨n - 1, by omega⟩
      by_cases hv : k % 2 = 1
      · exact middle_n_odd k w h hv
      · exact middle_n_even k w h (by omega)
  · exact middle_no s n (by omega) hn w
end Go.Proofs.YtncglbnnpdppjaaDoor.Num
