/- Chapters 13 and 14 (floats, shortest): contracts of the reference's half, Digits. No conditions beside those that each contract names. -/
import Derived.Test.YtabmalnandbocaaGreatDoorMB
import Derived.Test.YtabmalnandbocaaGreatDoorMT
import Derived.Deep.DeepCutAuto
import Derived.Deep.CutRange
import Derived.Test.YtabmalnandbocaaGreatDoorMS
namespace Go.Proofs.YtabmalnandbocaaGreatDoor.Dg
set_option exponentiation.threshold 3000
set_option linter.unusedVariables false
set_option linter.unusedSimpArgs false
set_option exponentiation.threshold 3000
open Go.RowKit Go.Proofs.YtabmalnandbocaaGreatDoor.Mem Go.Proofs.YtabmalnandbocaaGreatDoor.Own Go.Proofs.YtabmalnandbocaaGreatDoor.Big
def HalfPost (w : World) (z : Int) (e : Ending) (w' : World) : Prop := e = .returned (.int .i64 z) ∧ w = w'
theorem half_far (s : ByteArray) (w : World) (h0 : 0 < s.size) (h : s[0].toNat < 53 ∨ 53 < s[0].toNat) (hsm : s.size < 140737488355328) :
    Calls Tryz.prog 48 #[.string s] w (HalfPost w (if s[0].toNat < 53 then -1 else 1)) := by
  have g0 : (0 : Int) < (s.size : Int) := by omega
  rcases h with h | h
  · have t1 : decide ((s[0].toNat : Int) < 53) = true := by rw [decide_eq_true_iff]; omega
    rw [if_pos h]
    have hx := s[0].toNat_lt
    go_enter Tryz.func48, Tryz.ntmps48
    go_wp2_with fail
    go_ret
    exact ⟨rfl, rfl⟩
  · have t1 : decide ((s[0].toNat : Int) < 53) = false := by rw [decide_eq_false_iff_not]; omega
    have t2 : decide (53 < (s[0].toNat : Int)) = true := by rw [decide_eq_true_iff]; omega
    rw [if_neg (by omega)]
    go_enter Tryz.func48, Tryz.ntmps48
    go_wp2_with fail
    go_ret
    exact ⟨rfl, rfl⟩
theorem half_mid (s : ByteArray) (w : World) (h0 : 0 < s.size) (h : s[0].toNat = 53) (hsm : s.size < 140737488355328) :
    Calls Tryz.prog 48 #[.string s] w fun e w' => ∃ z : Int, e = .returned (.int .i64 z) ∧ w = w' ∧ (z = 0 ∧ (∀ k, 1 ≤ k → ∀ h : k < s.size, s[k].toNat = 48) ∨ z = 1 ∧ ∃ k, 1 ≤ k ∧ ∃ h : k < s.size, s[k].toNat ≠ 48) := by
  have g0 : (0 : Int) < (s.size : Int) := by omega
  have t1 : decide ((s[0].toNat : Int) < 53) = false := by rw [decide_eq_false_iff_not]; omega
  have t2 : s[0].toNat ≤ 53 := by omega
  have H0 := Lib.hid h0
  clear h
  go_enter Tryz.func48, Tryz.ntmps48
  go_wp2_with fail
  go_loop [3] (fun i => ∃ j : Nat, 1 ≤ j ∧ j ≤ s.size ∧ i = .int .i64 (j : Nat) ∧ Hid (∀ k, 1 ≤ k → k < j → ∀ h : k < s.size, s[k].toNat = 48)) (fun i => s.size - (intOf i).toNat)
  case atStart => exact ⟨1, Nat.le_refl _, H0.out, rfl, Lib.hid (fun k h h' => by omega)⟩
  case round =>
    obtain ⟨j, hj1, hj, rfl, hd⟩ := hrel
    by_cases hjs : j < s.size
    · by_cases hz : s[j].toNat = 48
      · have HD := Lib.hid (show ∀ k, 1 ≤ k → k < j + 1 → ∀ h : k < s.size, s[k].toNat = 48 from fun k h1 hk h => by
          rcases Nat.lt_or_ge k j with h2 | h2
          · exact hd.out k h1 h2 h
          · obtain rfl : k = j := by omega
            exact hz)
        have t3 : ((s[j].toNat : Int) != 48) = false := by rw [bne_eq_false_iff_eq]; omega
        clear hd hz
        go_wp2_with fail
        go_round
        case rel => exact ⟨j + 1, by omega, by omega, by go_num, HD⟩
        case measure => simp [intOf]; omega
      · have HZ := Lib.hid hz
        have t3 : ((s[j].toNat : Int) != 48) = true := by rw [bne_iff_ne]; omega
        clear hd hz
        go_wp2_with fail
        go_ret
        exact ⟨1, rfl, rfl, .inr ⟨rfl, j, hj1, hjs, HZ.out⟩⟩
    · obtain rfl : j = s.size := by omega
      go_wp2_with fail
      go_ret
      exact ⟨0, rfl, rfl, .inl ⟨rfl, fun k h1 h => hd.out k h1 h h⟩⟩
def BoolPost (w : World) (b : Bool) (e : Ending) (w' : World) : Prop := e = .returned (.bool b) ∧ w = w'
theorem digit_yes (s : ByteArray) (k : Nat) (w : World) (hk : k < s.size) (h1 : 48 ≤ s[k].toNat) (h2 : s[k].toNat ≤ 57) :
    Calls Tryz.prog 132 #[.string s, .int .i64 (k : Nat)] w fun e w' => e = .returned (.bool true) ∧ w = w' := by
  have g0 : (0 : Int) ≤ (k : Int) := by omega
  have g1 : (k : Int) < (s.size : Int) := by omega
  have t1 : decide ((48 : Int) ≤ (s[k].toNat : Int)) = true := decide_eq_true (by omega)
  have t2 : decide ((s[k].toNat : Int) ≤ 57) = true := decide_eq_true (by omega)
  go_enter Tryz.func132, Tryz.ntmps132
  go_wp2_with fail
  go_ret
  exact ⟨rfl, rfl⟩
theorem digit_no (s : ByteArray) (k : Nat) (w : World) (hk : k < s.size) (h : ¬ (48 ≤ s[k].toNat ∧ s[k].toNat ≤ 57)) :
    Calls Tryz.prog 132 #[.string s, .int .i64 (k : Nat)] w fun e w' => e = .returned (.bool false) ∧ w = w' := by
  have g0 : (0 : Int) ≤ (k : Int) := by omega
  have g1 : (k : Int) < (s.size : Int) := by omega
  by_cases h1 : 48 ≤ s[k].toNat
  · have t1 : decide ((48 : Int) ≤ (s[k].toNat : Int)) = true := decide_eq_true (by omega)
    have t2 : decide ((s[k].toNat : Int) ≤ 57) = false := decide_eq_false (by omega)
    clear h
    go_enter Tryz.func132, Tryz.ntmps132
    go_wp2_with fail
    go_ret
    exact ⟨rfl, rfl⟩
  · have t1 : decide ((48 : Int) ≤ (s[k].toNat : Int)) = false := decide_eq_false (by omega)
    clear h
    go_enter Tryz.func132, Tryz.ntmps132
    go_wp2_with fail
    go_ret
    exact ⟨rfl, rfl⟩
theorem digit_out (s : ByteArray) (k : Nat) (w : World) (hk : ¬ k < s.size) :
    Calls Tryz.prog 132 #[.string s, .int .i64 (k : Nat)] w fun e w' => e = .returned (.bool false) ∧ w = w' := by
  have t1 : decide ((k : Int) < (s.size : Int)) = false := by rw [decide_eq_false_iff_not]; omega
  have t2 : (s.size : Int) ≤ (k : Int) := by omega
  go_enter Tryz.func132, Tryz.ntmps132
  go_wp2_with fail
  go_ret
  exact ⟨rfl, rfl⟩
end Go.Proofs.YtabmalnandbocaaGreatDoor.Dg
namespace Go.Proofs.YtabmalnandbocaaGreatDoor.Num
set_option exponentiation.threshold 3000
set_option linter.unusedVariables false
set_option linter.unusedSimpArgs false
set_option exponentiation.threshold 3000
open Go.RowKit Go.Proofs.YtabmalnandbocaaGreatDoor.Mem Go.Proofs.YtabmalnandbocaaGreatDoor.Own Go.Proofs.YtabmalnandbocaaGreatDoor.Big Go.Proofs.YtabmalnandbocaaGreatDoor.Str Go.Proofs.YtabmalnandbocaaGreatDoor.Dg
open Ieee (double single)
/-- The reference's test is the program's. -/
theorem cmR_ok {k n : Nat} (hk : k < double.infRung) (h0 : 0 < k) (u : Bool) :
    cmR (dcmp false (btL (k - 1)) (btE (k - 1)) false (cL (exL k) n u) (cE (exL k) (exE k) n u)) (dcmp false (cL (exL k) n u) (cE (exL k) (exE k) n u) false (btL k) (btE k)) (decide (k % 2 = 0)) = okF k n u := by
  unfold okF cmR
  rw [← Bool.decide_and, ← Bool.decide_and, ← Bool.decide_or, ← Bool.decide_or, ← Bool.decide_and]
  congr 1
  exact propext (comes_iff (told_canon _) hk h0).symm
/-- What is left out against a half. -/
def hfI (l : List UInt8) (n : Nat) : Int := cmpI (2 * dval (l.drop n)) (10 ^ (l.length - n))
theorem nr_hf {l : List UInt8} (n : Nat) : nrF l n = (decide (hfI l n = 1) || (decide (hfI l n = 0) && decide (dval (l.take n) % 2 = 1))) := by
  unfold nrF hfI
  rcases Nat.lt_trichotomy (2 * dval (l.drop n)) (10 ^ (l.length - n)) with h | h | h
  · rw [cmpI_l h, decide_eq_false (show ¬ 10 ^ (l.length - n) < 2 * dval (l.drop n) by omega), decide_eq_false (show ¬ 2 * dval (l.drop n) = 10 ^ (l.length - n) by omega)]; rfl
  · rw [cmpI_e h, decide_eq_false (show ¬ 10 ^ (l.length - n) < 2 * dval (l.drop n) by omega), decide_eq_true h]; rfl
  · rw [cmpI_g h, decide_eq_true h]; rfl
def HfPost (w : World) (l : List UInt8) (n : Nat) (e : Ending) (w' : World) : Prop := e = .returned (.int .i64 (hfI l n)) ∧ w = w'
theorem half_w {l : List UInt8} (h : Canon l) {n : Nat} (h2 : n < l.length) (P : ByteArray) (hP : P.data.toList = l.drop n) (hsm : P.size < 140737488355328) (w : World) :
    Calls Tryz.prog 48 #[.string P] w (HfPost w l n) := by
  obtain ⟨d, t, hd, ht⟩ := drop_cons h2
  have hz := half_is h h2 hd
  have hlen : P.data.toList.length = P.size := by simp
  have h0 : 0 < P.size := by rw [← hlen, hP, hd]; simp
  have e0 : P[0] = d := by
    have : P.data.toList[0]'(by rw [hlen]; exact h0) = d := by
      have e : P.data.toList[0]? = some d := by rw [hP, hd]; rfl
      rw [List.getElem?_eq_getElem (by rw [hlen]; exact h0)] at e
      exact Option.some.inj e
    exact this
  have hs : P.size = t.length + 1 := by rw [← hlen, hP, hd]; simp
  by_cases h53 : d.toNat = 53
  · refine (half_mid P w h0 (by rw [e0]; exact h53) hsm).mono fun en w' hh => ?_
    obtain ⟨z, rfl, hw, hc⟩ := hh
    refine ⟨?_, hw⟩
    unfold hfI
    rw [hz, if_neg (by omega), if_neg (by omega)]
    have hat : ∀ k (hk : k < P.size) (h1 : 1 ≤ k), P[k] = t[k - 1]'(by omega) := by
      intro k hk h1
      have e : P.data.toList[k]? = t[k - 1]? := by
        rw [hP, hd]
        obtain ⟨j, rfl⟩ : ∃ j, k = j + 1 := ⟨k - 1, by omega⟩
        rfl
      rw [List.getElem?_eq_getElem (by rw [hlen]; exact hk), List.getElem?_eq_getElem (by omega)] at e
      exact Option.some.inj e
    rcases hc with ⟨rfl, hall⟩ | ⟨rfl, k, hk1, hk2, hk3⟩
    · have : t = [] := by
        apply Classical.byContradiction
        intro hne
        obtain ⟨m, c, rfl⟩ := snoc_of hne
        have hl := h.last c (by
          have e : l.getLast? = (l.drop n).getLast? := by rw [List.getLast?_drop, if_neg (by omega)]
          rw [e, hd, show d :: (m ++ [c]) = (d :: m) ++ [c] from rfl, List.getLast?_append]; rfl)
        have := hall (m.length + 1) (by omega) (by rw [hs, List.length_append]; exact Nat.lt_succ_self _)
        rw [hat (m.length + 1) (by rw [hs, List.length_append]; exact Nat.lt_succ_self _) (by omega)] at this
        have e2 : (m ++ [c])[m.length + 1 - 1]'(by simp) = c := by simp
        rw [e2] at this
        exact hl this
      rw [if_pos this]
    · have : t ≠ [] := by
        rintro rfl
        simp at hs; omega
      rw [if_neg this]
  · refine (half_far P w h0 (by rw [e0]; omega) hsm).mono fun en w' hh => ?_
    obtain ⟨rfl, hw⟩ := hh
    refine ⟨?_, hw⟩
    unfold hfI
    rw [hz, e0]
    by_cases hlt : d.toNat < 53
    · rw [if_pos hlt, if_pos hlt]
    · rw [if_neg hlt, if_neg hlt, if_pos (by omega)]
def MpPost (w : World) (s : Bool) (l : List UInt8) (e : Int) (en : Ending) (w' : World) : Prop := en = .returned (.tuple #[decV s l e, .bool true]) ∧ Below w.heap.size w w'
def PqPost (w : World) (l : List UInt8) (en : Ending) (w' : World) : Prop := ∃ L : List UInt8, en = .returned (.string ⟨L.toArray⟩) ∧ Hid (isDigs L ∧ dval L = dval l + 1 ∧ L.length ≤ l.length + 1) ∧ Below w.heap.size w w'
theorem make_cand {k n : Nat} (s : Bool) (hk : k < double.infRung) (h1 : 1 ≤ n) (h2 : n < (exL k).length) (u : Bool) (P : ByteArray) (hd : isDigs P.data.toList) (hv : dval P.data.toList = cN (exL k) n u) (hsm : P.size < 140737488355328) (E : Int) (hE : E = exE k + (((exL k).length - n : Nat) : Int)) (w : World) :
    Calls Tryz.prog 45 #[.bool s, .string P, .int .i64 E] w (MpPost w s (cL (exL k) n u) (cE (exL k) (exE k) n u)) := by
  obtain ⟨b1, b2, b3⟩ := ex_bounds hk
  have hc : Canon (exL k) := told_canon _
  have h0 := cN_pos hc h1 (by omega) u
  refine (make_w s P E w hd hsm (by omega) (by omega)).mono fun en w' hh => ?_
  obtain ⟨rfl, hb⟩ := hh
  refine ⟨?_, hb⟩
  obtain ⟨hf, -⟩ := cand_form hk h1 h2 u
  have hfc := hf.canon
  rw [hv]
  have he : te (cN (exL k) n u) E = cE (exL k) (exE k) n u := by rw [hE]; rfl
  rw [made_ok s h0 E (by rw [he]; omega), he]
  rfl
theorem exit_then_ret {P : Act → World → Prop} {Q : Exit → Act → World → Prop} {a : Act} {w : World} (h : Q Exit.ret a w) : Exit.then P Q Exit.ret a w := h
theorem nr_even {l : List UInt8} {n : Nat} (z : Int) (h : nrF l n = (decide (z = 1) || (decide (z = 0) && decide (dval (l.take n) % 2 = 1)))) : (z = -1 → nrF l n = false) ∧ (z = 1 → nrF l n = true) ∧ (z = 0 → nrF l n = decide (dval (l.take n) % 2 = 1)) := by
  refine ⟨fun e => ?_, fun e => ?_, fun e => ?_⟩ <;> subst e <;> rw [h] <;> simp
set_option maxHeartbeats 16000000 in
set_option maxRecDepth 100000 in
theorem rdigits_pos (s : Bool) (k : Nat) (w : World) (hk : k < double.infRung) (h0 : 0 < k) :
    Calls Tryz.prog 21 #[.float .f64 (double.word s k)] w (DgPost w s k) := by
  have HEX := Lib.hid (fun W => rexw_w s k W hk)
  have HAB := Lib.hid (fun W => about_w s k W hk h0)
  have hc : Canon (exL k) := told_canon _
  obtain ⟨b1, b2, b3⟩ := ex_bounds hk
  have hne : exL k ≠ [] := fun e => by have := ex_nil.1 e; omega
  have HP0 := Lib.hid (show pickR (okF k) (nrF (exL k)) ((exL k).length - 1) 1 = digF k from pickR_is _ _ _ _)
  have HMK := Lib.hid (fun n (h1 : 1 ≤ n) (h2 : n < (exL k).length) u P hd hv hsm E hE W => make_cand s hk h1 h2 u P hd hv hsm E hE W)
  have hkm : k - 1 < double.infRung := by omega
  have HCM : Hid (∀ (n : Nat) (u : Bool) (W : World) (h1 : 1 ≤ n) (h2 : n < (exL k).length), Calls Tryz.prog 47 #[decV s (cL (exL k) n u) (cE (exL k) (exE k) n u), decV false (btL (k - 1)) (btE (k - 1)), decV false (btL k) (btE k), .bool (decide (k % 2 = 0))] W (NrPost W (okF k n u))) := Lib.hid (fun n u W h1 h2 => by
    have hf := cand_form hk h1 h2 u
    have h0' := cN_pos hc h1 (by omega) u
    have := rcomes_w s (cL (exL k) n u) (btL (k - 1)) (btL k) (cE (exL k) (exE k) n u) (btE (k - 1)) (btE k) (decide (k % 2 = 0)) W hf.1 (bt_form hkm) (bt_form hk) ((told_tl _).ne h0') bt_ne bt_ne hf.2 (bt_len hkm) (bt_len hk)
    rw [cmR_ok hk h0 u] at this
    exact this)
  obtain ⟨l, hl⟩ : ∃ l, l = exL k := ⟨_, rfl⟩
  obtain ⟨ex, hx⟩ : ∃ ex, ex = exE k := ⟨_, rfl⟩
  obtain ⟨ok, hok⟩ : ∃ ok, ok = okF k := ⟨_, rfl⟩
  obtain ⟨x, hxx⟩ : ∃ x, x = double.word s k := ⟨_, rfl⟩
  obtain ⟨ev, hev⟩ : ∃ ev, ev = decide (k % 2 = 0) := ⟨_, rfl⟩
  rw [← hl, ← hx, ← hok, ← hev] at HCM
  rw [← hl, ← hx] at HMK HEX
  rw [← hl, ← hok] at HP0
  rw [← hl] at hc b1 hne
  rw [← hx] at b2 b3
  rw [← hxx] at HEX HAB ⊢
  rw [← hev] at HAB
  generalize btL (k - 1) = l1 at HAB HCM
  generalize btE (k - 1) = e1 at HAB HCM
  generalize btL k = l2 at HAB HCM
  generalize btE k = e2 at HAB HCM
  have HL := Lib.hid hl
  have HX0 := Lib.hid hx
  obtain ⟨sl, hsl⟩ : ∃ sl : ByteArray, sl = ⟨l.toArray⟩ := ⟨_, rfl⟩
  have hsd : sl.data.toList = l := by rw [hsl]
  have hsz : sl.size = l.length := by rw [hsl]; simp [ByteArray.size]
  have HE : Hid (∀ W, Calls Tryz.prog 43 #[.float .f64 x] W (fun en w' => en = .returned (.tuple #[.agg #[.bool s, .string sl, .int .i64 ex], .int .i64 0]) ∧ Below W.heap.size W w')) := Lib.hid (fun W => by rw [hsl]; exact HEX.out W)
  have HSL := Lib.hid hsl
  have HSD := Lib.hid hsd
  have HSZ := Lib.hid hsz
  have hb1 : sl.size ≤ 3000 := by omega
  have hemp : sl.toList.isEmpty = false := str_ne0 (by rw [hsd]; exact hne)
  have HCAN := Lib.hid hc
  have HLP := Lib.hid (show 1 ≤ l.length by have : l.length ≠ 0 := fun e => hne (List.eq_nil_of_length_eq_zero e); omega)
  clear hl hx hok hxx hev hsl hsd hsz hc hne HEX b1 h0 hk hkm
  go_enter Tryz.func21, Tryz.ntmps21
  go_wp2_with fail
  refine (HE.out _).mono ?_
  rintro en w1 ⟨rfl, b1⟩
  have hx := (Blk.new w 32 #[.bool false, .string ⟨#[]⟩, .int .i64 0])
  have HR1 := Lib.hid (hx.below b1 hx.lt)
  clear hx
  have B1 := Lib.hid (bthen ((Below.refl _ w).alloc (Nat.le_refl _) (.cells #[.bool false, .string ⟨#[]⟩, .int .i64 0] 32)) b1)
  have R_0 : w1.cell? ⟨w.heap.size, 0, none⟩ = some (.bool false) := HR1.out.cell 0
  have R_1 : w1.cell? ⟨w.heap.size, 1, none⟩ = some (.string ⟨#[]⟩) := HR1.out.cell 1
  have R_2 : w1.cell? ⟨w.heap.size, 2, none⟩ = some (.int .i64 0) := HR1.out.cell 2
  have R_z : w.heap.size < w1.heap.size := HR1.out.lt
  clear b1
  go_wp2_with fail
  refine (HAB.out _).mono ?_
  rintro en w2 ⟨rfl, b2⟩
  have hx := (HR1.out.alloc (.cells #[.bool s, .string sl, .int .i64 ex] 32))
  have HR2 := Lib.hid (hx.below b2 hx.lt)
  clear hx
  have hx := (Blk.new w1 32 #[.bool s, .string sl, .int .i64 ex])
  have HX2 := Lib.hid (hx.below b2 hx.lt)
  clear hx
  have B2 := Lib.hid (bthen (B1.out.alloc B1.out.size (.cells #[.bool s, .string sl, .int .i64 ex] 32)) b2)
  clear R_0 R_1 R_2 R_z
  have R_0 : w2.cell? ⟨w.heap.size, 0, none⟩ = some (.bool false) := HR2.out.cell 0
  have R_1 : w2.cell? ⟨w.heap.size, 1, none⟩ = some (.string ⟨#[]⟩) := HR2.out.cell 1
  have R_2 : w2.cell? ⟨w.heap.size, 2, none⟩ = some (.int .i64 0) := HR2.out.cell 2
  have R_z : w.heap.size < w2.heap.size := HR2.out.lt
  have X_0 : w2.cell? ⟨w1.heap.size, 0, none⟩ = some (.bool s) := HX2.out.cell 0
  have X_1 : w2.cell? ⟨w1.heap.size, 1, none⟩ = some (.string sl) := HX2.out.cell 1
  have X_2 : w2.cell? ⟨w1.heap.size, 2, none⟩ = some (.int .i64 ex) := HX2.out.cell 2
  have X_z : w1.heap.size < w2.heap.size := HX2.out.lt
  clear b2
  go_wp2_with fail
  have hX9 := (HX2.out.alloc (.cells #[.bool false, .string ⟨l1.toArray⟩, .int .i64 e1] 32)).alloc (.cells #[.bool false, .string ⟨l2.toArray⟩, .int .i64 e2] 32)
  have hR9 := (HR2.out.alloc (.cells #[.bool false, .string ⟨l1.toArray⟩, .int .i64 e1] 32)).alloc (.cells #[.bool false, .string ⟨l2.toArray⟩, .int .i64 e2] 32)
  have hA9 := (Blk.new w2 32 #[.bool false, .string ⟨l1.toArray⟩, .int .i64 e1]).alloc (.cells #[.bool false, .string ⟨l2.toArray⟩, .int .i64 e2] 32)
  have hB9 := Blk.new (w2.alloc (.cells #[.bool false, .string ⟨l1.toArray⟩, .int .i64 e1] 32)) 32 #[.bool false, .string ⟨l2.toArray⟩, .int .i64 e2]
  simp at hB9
  have hU9 := (B2.out.alloc B2.out.size (.cells #[.bool false, .string ⟨l1.toArray⟩, .int .i64 e1] 32)).alloc (by have := B2.out.size; simp; omega) (.cells #[.bool false, .string ⟨l2.toArray⟩, .int .i64 e2] 32)
  have HX9 := Lib.hid hX9
  have HR9 := Lib.hid hR9
  have HA9 := Lib.hid hA9
  have HB9 := Lib.hid hB9
  have HU9 := Lib.hid hU9
  clear hX9 hR9 hA9 hB9 hU9 R_0 R_1 R_2 R_z X_0 X_1 X_2 X_z
  obtain ⟨W9, hW9⟩ : ∃ W9, W9 = (w2.alloc (.cells #[.bool false, .string ⟨l1.toArray⟩, .int .i64 e1] 32)).alloc (.cells #[.bool false, .string ⟨l2.toArray⟩, .int .i64 e2] 32) := ⟨_, rfl⟩
  rw [← hW9] at HX9 HR9 HA9 HB9 HU9
  rw [← hW9]
  clear hW9
  obtain ⟨gb, hgb⟩ : ∃ gb, gb = w2.heap.size + 1 := ⟨_, rfl⟩
  rw [← hgb] at HB9
  rw [← hgb]
  clear hgb
  generalize w2.heap.size = ga at *
  generalize w1.heap.size = gx at *
  go_loopw [10] (fun nv wx => ∃ n : Nat, 1 ≤ n ∧ Hid (n ≤ l.length) ∧ nv = .int .i64 (n : Nat) ∧ Hid (pickR ok (nrF l) (l.length - n) n = digF k) ∧ Hid (Blk wx gx 32 #[.bool s, .string sl, .int .i64 ex]) ∧ Hid (Blk wx ga 32 #[.bool false, .string ⟨l1.toArray⟩, .int .i64 e1]) ∧ Hid (Blk wx gb 32 #[.bool false, .string ⟨l2.toArray⟩, .int .i64 e2]) ∧ Hid (Blk wx w.heap.size 32 #[.bool false, .string ⟨#[]⟩, .int .i64 0]) ∧ Hid (Below w.heap.size w wx)) (fun nv _ => (l.length - (intOf nv).toNat))
  case atStart => exact ⟨1, Nat.le_refl _, HLP, rfl, HP0, HX9, HA9, HB9, HR9, HU9⟩
  case round =>
    clear HX9 HA9 HB9 HR9 HU9
    obtain ⟨n, hn1, hnl, rfl, HP, HX, HA, HB, HR, BR_⟩ := hrel
    have x0 := HX.out.cell 0
    have x1 := HX.out.cell 1
    have x2 := HX.out.cell 2
    simp at x0 x1 x2
    by_cases hgo : n < sl.size
    · have hn2 : n < l.length := by rw [HSZ.out] at hgo; exact hgo
      have HN2 := Lib.hid hn2
      have t1 : decide ((n : Int) < (sl.size : Int)) = true := decide_eq_true (by omega)
      obtain ⟨P, hP, hPl, hPs⟩ := sl_to sl (n : Int) n rfl (by omega)
      obtain ⟨Q, hQ, hQl, hQs⟩ := sl_from sl (n : Int) n rfl (by omega)
      rw [HSD.out] at hPl hQl
      have hE : ex + (sl.size : Int) - (n : Int) = ex + ((l.length - n : Nat) : Int) := by rw [HSZ.out]; omega
      have hdt : isDigs P.data.toList := fun c hc => HCAN.out.digs c (by rw [hPl] at hc; exact List.mem_of_mem_take hc)
      have HML := Lib.hid (fun W => HMK.out n hn1 hn2 false P hdt (by rw [hPl]; rfl) (by omega) (ex + (sl.size : Int) - (n : Int)) hE W)
      have HPL : Hid (∀ W, Calls Tryz.prog 46 #[.string P] W (PqPost W (l.take n))) := Lib.hid (fun W => (rplus_w P W hdt (by omega)).mono fun en w' hh => by
        obtain ⟨L, rfl, q1, q2, q3, -, q4⟩ := hh
        rw [hPl] at q2 q3
        exact ⟨L, rfl, Lib.hid ⟨q1, q2, q3⟩, q4⟩)
      have HMH : Hid (∀ (L : List UInt8) (W : World), Hid (isDigs L ∧ dval L = dval (l.take n) + 1 ∧ L.length ≤ (l.take n).length + 1) → Calls Tryz.prog 45 #[.bool s, .string ⟨L.toArray⟩, .int .i64 (ex + (sl.size : Int) - (n : Int))] W (MpPost W s (cL l n true) (cE l ex n true))) := Lib.hid (fun L W hh => HMK.out n hn1 hn2 true ⟨L.toArray⟩ hh.out.1 hh.out.2.1 (by have := hh.out.2.2; rw [List.length_take] at this; simp [ByteArray.size]; omega) (ex + (sl.size : Int) - (n : Int)) hE W)
      have HCL := Lib.hid (fun u W => HCM.out n u W hn1 hn2)
      have HHF := Lib.hid (fun W => half_w HCAN.out hn2 Q hQl (by omega) W)
      have HPS := Lib.hid hPs
      have HQS := Lib.hid hQs
      clear hPl hQl hE hdt hPs hQs hn2
      go_upto_region 12 with fail
      go_cut [12] from 38 to 110 (fun s12 wx => ∃ gl : Nat, s12 = .pointer (some ⟨gl, 0, none⟩) ∧ Hid (Blk wx gx 32 #[.bool s, .string sl, .int .i64 ex]) ∧ Hid (Blk wx ga 32 #[.bool false, .string ⟨l1.toArray⟩, .int .i64 e1]) ∧ Hid (Blk wx gb 32 #[.bool false, .string ⟨l2.toArray⟩, .int .i64 e2]) ∧ Hid (Blk wx w.heap.size 32 #[.bool false, .string ⟨#[]⟩, .int .i64 0]) ∧ Hid (Blk wx gl 32 #[.bool s, .string ⟨(cL l n false).toArray⟩, .int .i64 (cE l ex n false)]) ∧ Hid (Below w.heap.size w wx))
      case first =>
        refine wp_region_held_drew (S := (fun w' => w'.cell? ⟨gx, 0, none⟩ = some (.bool s))) (by kernel_rfl) ?_ (fun hHeld => ?_)
        · exact HX.out.cell 0
        refine wpAnyH_take (i := 0) (oi := _) (v := ?_) rfl (by kernel_rfl) (by kernel_rfl) (by kernel_rfl) (fun _ _ _ h => h) (Or.inl ⟨by rfl, ?_⟩) (by assumption) ?_
        rotate_left 1
        · (intro w hSw; (try dsimp only at hSw); (go_simp <;> with_reducible rfl))
        (try simp only [Act.put, List.getElem_toArray, List.getElem_cons_zero, List.getElem_cons_succ, List.setIfInBounds_toArray, List.set_cons_zero, List.set_cons_succ])
        refine wpAnyH_take (i := 1) (oi := _) (v := ?_) rfl (by kernel_rfl) (by kernel_rfl) (by kernel_rfl) (fun _ _ _ h => h) (Or.inl ⟨by rfl, ?_⟩) (by assumption) ?_
        rotate_left 1
        · (intro w hSw; (try dsimp only at hSw); (go_simp <;> with_reducible rfl))
        (try simp only [Act.put, List.getElem_toArray, List.getElem_cons_zero, List.getElem_cons_succ, List.setIfInBounds_toArray, List.set_cons_zero, List.set_cons_succ])
        refine wpAnyH_take (i := 2) (oi := _) (v := ?_) rfl (by kernel_rfl) (by kernel_rfl) (by kernel_rfl) (fun _ _ _ h => h) (Or.inl ⟨by rfl, ?_⟩) (by assumption) ?_
        rotate_left 1
        · (intro w hSw; (try dsimp only at hSw); (go_simp <;> with_reducible rfl))
        (try simp only [Act.put, List.getElem_toArray, List.getElem_cons_zero, List.getElem_cons_succ, List.setIfInBounds_toArray, List.set_cons_zero, List.set_cons_succ])
        refine wpAnyH_take (i := 3) (oi := _) (v := ?_) rfl (by kernel_rfl) (by kernel_rfl) (by kernel_rfl) (fun _ _ _ h => h) (Or.inl ⟨by rfl, ?_⟩) (by assumption) ?_
        rotate_left 1
        · (intro w hSw; (try dsimp only at hSw); (go_simp <;> with_reducible rfl))
        (try simp only [Act.put, List.getElem_toArray, List.getElem_cons_zero, List.getElem_cons_succ, List.setIfInBounds_toArray, List.set_cons_zero, List.set_cons_succ])
        refine wpAnyH_take (i := 4) (oi := _) (v := ?_) rfl (by kernel_rfl) (by kernel_rfl) (by kernel_rfl) (fun _ _ _ h => h) (Or.inl ⟨by rfl, ?_⟩) (by assumption) ?_
        rotate_left 1
        · (intro w hSw; (try dsimp only at hSw); (go_simp <;> with_reducible rfl))
        (try simp only [Act.put, List.getElem_toArray, List.getElem_cons_zero, List.getElem_cons_succ, List.setIfInBounds_toArray, List.set_cons_zero, List.set_cons_succ])
        refine wpAnyH_take (i := 5) (oi := _) (v := ?_) rfl (by kernel_rfl) (by kernel_rfl) (by kernel_rfl) (fun _ _ _ h => h) (Or.inl ⟨by rfl, ?_⟩) (by assumption) ?_
        rotate_left 1
        · (intro w hSw; (try dsimp only at hSw); (go_simp <;> with_reducible rfl))
        (try simp only [Act.put, List.getElem_toArray, List.getElem_cons_zero, List.getElem_cons_succ, List.setIfInBounds_toArray, List.set_cons_zero, List.set_cons_succ])
        refine wpAnyH_ready (rs := [6, 10]) (by kernel_rfl) (by simp) ?_
        refine AllReadyH.cons (o := _) rfl (fun K hK => ?_) ?_
        · go_simp
          refine (HML.out _).mono ?_
          rintro en v1 ⟨rfl, b1⟩
          have X1 := Lib.hid ((HX.out.drew).below b1 HX.out.lt)
          have A1 := Lib.hid ((HA.out.drew).below b1 HA.out.lt)
          have B1 := Lib.hid ((HB.out.drew).below b1 HB.out.lt)
          have R1 := Lib.hid ((HR.out.drew).below b1 HR.out.lt)
          have U1 := Lib.hid (bthen (BR_.out.drew) b1)
          clear b1
          go_simp
          refine hK.out _ _ ?_ (fun hHeld => ?_)
          · exact X1.out.cell 0
          clear hK K
          (try simp only [Act.put, List.getElem_toArray, List.getElem_cons_zero, List.getElem_cons_succ, List.setIfInBounds_toArray, List.set_cons_zero, List.set_cons_succ])
          refine wpAnyH_take (i := 7) (oi := _) (v := ?_) rfl (by kernel_rfl) (by kernel_rfl) (by kernel_rfl) (fun _ _ _ h => h) (Or.inl ⟨by rfl, ?_⟩) (by assumption) ?_
          rotate_left 1
          · (intro w hSw; (try dsimp only at hSw); (go_simp <;> with_reducible rfl))
          (try simp only [Act.put, List.getElem_toArray, List.getElem_cons_zero, List.getElem_cons_succ, List.setIfInBounds_toArray, List.set_cons_zero, List.set_cons_succ])
          refine wpAnyH_take (i := 8) (oi := _) (v := ?_) rfl (by kernel_rfl) (by kernel_rfl) (by kernel_rfl) (fun _ _ _ h => h) (Or.inl ⟨by rfl, ?_⟩) (by assumption) ?_
          rotate_left 1
          · (intro w hSw; (try dsimp only at hSw); (go_simp <;> with_reducible rfl))
          (try simp only [Act.put, List.getElem_toArray, List.getElem_cons_zero, List.getElem_cons_succ, List.setIfInBounds_toArray, List.set_cons_zero, List.set_cons_succ])
          refine wpAnyH_take (i := 9) (oi := _) (v := ?_) rfl (by kernel_rfl) (by kernel_rfl) (by kernel_rfl) (fun _ _ _ h => h) (Or.inl ⟨by rfl, ?_⟩) (by assumption) ?_
          rotate_left 1
          · (intro w hSw; (try dsimp only at hSw); (go_simp <;> with_reducible rfl))
          (try simp only [Act.put, List.getElem_toArray, List.getElem_cons_zero, List.getElem_cons_succ, List.setIfInBounds_toArray, List.set_cons_zero, List.set_cons_succ])
          refine wpAnyH_ready (rs := [10]) (by kernel_rfl) (by simp) ?_
          refine AllReadyH.cons (o := _) rfl (fun K hK => ?_) ?_
          · go_simp
            have X2 := Lib.hid (X1.out.alloc (.cells #[.bool false, .string ⟨#[]⟩, .int .i64 0] 32))
            have A2 := Lib.hid (A1.out.alloc (.cells #[.bool false, .string ⟨#[]⟩, .int .i64 0] 32))
            have B2 := Lib.hid (B1.out.alloc (.cells #[.bool false, .string ⟨#[]⟩, .int .i64 0] 32))
            have R2 := Lib.hid (R1.out.alloc (.cells #[.bool false, .string ⟨#[]⟩, .int .i64 0] 32))
            have hn2 : Blk (v1.alloc (.cells #[.bool false, .string ⟨#[]⟩, .int .i64 0] 32)) v1.heap.size 32 #[.bool false, .string ⟨#[]⟩, .int .i64 0] := Blk.new v1 32 #[.bool false, .string ⟨#[]⟩, .int .i64 0]
            have L2 := Lib.hid hn2
            clear hn2
            have U2 := Lib.hid (U1.out.alloc U1.out.size (.cells #[.bool false, .string ⟨#[]⟩, .int .i64 0] 32))
            refine hK.out _ _ ?_ (fun hHeld => ?_)
            · exact X2.out.cell 0
            clear hK K
            (try simp only [Act.put, List.getElem_toArray, List.getElem_cons_zero, List.getElem_cons_succ, List.setIfInBounds_toArray, List.set_cons_zero, List.set_cons_succ])
            refine wpAnyH_ready (rs := [11]) (by kernel_rfl) (by simp) ?_
            refine AllReadyH.cons (o := _) rfl (fun K hK => ?_) ?_
            · skip
              have X3 := Lib.hid (X1.out.alloc (.cells #[.bool s, .string ⟨(cL l n false).toArray⟩, .int .i64 (cE l ex n false)] 32))
              have A3 := Lib.hid (A1.out.alloc (.cells #[.bool s, .string ⟨(cL l n false).toArray⟩, .int .i64 (cE l ex n false)] 32))
              have B3 := Lib.hid (B1.out.alloc (.cells #[.bool s, .string ⟨(cL l n false).toArray⟩, .int .i64 (cE l ex n false)] 32))
              have R3 := Lib.hid (R1.out.alloc (.cells #[.bool s, .string ⟨(cL l n false).toArray⟩, .int .i64 (cE l ex n false)] 32))
              have hn3 : Blk (v1.alloc (.cells #[.bool s, .string ⟨(cL l n false).toArray⟩, .int .i64 (cE l ex n false)] 32)) v1.heap.size 32 #[.bool s, .string ⟨(cL l n false).toArray⟩, .int .i64 (cE l ex n false)] := Blk.new v1 32 #[.bool s, .string ⟨(cL l n false).toArray⟩, .int .i64 (cE l ex n false)]
              have L3 := Lib.hid hn3
              clear hn3
              have U3 := Lib.hid (U1.out.alloc U1.out.size (.cells #[.bool s, .string ⟨(cL l n false).toArray⟩, .int .i64 (cE l ex n false)] 32))
              go_simp
              refine hK.out _ _ ?_ (fun hHeld => ?_)
              · exact X3.out.cell 0
              clear hK K
              (try simp only [Act.put, List.getElem_toArray, List.getElem_cons_zero, List.getElem_cons_succ, List.setIfInBounds_toArray, List.set_cons_zero, List.set_cons_succ])
              refine wpAnyH_take (i := 12) (oi := _) (v := ?_) rfl (by kernel_rfl) (by kernel_rfl) (by kernel_rfl) (fun _ _ _ h => h) (Or.inl ⟨by rfl, ?_⟩) (by assumption) ?_
              rotate_left 1
              · (intro w hSw; (try dsimp only at hSw); (go_simp <;> with_reducible rfl))
              (try simp only [Act.put, List.getElem_toArray, List.getElem_cons_zero, List.getElem_cons_succ, List.setIfInBounds_toArray, List.set_cons_zero, List.set_cons_succ])
              refine wpAnyH_done (by kernel_rfl) ?_ _
              go_wp2_with fail
              go_meet
              exact ⟨_, rfl, X3, A3, B3, R3, L3, U3⟩
            exact AllReadyH.nil
          exact AllReadyH.nil
        refine AllReadyH.cons (o := _) rfl (fun K hK => ?_) ?_
        · go_simp
          have X4 := Lib.hid ((HX.out.drew).alloc (.cells #[.bool false, .string ⟨#[]⟩, .int .i64 0] 32))
          have A4 := Lib.hid ((HA.out.drew).alloc (.cells #[.bool false, .string ⟨#[]⟩, .int .i64 0] 32))
          have B4 := Lib.hid ((HB.out.drew).alloc (.cells #[.bool false, .string ⟨#[]⟩, .int .i64 0] 32))
          have R4 := Lib.hid ((HR.out.drew).alloc (.cells #[.bool false, .string ⟨#[]⟩, .int .i64 0] 32))
          have hn4 : Blk (wr.drew.alloc (.cells #[.bool false, .string ⟨#[]⟩, .int .i64 0] 32)) wr.heap.size 32 #[.bool false, .string ⟨#[]⟩, .int .i64 0] := Blk.new wr.drew 32 #[.bool false, .string ⟨#[]⟩, .int .i64 0]
          have L4 := Lib.hid hn4
          clear hn4
          have U4 := Lib.hid ((BR_.out.drew).alloc BR_.out.size (.cells #[.bool false, .string ⟨#[]⟩, .int .i64 0] 32))
          refine hK.out _ _ ?_ (fun hHeld => ?_)
          · exact X4.out.cell 0
          clear hK K
          (try simp only [Act.put, List.getElem_toArray, List.getElem_cons_zero, List.getElem_cons_succ, List.setIfInBounds_toArray, List.set_cons_zero, List.set_cons_succ])
          refine wpAnyH_ready (rs := [6]) (by kernel_rfl) (by simp) ?_
          refine AllReadyH.cons (o := _) rfl (fun K hK => ?_) ?_
          · go_simp
            refine (HML.out _).mono ?_
            rintro en v5 ⟨rfl, b5⟩
            have X5 := Lib.hid (X4.out.below b5 X4.out.lt)
            have A5 := Lib.hid (A4.out.below b5 A4.out.lt)
            have B5 := Lib.hid (B4.out.below b5 B4.out.lt)
            have R5 := Lib.hid (R4.out.below b5 R4.out.lt)
            have L5 := Lib.hid (L4.out.below b5 L4.out.lt)
            have U5 := Lib.hid (bthen U4.out b5)
            clear b5
            go_simp
            refine hK.out _ _ ?_ (fun hHeld => ?_)
            · exact X5.out.cell 0
            clear hK K
            (try simp only [Act.put, List.getElem_toArray, List.getElem_cons_zero, List.getElem_cons_succ, List.setIfInBounds_toArray, List.set_cons_zero, List.set_cons_succ])
            refine wpAnyH_take (i := 7) (oi := _) (v := ?_) rfl (by kernel_rfl) (by kernel_rfl) (by kernel_rfl) (fun _ _ _ h => h) (Or.inl ⟨by rfl, ?_⟩) (by assumption) ?_
            rotate_left 1
            · (intro w hSw; (try dsimp only at hSw); (go_simp <;> with_reducible rfl))
            (try simp only [Act.put, List.getElem_toArray, List.getElem_cons_zero, List.getElem_cons_succ, List.setIfInBounds_toArray, List.set_cons_zero, List.set_cons_succ])
            refine wpAnyH_take (i := 8) (oi := _) (v := ?_) rfl (by kernel_rfl) (by kernel_rfl) (by kernel_rfl) (fun _ _ _ h => h) (Or.inl ⟨by rfl, ?_⟩) (by assumption) ?_
            rotate_left 1
            · (intro w hSw; (try dsimp only at hSw); (go_simp <;> with_reducible rfl))
            (try simp only [Act.put, List.getElem_toArray, List.getElem_cons_zero, List.getElem_cons_succ, List.setIfInBounds_toArray, List.set_cons_zero, List.set_cons_succ])
            refine wpAnyH_take (i := 9) (oi := _) (v := ?_) rfl (by kernel_rfl) (by kernel_rfl) (by kernel_rfl) (fun _ _ _ h => h) (Or.inl ⟨by rfl, ?_⟩) (by assumption) ?_
            rotate_left 1
            · (intro w hSw; (try dsimp only at hSw); (go_simp <;> with_reducible rfl))
            (try simp only [Act.put, List.getElem_toArray, List.getElem_cons_zero, List.getElem_cons_succ, List.setIfInBounds_toArray, List.set_cons_zero, List.set_cons_succ])
            refine wpAnyH_ready (rs := [11]) (by kernel_rfl) (by simp) ?_
            refine AllReadyH.cons (o := _) rfl (fun K hK => ?_) ?_
            · have y0 := L5.out.cell 0
              have y1 := L5.out.cell 1
              have y2 := L5.out.cell 2
              simp at y0 y1 y2
              have fy0 := L5.out.frozen 0
              have fy1 := L5.out.frozen 1
              have fy2 := L5.out.frozen 2
              have X6 := Lib.hid ((((X5.out.far (p := ⟨wr.heap.size, 0, none⟩) (Nat.ne_of_lt HX.out.lt) (.bool s)).far (p := ⟨wr.heap.size, 1, none⟩) (Nat.ne_of_lt HX.out.lt) (.string ⟨(cL l n false).toArray⟩)).far (p := ⟨wr.heap.size, 2, none⟩) (Nat.ne_of_lt HX.out.lt) (.int .i64 (cE l ex n false))))
              have A6 := Lib.hid ((((A5.out.far (p := ⟨wr.heap.size, 0, none⟩) (Nat.ne_of_lt HA.out.lt) (.bool s)).far (p := ⟨wr.heap.size, 1, none⟩) (Nat.ne_of_lt HA.out.lt) (.string ⟨(cL l n false).toArray⟩)).far (p := ⟨wr.heap.size, 2, none⟩) (Nat.ne_of_lt HA.out.lt) (.int .i64 (cE l ex n false))))
              have B6 := Lib.hid ((((B5.out.far (p := ⟨wr.heap.size, 0, none⟩) (Nat.ne_of_lt HB.out.lt) (.bool s)).far (p := ⟨wr.heap.size, 1, none⟩) (Nat.ne_of_lt HB.out.lt) (.string ⟨(cL l n false).toArray⟩)).far (p := ⟨wr.heap.size, 2, none⟩) (Nat.ne_of_lt HB.out.lt) (.int .i64 (cE l ex n false))))
              have R6 := Lib.hid ((((R5.out.far (p := ⟨wr.heap.size, 0, none⟩) (Nat.ne_of_lt HR.out.lt) (.bool s)).far (p := ⟨wr.heap.size, 1, none⟩) (Nat.ne_of_lt HR.out.lt) (.string ⟨(cL l n false).toArray⟩)).far (p := ⟨wr.heap.size, 2, none⟩) (Nat.ne_of_lt HR.out.lt) (.int .i64 (cE l ex n false))))
              have L6 := Lib.hid ((((L5.out.set_ 0 (.bool s)).set_ 1 (.string ⟨(cL l n false).toArray⟩)).set_ 2 (.int .i64 (cE l ex n false))))
              have U6 := Lib.hid ((((U5.out.setCell (p := ⟨wr.heap.size, 0, none⟩) (BR_.out.size) (.bool s)).setCell (p := ⟨wr.heap.size, 1, none⟩) (BR_.out.size) (.string ⟨(cL l n false).toArray⟩)).setCell (p := ⟨wr.heap.size, 2, none⟩) (BR_.out.size) (.int .i64 (cE l ex n false))))
              go_simp
              refine hK.out _ _ ?_ (fun hHeld => ?_)
              · exact X6.out.cell 0
              clear hK K y0 y1 y2 fy0 fy1 fy2
              (try simp only [Act.put, List.getElem_toArray, List.getElem_cons_zero, List.getElem_cons_succ, List.setIfInBounds_toArray, List.set_cons_zero, List.set_cons_succ])
              refine wpAnyH_take (i := 12) (oi := _) (v := ?_) rfl (by kernel_rfl) (by kernel_rfl) (by kernel_rfl) (fun _ _ _ h => h) (Or.inl ⟨by rfl, ?_⟩) (by assumption) ?_
              rotate_left 1
              · (intro w hSw; (try dsimp only at hSw); (go_simp <;> with_reducible rfl))
              (try simp only [Act.put, List.getElem_toArray, List.getElem_cons_zero, List.getElem_cons_succ, List.setIfInBounds_toArray, List.set_cons_zero, List.set_cons_succ])
              refine wpAnyH_done (by kernel_rfl) ?_ _
              go_wp2_with fail
              go_meet
              exact ⟨_, rfl, X6, A6, B6, R6, L6, U6⟩
            exact AllReadyH.nil
          exact AllReadyH.nil
        exact AllReadyH.nil
      case rest =>
        obtain ⟨gl, rfl, CX, CA, CB, CR, CL, CU⟩ := hcut
        clear HX HA HB HR BR_ x0 x1 x2 HML
        go_upto_region 13 with fail
        go_cut [14] from 38 to 110 (fun s14 wx => ∃ gh : Nat, s14 = .pointer (some ⟨gh, 0, none⟩) ∧ Hid (Blk wx gx 32 #[.bool s, .string sl, .int .i64 ex]) ∧ Hid (Blk wx ga 32 #[.bool false, .string ⟨l1.toArray⟩, .int .i64 e1]) ∧ Hid (Blk wx gb 32 #[.bool false, .string ⟨l2.toArray⟩, .int .i64 e2]) ∧ Hid (Blk wx w.heap.size 32 #[.bool false, .string ⟨#[]⟩, .int .i64 0]) ∧ Hid (Blk wx gl 32 #[.bool s, .string ⟨(cL l n false).toArray⟩, .int .i64 (cE l ex n false)]) ∧ Hid (Blk wx gh 32 #[.bool s, .string ⟨(cL l n true).toArray⟩, .int .i64 (cE l ex n true)]) ∧ Hid (Below w.heap.size w wx))
        case first =>
          refine wp_region_held_drew (S := (fun w' => w'.cell? ⟨gx, 0, none⟩ = some (.bool s))) (by kernel_rfl) ?_ (fun hHeld => ?_)
          · exact CX.out.cell 0
          refine wpAnyH_take (i := 0) (oi := _) (v := ?_) rfl (by kernel_rfl) (by kernel_rfl) (by kernel_rfl) (fun _ _ _ h => h) (Or.inl ⟨by rfl, ?_⟩) (by assumption) ?_
          rotate_left 1
          · (intro w hSw; (try dsimp only at hSw); (go_simp <;> with_reducible rfl))
          (try simp only [Act.put, List.getElem_toArray, List.getElem_cons_zero, List.getElem_cons_succ, List.setIfInBounds_toArray, List.set_cons_zero, List.set_cons_succ])
          refine wpAnyH_take (i := 1) (oi := _) (v := ?_) rfl (by kernel_rfl) (by kernel_rfl) (by kernel_rfl) (fun _ _ _ h => h) (Or.inl ⟨by rfl, ?_⟩) (by assumption) ?_
          rotate_left 1
          · (intro w hSw; (try dsimp only at hSw); (go_simp <;> with_reducible rfl))
          (try simp only [Act.put, List.getElem_toArray, List.getElem_cons_zero, List.getElem_cons_succ, List.setIfInBounds_toArray, List.set_cons_zero, List.set_cons_succ])
          refine wpAnyH_take (i := 2) (oi := _) (v := ?_) rfl (by kernel_rfl) (by kernel_rfl) (by kernel_rfl) (fun _ _ _ h => h) (Or.inl ⟨by rfl, ?_⟩) (by assumption) ?_
          rotate_left 1
          · (intro w hSw; (try dsimp only at hSw); (go_simp <;> with_reducible rfl))
          (try simp only [Act.put, List.getElem_toArray, List.getElem_cons_zero, List.getElem_cons_succ, List.setIfInBounds_toArray, List.set_cons_zero, List.set_cons_succ])
          refine wpAnyH_take (i := 3) (oi := _) (v := ?_) rfl (by kernel_rfl) (by kernel_rfl) (by kernel_rfl) (fun _ _ _ h => h) (Or.inl ⟨by rfl, ?_⟩) (by assumption) ?_
          rotate_left 1
          · (intro w hSw; (try dsimp only at hSw); (go_simp <;> with_reducible rfl))
          (try simp only [Act.put, List.getElem_toArray, List.getElem_cons_zero, List.getElem_cons_succ, List.setIfInBounds_toArray, List.set_cons_zero, List.set_cons_succ])
          refine wpAnyH_take (i := 4) (oi := _) (v := ?_) rfl (by kernel_rfl) (by kernel_rfl) (by kernel_rfl) (fun _ _ _ h => h) (Or.inl ⟨by rfl, ?_⟩) (by assumption) ?_
          rotate_left 1
          · (intro w hSw; (try dsimp only at hSw); (go_simp <;> with_reducible rfl))
          (try simp only [Act.put, List.getElem_toArray, List.getElem_cons_zero, List.getElem_cons_succ, List.setIfInBounds_toArray, List.set_cons_zero, List.set_cons_succ])
          refine wpAnyH_take (i := 6) (oi := _) (v := ?_) rfl (by kernel_rfl) (by kernel_rfl) (by kernel_rfl) (fun _ _ _ h => h) (Or.inl ⟨by rfl, ?_⟩) (by assumption) ?_
          rotate_left 1
          · (intro w hSw; (try dsimp only at hSw); (go_simp <;> with_reducible rfl))
          (try simp only [Act.put, List.getElem_toArray, List.getElem_cons_zero, List.getElem_cons_succ, List.setIfInBounds_toArray, List.set_cons_zero, List.set_cons_succ])
          refine wpAnyH_ready (rs := [5, 11]) (by kernel_rfl) (by simp) ?_
          refine AllReadyH.cons (o := _) rfl (fun K hK => ?_) ?_
          · go_simp
            refine (HPL.out _).mono ?_
            rintro en v7 ⟨PL, rfl, HQ, b7⟩
            have X7 := Lib.hid ((CX.out.drew).below b7 CX.out.lt)
            have A7 := Lib.hid ((CA.out.drew).below b7 CA.out.lt)
            have B7 := Lib.hid ((CB.out.drew).below b7 CB.out.lt)
            have R7 := Lib.hid ((CR.out.drew).below b7 CR.out.lt)
            have L7 := Lib.hid ((CL.out.drew).below b7 CL.out.lt)
            have U7 := Lib.hid (bthen (CU.out.drew) b7)
            clear b7
            go_simp
            refine hK.out _ _ ?_ (fun hHeld => ?_)
            · exact X7.out.cell 0
            clear hK K
            (try simp only [Act.put, List.getElem_toArray, List.getElem_cons_zero, List.getElem_cons_succ, List.setIfInBounds_toArray, List.set_cons_zero, List.set_cons_succ])
            refine wpAnyH_ready (rs := [7, 11]) (by kernel_rfl) (by simp) ?_
            refine AllReadyH.cons (o := _) rfl (fun K hK => ?_) ?_
            · go_simp
              refine (HMH.out PL _ HQ).mono ?_
              rintro en v8 ⟨rfl, b8⟩
              have X8 := Lib.hid (X7.out.below b8 X7.out.lt)
              have A8 := Lib.hid (A7.out.below b8 A7.out.lt)
              have B8 := Lib.hid (B7.out.below b8 B7.out.lt)
              have R8 := Lib.hid (R7.out.below b8 R7.out.lt)
              have L8 := Lib.hid (L7.out.below b8 L7.out.lt)
              have U8 := Lib.hid (bthen U7.out b8)
              clear b8
              go_simp
              refine hK.out _ _ ?_ (fun hHeld => ?_)
              · exact X8.out.cell 0
              clear hK K
              (try simp only [Act.put, List.getElem_toArray, List.getElem_cons_zero, List.getElem_cons_succ, List.setIfInBounds_toArray, List.set_cons_zero, List.set_cons_succ])
              refine wpAnyH_take (i := 8) (oi := _) (v := ?_) rfl (by kernel_rfl) (by kernel_rfl) (by kernel_rfl) (fun _ _ _ h => h) (Or.inl ⟨by rfl, ?_⟩) (by assumption) ?_
              rotate_left 1
              · (intro w hSw; (try dsimp only at hSw); (go_simp <;> with_reducible rfl))
              (try simp only [Act.put, List.getElem_toArray, List.getElem_cons_zero, List.getElem_cons_succ, List.setIfInBounds_toArray, List.set_cons_zero, List.set_cons_succ])
              refine wpAnyH_take (i := 9) (oi := _) (v := ?_) rfl (by kernel_rfl) (by kernel_rfl) (by kernel_rfl) (fun _ _ _ h => h) (Or.inl ⟨by rfl, ?_⟩) (by assumption) ?_
              rotate_left 1
              · (intro w hSw; (try dsimp only at hSw); (go_simp <;> with_reducible rfl))
              (try simp only [Act.put, List.getElem_toArray, List.getElem_cons_zero, List.getElem_cons_succ, List.setIfInBounds_toArray, List.set_cons_zero, List.set_cons_succ])
              refine wpAnyH_take (i := 10) (oi := _) (v := ?_) rfl (by kernel_rfl) (by kernel_rfl) (by kernel_rfl) (fun _ _ _ h => h) (Or.inl ⟨by rfl, ?_⟩) (by assumption) ?_
              rotate_left 1
              · (intro w hSw; (try dsimp only at hSw); (go_simp <;> with_reducible rfl))
              (try simp only [Act.put, List.getElem_toArray, List.getElem_cons_zero, List.getElem_cons_succ, List.setIfInBounds_toArray, List.set_cons_zero, List.set_cons_succ])
              refine wpAnyH_ready (rs := [11]) (by kernel_rfl) (by simp) ?_
              refine AllReadyH.cons (o := _) rfl (fun K hK => ?_) ?_
              · go_simp
                have X9 := Lib.hid (X8.out.alloc (.cells #[.bool false, .string ⟨#[]⟩, .int .i64 0] 32))
                have A9 := Lib.hid (A8.out.alloc (.cells #[.bool false, .string ⟨#[]⟩, .int .i64 0] 32))
                have B9 := Lib.hid (B8.out.alloc (.cells #[.bool false, .string ⟨#[]⟩, .int .i64 0] 32))
                have R9 := Lib.hid (R8.out.alloc (.cells #[.bool false, .string ⟨#[]⟩, .int .i64 0] 32))
                have L9 := Lib.hid (L8.out.alloc (.cells #[.bool false, .string ⟨#[]⟩, .int .i64 0] 32))
                have hn9 : Blk (v8.alloc (.cells #[.bool false, .string ⟨#[]⟩, .int .i64 0] 32)) v8.heap.size 32 #[.bool false, .string ⟨#[]⟩, .int .i64 0] := Blk.new v8 32 #[.bool false, .string ⟨#[]⟩, .int .i64 0]
                have H9 := Lib.hid hn9
                clear hn9
                have U9 := Lib.hid (U8.out.alloc U8.out.size (.cells #[.bool false, .string ⟨#[]⟩, .int .i64 0] 32))
                refine hK.out _ _ ?_ (fun hHeld => ?_)
                · exact X9.out.cell 0
                clear hK K
                (try simp only [Act.put, List.getElem_toArray, List.getElem_cons_zero, List.getElem_cons_succ, List.setIfInBounds_toArray, List.set_cons_zero, List.set_cons_succ])
                refine wpAnyH_ready (rs := [12]) (by kernel_rfl) (by simp) ?_
                refine AllReadyH.cons (o := _) rfl (fun K hK => ?_) ?_
                · skip
                  have X10 := Lib.hid (X8.out.alloc (.cells #[.bool s, .string ⟨(cL l n true).toArray⟩, .int .i64 (cE l ex n true)] 32))
                  have A10 := Lib.hid (A8.out.alloc (.cells #[.bool s, .string ⟨(cL l n true).toArray⟩, .int .i64 (cE l ex n true)] 32))
                  have B10 := Lib.hid (B8.out.alloc (.cells #[.bool s, .string ⟨(cL l n true).toArray⟩, .int .i64 (cE l ex n true)] 32))
                  have R10 := Lib.hid (R8.out.alloc (.cells #[.bool s, .string ⟨(cL l n true).toArray⟩, .int .i64 (cE l ex n true)] 32))
                  have L10 := Lib.hid (L8.out.alloc (.cells #[.bool s, .string ⟨(cL l n true).toArray⟩, .int .i64 (cE l ex n true)] 32))
                  have hn10 : Blk (v8.alloc (.cells #[.bool s, .string ⟨(cL l n true).toArray⟩, .int .i64 (cE l ex n true)] 32)) v8.heap.size 32 #[.bool s, .string ⟨(cL l n true).toArray⟩, .int .i64 (cE l ex n true)] := Blk.new v8 32 #[.bool s, .string ⟨(cL l n true).toArray⟩, .int .i64 (cE l ex n true)]
                  have H10 := Lib.hid hn10
                  clear hn10
                  have U10 := Lib.hid (U8.out.alloc U8.out.size (.cells #[.bool s, .string ⟨(cL l n true).toArray⟩, .int .i64 (cE l ex n true)] 32))
                  go_simp
                  refine hK.out _ _ ?_ (fun hHeld => ?_)
                  · exact X10.out.cell 0
                  clear hK K
                  (try simp only [Act.put, List.getElem_toArray, List.getElem_cons_zero, List.getElem_cons_succ, List.setIfInBounds_toArray, List.set_cons_zero, List.set_cons_succ])
                  refine wpAnyH_take (i := 13) (oi := _) (v := ?_) rfl (by kernel_rfl) (by kernel_rfl) (by kernel_rfl) (fun _ _ _ h => h) (Or.inl ⟨by rfl, ?_⟩) (by assumption) ?_
                  rotate_left 1
                  · (intro w hSw; (try dsimp only at hSw); (go_simp <;> with_reducible rfl))
                  (try simp only [Act.put, List.getElem_toArray, List.getElem_cons_zero, List.getElem_cons_succ, List.setIfInBounds_toArray, List.set_cons_zero, List.set_cons_succ])
                  refine wpAnyH_done (by kernel_rfl) ?_ _
                  go_wp2_with fail
                  go_meet
                  exact ⟨_, rfl, X10, A10, B10, R10, L10, H10, U10⟩
                exact AllReadyH.nil
              exact AllReadyH.nil
            refine AllReadyH.cons (o := _) rfl (fun K hK => ?_) ?_
            · go_simp
              have X11 := Lib.hid (X7.out.alloc (.cells #[.bool false, .string ⟨#[]⟩, .int .i64 0] 32))
              have A11 := Lib.hid (A7.out.alloc (.cells #[.bool false, .string ⟨#[]⟩, .int .i64 0] 32))
              have B11 := Lib.hid (B7.out.alloc (.cells #[.bool false, .string ⟨#[]⟩, .int .i64 0] 32))
              have R11 := Lib.hid (R7.out.alloc (.cells #[.bool false, .string ⟨#[]⟩, .int .i64 0] 32))
              have L11 := Lib.hid (L7.out.alloc (.cells #[.bool false, .string ⟨#[]⟩, .int .i64 0] 32))
              have hn11 : Blk (v7.alloc (.cells #[.bool false, .string ⟨#[]⟩, .int .i64 0] 32)) v7.heap.size 32 #[.bool false, .string ⟨#[]⟩, .int .i64 0] := Blk.new v7 32 #[.bool false, .string ⟨#[]⟩, .int .i64 0]
              have H11 := Lib.hid hn11
              clear hn11
              have U11 := Lib.hid (U7.out.alloc U7.out.size (.cells #[.bool false, .string ⟨#[]⟩, .int .i64 0] 32))
              refine hK.out _ _ ?_ (fun hHeld => ?_)
              · exact X11.out.cell 0
              clear hK K
              (try simp only [Act.put, List.getElem_toArray, List.getElem_cons_zero, List.getElem_cons_succ, List.setIfInBounds_toArray, List.set_cons_zero, List.set_cons_succ])
              refine wpAnyH_ready (rs := [7]) (by kernel_rfl) (by simp) ?_
              refine AllReadyH.cons (o := _) rfl (fun K hK => ?_) ?_
              · go_simp
                refine (HMH.out PL _ HQ).mono ?_
                rintro en v12 ⟨rfl, b12⟩
                have X12 := Lib.hid (X11.out.below b12 X11.out.lt)
                have A12 := Lib.hid (A11.out.below b12 A11.out.lt)
                have B12 := Lib.hid (B11.out.below b12 B11.out.lt)
                have R12 := Lib.hid (R11.out.below b12 R11.out.lt)
                have L12 := Lib.hid (L11.out.below b12 L11.out.lt)
                have H12 := Lib.hid (H11.out.below b12 H11.out.lt)
                have U12 := Lib.hid (bthen U11.out b12)
                clear b12
                go_simp
                refine hK.out _ _ ?_ (fun hHeld => ?_)
                · exact X12.out.cell 0
                clear hK K
                (try simp only [Act.put, List.getElem_toArray, List.getElem_cons_zero, List.getElem_cons_succ, List.setIfInBounds_toArray, List.set_cons_zero, List.set_cons_succ])
                refine wpAnyH_take (i := 8) (oi := _) (v := ?_) rfl (by kernel_rfl) (by kernel_rfl) (by kernel_rfl) (fun _ _ _ h => h) (Or.inl ⟨by rfl, ?_⟩) (by assumption) ?_
                rotate_left 1
                · (intro w hSw; (try dsimp only at hSw); (go_simp <;> with_reducible rfl))
                (try simp only [Act.put, List.getElem_toArray, List.getElem_cons_zero, List.getElem_cons_succ, List.setIfInBounds_toArray, List.set_cons_zero, List.set_cons_succ])
                refine wpAnyH_take (i := 9) (oi := _) (v := ?_) rfl (by kernel_rfl) (by kernel_rfl) (by kernel_rfl) (fun _ _ _ h => h) (Or.inl ⟨by rfl, ?_⟩) (by assumption) ?_
                rotate_left 1
                · (intro w hSw; (try dsimp only at hSw); (go_simp <;> with_reducible rfl))
                (try simp only [Act.put, List.getElem_toArray, List.getElem_cons_zero, List.getElem_cons_succ, List.setIfInBounds_toArray, List.set_cons_zero, List.set_cons_succ])
                refine wpAnyH_take (i := 10) (oi := _) (v := ?_) rfl (by kernel_rfl) (by kernel_rfl) (by kernel_rfl) (fun _ _ _ h => h) (Or.inl ⟨by rfl, ?_⟩) (by assumption) ?_
                rotate_left 1
                · (intro w hSw; (try dsimp only at hSw); (go_simp <;> with_reducible rfl))
                (try simp only [Act.put, List.getElem_toArray, List.getElem_cons_zero, List.getElem_cons_succ, List.setIfInBounds_toArray, List.set_cons_zero, List.set_cons_succ])
                refine wpAnyH_ready (rs := [12]) (by kernel_rfl) (by simp) ?_
                refine AllReadyH.cons (o := _) rfl (fun K hK => ?_) ?_
                · have y0 := H12.out.cell 0
                  have y1 := H12.out.cell 1
                  have y2 := H12.out.cell 2
                  simp at y0 y1 y2
                  have fy0 := H12.out.frozen 0
                  have fy1 := H12.out.frozen 1
                  have fy2 := H12.out.frozen 2
                  have X13 := Lib.hid ((((X12.out.far (p := ⟨v7.heap.size, 0, none⟩) (Nat.ne_of_lt X7.out.lt) (.bool s)).far (p := ⟨v7.heap.size, 1, none⟩) (Nat.ne_of_lt X7.out.lt) (.string ⟨(cL l n true).toArray⟩)).far (p := ⟨v7.heap.size, 2, none⟩) (Nat.ne_of_lt X7.out.lt) (.int .i64 (cE l ex n true))))
                  have A13 := Lib.hid ((((A12.out.far (p := ⟨v7.heap.size, 0, none⟩) (Nat.ne_of_lt A7.out.lt) (.bool s)).far (p := ⟨v7.heap.size, 1, none⟩) (Nat.ne_of_lt A7.out.lt) (.string ⟨(cL l n true).toArray⟩)).far (p := ⟨v7.heap.size, 2, none⟩) (Nat.ne_of_lt A7.out.lt) (.int .i64 (cE l ex n true))))
                  have B13 := Lib.hid ((((B12.out.far (p := ⟨v7.heap.size, 0, none⟩) (Nat.ne_of_lt B7.out.lt) (.bool s)).far (p := ⟨v7.heap.size, 1, none⟩) (Nat.ne_of_lt B7.out.lt) (.string ⟨(cL l n true).toArray⟩)).far (p := ⟨v7.heap.size, 2, none⟩) (Nat.ne_of_lt B7.out.lt) (.int .i64 (cE l ex n true))))
                  have R13 := Lib.hid ((((R12.out.far (p := ⟨v7.heap.size, 0, none⟩) (Nat.ne_of_lt R7.out.lt) (.bool s)).far (p := ⟨v7.heap.size, 1, none⟩) (Nat.ne_of_lt R7.out.lt) (.string ⟨(cL l n true).toArray⟩)).far (p := ⟨v7.heap.size, 2, none⟩) (Nat.ne_of_lt R7.out.lt) (.int .i64 (cE l ex n true))))
                  have L13 := Lib.hid ((((L12.out.far (p := ⟨v7.heap.size, 0, none⟩) (Nat.ne_of_lt L7.out.lt) (.bool s)).far (p := ⟨v7.heap.size, 1, none⟩) (Nat.ne_of_lt L7.out.lt) (.string ⟨(cL l n true).toArray⟩)).far (p := ⟨v7.heap.size, 2, none⟩) (Nat.ne_of_lt L7.out.lt) (.int .i64 (cE l ex n true))))
                  have H13 := Lib.hid ((((H12.out.set_ 0 (.bool s)).set_ 1 (.string ⟨(cL l n true).toArray⟩)).set_ 2 (.int .i64 (cE l ex n true))))
                  have U13 := Lib.hid ((((U12.out.setCell (p := ⟨v7.heap.size, 0, none⟩) (U7.out.size) (.bool s)).setCell (p := ⟨v7.heap.size, 1, none⟩) (U7.out.size) (.string ⟨(cL l n true).toArray⟩)).setCell (p := ⟨v7.heap.size, 2, none⟩) (U7.out.size) (.int .i64 (cE l ex n true))))
                  go_simp
                  refine hK.out _ _ ?_ (fun hHeld => ?_)
                  · exact X13.out.cell 0
                  clear hK K y0 y1 y2 fy0 fy1 fy2
                  (try simp only [Act.put, List.getElem_toArray, List.getElem_cons_zero, List.getElem_cons_succ, List.setIfInBounds_toArray, List.set_cons_zero, List.set_cons_succ])
                  refine wpAnyH_take (i := 13) (oi := _) (v := ?_) rfl (by kernel_rfl) (by kernel_rfl) (by kernel_rfl) (fun _ _ _ h => h) (Or.inl ⟨by rfl, ?_⟩) (by assumption) ?_
                  rotate_left 1
                  · (intro w hSw; (try dsimp only at hSw); (go_simp <;> with_reducible rfl))
                  (try simp only [Act.put, List.getElem_toArray, List.getElem_cons_zero, List.getElem_cons_succ, List.setIfInBounds_toArray, List.set_cons_zero, List.set_cons_succ])
                  refine wpAnyH_done (by kernel_rfl) ?_ _
                  go_wp2_with fail
                  go_meet
                  exact ⟨_, rfl, X13, A13, B13, R13, L13, H13, U13⟩
                exact AllReadyH.nil
              exact AllReadyH.nil
            exact AllReadyH.nil
          refine AllReadyH.cons (o := _) rfl (fun K hK => ?_) ?_
          · go_simp
            have X14 := Lib.hid ((CX.out.drew).alloc (.cells #[.bool false, .string ⟨#[]⟩, .int .i64 0] 32))
            have A14 := Lib.hid ((CA.out.drew).alloc (.cells #[.bool false, .string ⟨#[]⟩, .int .i64 0] 32))
            have B14 := Lib.hid ((CB.out.drew).alloc (.cells #[.bool false, .string ⟨#[]⟩, .int .i64 0] 32))
            have R14 := Lib.hid ((CR.out.drew).alloc (.cells #[.bool false, .string ⟨#[]⟩, .int .i64 0] 32))
            have L14 := Lib.hid ((CL.out.drew).alloc (.cells #[.bool false, .string ⟨#[]⟩, .int .i64 0] 32))
            have hn14 : Blk (wc.drew.alloc (.cells #[.bool false, .string ⟨#[]⟩, .int .i64 0] 32)) wc.heap.size 32 #[.bool false, .string ⟨#[]⟩, .int .i64 0] := Blk.new wc.drew 32 #[.bool false, .string ⟨#[]⟩, .int .i64 0]
            have H14 := Lib.hid hn14
            clear hn14
            have U14 := Lib.hid ((CU.out.drew).alloc CU.out.size (.cells #[.bool false, .string ⟨#[]⟩, .int .i64 0] 32))
            refine hK.out _ _ ?_ (fun hHeld => ?_)
            · exact X14.out.cell 0
            clear hK K
            (try simp only [Act.put, List.getElem_toArray, List.getElem_cons_zero, List.getElem_cons_succ, List.setIfInBounds_toArray, List.set_cons_zero, List.set_cons_succ])
            refine wpAnyH_ready (rs := [5]) (by kernel_rfl) (by simp) ?_
            refine AllReadyH.cons (o := _) rfl (fun K hK => ?_) ?_
            · go_simp
              refine (HPL.out _).mono ?_
              rintro en v15 ⟨PL, rfl, HQ, b15⟩
              have X15 := Lib.hid (X14.out.below b15 X14.out.lt)
              have A15 := Lib.hid (A14.out.below b15 A14.out.lt)
              have B15 := Lib.hid (B14.out.below b15 B14.out.lt)
              have R15 := Lib.hid (R14.out.below b15 R14.out.lt)
              have L15 := Lib.hid (L14.out.below b15 L14.out.lt)
              have H15 := Lib.hid (H14.out.below b15 H14.out.lt)
              have U15 := Lib.hid (bthen U14.out b15)
              clear b15
              go_simp
              refine hK.out _ _ ?_ (fun hHeld => ?_)
              · exact X15.out.cell 0
              clear hK K
              (try simp only [Act.put, List.getElem_toArray, List.getElem_cons_zero, List.getElem_cons_succ, List.setIfInBounds_toArray, List.set_cons_zero, List.set_cons_succ])
              refine wpAnyH_ready (rs := [7]) (by kernel_rfl) (by simp) ?_
              refine AllReadyH.cons (o := _) rfl (fun K hK => ?_) ?_
              · go_simp
                refine (HMH.out PL _ HQ).mono ?_
                rintro en v16 ⟨rfl, b16⟩
                have X16 := Lib.hid (X15.out.below b16 X15.out.lt)
                have A16 := Lib.hid (A15.out.below b16 A15.out.lt)
                have B16 := Lib.hid (B15.out.below b16 B15.out.lt)
                have R16 := Lib.hid (R15.out.below b16 R15.out.lt)
                have L16 := Lib.hid (L15.out.below b16 L15.out.lt)
                have H16 := Lib.hid (H15.out.below b16 H15.out.lt)
                have U16 := Lib.hid (bthen U15.out b16)
                clear b16
                go_simp
                refine hK.out _ _ ?_ (fun hHeld => ?_)
                · exact X16.out.cell 0
                clear hK K
                (try simp only [Act.put, List.getElem_toArray, List.getElem_cons_zero, List.getElem_cons_succ, List.setIfInBounds_toArray, List.set_cons_zero, List.set_cons_succ])
                refine wpAnyH_take (i := 8) (oi := _) (v := ?_) rfl (by kernel_rfl) (by kernel_rfl) (by kernel_rfl) (fun _ _ _ h => h) (Or.inl ⟨by rfl, ?_⟩) (by assumption) ?_
                rotate_left 1
                · (intro w hSw; (try dsimp only at hSw); (go_simp <;> with_reducible rfl))
                (try simp only [Act.put, List.getElem_toArray, List.getElem_cons_zero, List.getElem_cons_succ, List.setIfInBounds_toArray, List.set_cons_zero, List.set_cons_succ])
                refine wpAnyH_take (i := 9) (oi := _) (v := ?_) rfl (by kernel_rfl) (by kernel_rfl) (by kernel_rfl) (fun _ _ _ h => h) (Or.inl ⟨by rfl, ?_⟩) (by assumption) ?_
                rotate_left 1
                · (intro w hSw; (try dsimp only at hSw); (go_simp <;> with_reducible rfl))
                (try simp only [Act.put, List.getElem_toArray, List.getElem_cons_zero, List.getElem_cons_succ, List.setIfInBounds_toArray, List.set_cons_zero, List.set_cons_succ])
                refine wpAnyH_take (i := 10) (oi := _) (v := ?_) rfl (by kernel_rfl) (by kernel_rfl) (by kernel_rfl) (fun _ _ _ h => h) (Or.inl ⟨by rfl, ?_⟩) (by assumption) ?_
                rotate_left 1
                · (intro w hSw; (try dsimp only at hSw); (go_simp <;> with_reducible rfl))
                (try simp only [Act.put, List.getElem_toArray, List.getElem_cons_zero, List.getElem_cons_succ, List.setIfInBounds_toArray, List.set_cons_zero, List.set_cons_succ])
                refine wpAnyH_ready (rs := [12]) (by kernel_rfl) (by simp) ?_
                refine AllReadyH.cons (o := _) rfl (fun K hK => ?_) ?_
                · have y0 := H16.out.cell 0
                  have y1 := H16.out.cell 1
                  have y2 := H16.out.cell 2
                  simp at y0 y1 y2
                  have fy0 := H16.out.frozen 0
                  have fy1 := H16.out.frozen 1
                  have fy2 := H16.out.frozen 2
                  have X17 := Lib.hid ((((X16.out.far (p := ⟨wc.heap.size, 0, none⟩) (Nat.ne_of_lt CX.out.lt) (.bool s)).far (p := ⟨wc.heap.size, 1, none⟩) (Nat.ne_of_lt CX.out.lt) (.string ⟨(cL l n true).toArray⟩)).far (p := ⟨wc.heap.size, 2, none⟩) (Nat.ne_of_lt CX.out.lt) (.int .i64 (cE l ex n true))))
                  have A17 := Lib.hid ((((A16.out.far (p := ⟨wc.heap.size, 0, none⟩) (Nat.ne_of_lt CA.out.lt) (.bool s)).far (p := ⟨wc.heap.size, 1, none⟩) (Nat.ne_of_lt CA.out.lt) (.string ⟨(cL l n true).toArray⟩)).far (p := ⟨wc.heap.size, 2, none⟩) (Nat.ne_of_lt CA.out.lt) (.int .i64 (cE l ex n true))))
                  have B17 := Lib.hid ((((B16.out.far (p := ⟨wc.heap.size, 0, none⟩) (Nat.ne_of_lt CB.out.lt) (.bool s)).far (p := ⟨wc.heap.size, 1, none⟩) (Nat.ne_of_lt CB.out.lt) (.string ⟨(cL l n true).toArray⟩)).far (p := ⟨wc.heap.size, 2, none⟩) (Nat.ne_of_lt CB.out.lt) (.int .i64 (cE l ex n true))))
                  have R17 := Lib.hid ((((R16.out.far (p := ⟨wc.heap.size, 0, none⟩) (Nat.ne_of_lt CR.out.lt) (.bool s)).far (p := ⟨wc.heap.size, 1, none⟩) (Nat.ne_of_lt CR.out.lt) (.string ⟨(cL l n true).toArray⟩)).far (p := ⟨wc.heap.size, 2, none⟩) (Nat.ne_of_lt CR.out.lt) (.int .i64 (cE l ex n true))))
                  have L17 := Lib.hid ((((L16.out.far (p := ⟨wc.heap.size, 0, none⟩) (Nat.ne_of_lt CL.out.lt) (.bool s)).far (p := ⟨wc.heap.size, 1, none⟩) (Nat.ne_of_lt CL.out.lt) (.string ⟨(cL l n true).toArray⟩)).far (p := ⟨wc.heap.size, 2, none⟩) (Nat.ne_of_lt CL.out.lt) (.int .i64 (cE l ex n true))))
                  have H17 := Lib.hid ((((H16.out.set_ 0 (.bool s)).set_ 1 (.string ⟨(cL l n true).toArray⟩)).set_ 2 (.int .i64 (cE l ex n true))))
                  have U17 := Lib.hid ((((U16.out.setCell (p := ⟨wc.heap.size, 0, none⟩) (CU.out.size) (.bool s)).setCell (p := ⟨wc.heap.size, 1, none⟩) (CU.out.size) (.string ⟨(cL l n true).toArray⟩)).setCell (p := ⟨wc.heap.size, 2, none⟩) (CU.out.size) (.int .i64 (cE l ex n true))))
                  go_simp
                  refine hK.out _ _ ?_ (fun hHeld => ?_)
                  · exact X17.out.cell 0
                  clear hK K y0 y1 y2 fy0 fy1 fy2
                  (try simp only [Act.put, List.getElem_toArray, List.getElem_cons_zero, List.getElem_cons_succ, List.setIfInBounds_toArray, List.set_cons_zero, List.set_cons_succ])
                  refine wpAnyH_take (i := 13) (oi := _) (v := ?_) rfl (by kernel_rfl) (by kernel_rfl) (by kernel_rfl) (fun _ _ _ h => h) (Or.inl ⟨by rfl, ?_⟩) (by assumption) ?_
                  rotate_left 1
                  · (intro w hSw; (try dsimp only at hSw); (go_simp <;> with_reducible rfl))
                  (try simp only [Act.put, List.getElem_toArray, List.getElem_cons_zero, List.getElem_cons_succ, List.setIfInBounds_toArray, List.set_cons_zero, List.set_cons_succ])
                  refine wpAnyH_done (by kernel_rfl) ?_ _
                  go_wp2_with fail
                  go_meet
                  exact ⟨_, rfl, X17, A17, B17, R17, L17, H17, U17⟩
                exact AllReadyH.nil
              exact AllReadyH.nil
            exact AllReadyH.nil
          exact AllReadyH.nil
        case rest =>
          obtain ⟨gh, rfl, DX, DA, DB, DR, DL, DH, DU⟩ := hcut
          clear CX CA CB CR CL CU HPL HMH
          go_upto_region 14 with fail
          go_cut [16, 17] from 38 to 110 (fun s16 s17 wx => s16 = .bool (ok n false) ∧ s17 = .bool (ok n true) ∧ Hid (Blk wx gx 32 #[.bool s, .string sl, .int .i64 ex]) ∧ Hid (Blk wx ga 32 #[.bool false, .string ⟨l1.toArray⟩, .int .i64 e1]) ∧ Hid (Blk wx gb 32 #[.bool false, .string ⟨l2.toArray⟩, .int .i64 e2]) ∧ Hid (Blk wx w.heap.size 32 #[.bool false, .string ⟨#[]⟩, .int .i64 0]) ∧ Hid (Blk wx gl 32 #[.bool s, .string ⟨(cL l n false).toArray⟩, .int .i64 (cE l ex n false)]) ∧ Hid (Blk wx gh 32 #[.bool s, .string ⟨(cL l n true).toArray⟩, .int .i64 (cE l ex n true)]) ∧ Hid (Below w.heap.size w wx))
          case first =>
            refine wp_region_held_drew (S := (fun w' => w'.cell? ⟨gl, 0, none⟩ = some (.bool s) ∧ w'.cell? ⟨gl, 1, none⟩ = some (.string ⟨(cL l n false).toArray⟩) ∧ w'.cell? ⟨gl, 2, none⟩ = some (.int .i64 (cE l ex n false)) ∧ w'.cell? ⟨gh, 0, none⟩ = some (.bool s) ∧ w'.cell? ⟨gh, 1, none⟩ = some (.string ⟨(cL l n true).toArray⟩) ∧ w'.cell? ⟨gh, 2, none⟩ = some (.int .i64 (cE l ex n true)) ∧ w'.cell? ⟨ga, 0, none⟩ = some (.bool false) ∧ w'.cell? ⟨ga, 1, none⟩ = some (.string ⟨l1.toArray⟩) ∧ w'.cell? ⟨ga, 2, none⟩ = some (.int .i64 e1) ∧ w'.cell? ⟨gb, 0, none⟩ = some (.bool false) ∧ w'.cell? ⟨gb, 1, none⟩ = some (.string ⟨l2.toArray⟩) ∧ w'.cell? ⟨gb, 2, none⟩ = some (.int .i64 e2))) (by kernel_rfl) ?_ (fun hHeld => ?_)
            · exact ⟨DL.out.cell 0, DL.out.cell 1, DL.out.cell 2, DH.out.cell 0, DH.out.cell 1, DH.out.cell 2, DA.out.cell 0, DA.out.cell 1, DA.out.cell 2, DB.out.cell 0, DB.out.cell 1, DB.out.cell 2⟩
            refine wpAnyH_take (i := 0) (oi := _) (v := ?_) rfl (by kernel_rfl) (by kernel_rfl) (by kernel_rfl) (fun _ _ _ h => h) (Or.inl ⟨by rfl, ?_⟩) (by assumption) ?_
            rotate_left 1
            · (intro w hSw; (try dsimp only at hSw); (go_simp <;> with_reducible rfl))
            (try simp only [Act.put, List.getElem_toArray, List.getElem_cons_zero, List.getElem_cons_succ, List.setIfInBounds_toArray, List.set_cons_zero, List.set_cons_succ])
            refine wpAnyH_take (i := 1) (oi := _) (v := ?_) rfl (by kernel_rfl) (by kernel_rfl) (by kernel_rfl) (fun _ _ _ h => h) (Or.inl ⟨by rfl, ?_⟩) (by assumption) ?_
            rotate_left 1
            · (intro w hSw; (try dsimp only at hSw); (go_simp <;> with_reducible rfl))
            (try simp only [Act.put, List.getElem_toArray, List.getElem_cons_zero, List.getElem_cons_succ, List.setIfInBounds_toArray, List.set_cons_zero, List.set_cons_succ])
            refine wpAnyH_take (i := 2) (oi := _) (v := ?_) rfl (by kernel_rfl) (by kernel_rfl) (by kernel_rfl) (fun _ _ _ h => h) (Or.inl ⟨by rfl, ?_⟩) (by assumption) ?_
            rotate_left 1
            · (intro w hSw; (try dsimp only at hSw); (go_simp <;> with_reducible rfl))
            (try simp only [Act.put, List.getElem_toArray, List.getElem_cons_zero, List.getElem_cons_succ, List.setIfInBounds_toArray, List.set_cons_zero, List.set_cons_succ])
            refine wpAnyH_take (i := 3) (oi := _) (v := ?_) rfl (by kernel_rfl) (by kernel_rfl) (by kernel_rfl) (fun _ _ _ h => h) (Or.inl ⟨by rfl, ?_⟩) (by assumption) ?_
            rotate_left 1
            · (intro w hSw; (try dsimp only at hSw); (go_simp <;> with_reducible rfl))
            (try simp only [Act.put, List.getElem_toArray, List.getElem_cons_zero, List.getElem_cons_succ, List.setIfInBounds_toArray, List.set_cons_zero, List.set_cons_succ])
            refine wpAnyH_take (i := 5) (oi := _) (v := ?_) rfl (by kernel_rfl) (by kernel_rfl) (by kernel_rfl) (fun _ _ _ h => h) (Or.inl ⟨by rfl, ?_⟩) (by assumption) ?_
            rotate_left 1
            · (intro w hSw; (try dsimp only at hSw); (go_simp <;> with_reducible rfl))
            (try simp only [Act.put, List.getElem_toArray, List.getElem_cons_zero, List.getElem_cons_succ, List.setIfInBounds_toArray, List.set_cons_zero, List.set_cons_succ])
            refine wpAnyH_take (i := 6) (oi := _) (v := ?_) rfl (by kernel_rfl) (by kernel_rfl) (by kernel_rfl) (fun _ _ _ h => h) (Or.inl ⟨by rfl, ?_⟩) (by assumption) ?_
            rotate_left 1
            · (intro w hSw; (try dsimp only at hSw); (go_simp <;> with_reducible rfl))
            (try simp only [Act.put, List.getElem_toArray, List.getElem_cons_zero, List.getElem_cons_succ, List.setIfInBounds_toArray, List.set_cons_zero, List.set_cons_succ])
            refine wpAnyH_take (i := 7) (oi := _) (v := ?_) rfl (by kernel_rfl) (by kernel_rfl) (by kernel_rfl) (fun _ _ _ h => h) (Or.inl ⟨by rfl, ?_⟩) (by assumption) ?_
            rotate_left 1
            · (intro w hSw; (try dsimp only at hSw); (go_simp <;> with_reducible rfl))
            (try simp only [Act.put, List.getElem_toArray, List.getElem_cons_zero, List.getElem_cons_succ, List.setIfInBounds_toArray, List.set_cons_zero, List.set_cons_succ])
            refine wpAnyH_take (i := 8) (oi := _) (v := ?_) rfl (by kernel_rfl) (by kernel_rfl) (by kernel_rfl) (fun _ _ _ h => h) (Or.inl ⟨by rfl, ?_⟩) (by assumption) ?_
            rotate_left 1
            · (intro w hSw; (try dsimp only at hSw); (go_simp <;> with_reducible rfl))
            (try simp only [Act.put, List.getElem_toArray, List.getElem_cons_zero, List.getElem_cons_succ, List.setIfInBounds_toArray, List.set_cons_zero, List.set_cons_succ])
            refine wpAnyH_ready (rs := [4]) (by kernel_rfl) (by simp) ?_
            refine AllReadyH.cons (o := _) rfl (fun K hK => ?_) ?_
            · go_simp
              refine (HCL.out false _).mono ?_
              rintro en v18 ⟨rfl, b18⟩
              have X18 := Lib.hid ((DX.out.drew).below b18 DX.out.lt)
              have A18 := Lib.hid ((DA.out.drew).below b18 DA.out.lt)
              have B18 := Lib.hid ((DB.out.drew).below b18 DB.out.lt)
              have R18 := Lib.hid ((DR.out.drew).below b18 DR.out.lt)
              have L18 := Lib.hid ((DL.out.drew).below b18 DL.out.lt)
              have H18 := Lib.hid ((DH.out.drew).below b18 DH.out.lt)
              have U18 := Lib.hid (bthen (DU.out.drew) b18)
              clear b18
              go_simp
              refine hK.out _ _ ?_ (fun hHeld => ?_)
              · exact ⟨L18.out.cell 0, L18.out.cell 1, L18.out.cell 2, H18.out.cell 0, H18.out.cell 1, H18.out.cell 2, A18.out.cell 0, A18.out.cell 1, A18.out.cell 2, B18.out.cell 0, B18.out.cell 1, B18.out.cell 2⟩
              clear hK K
              (try simp only [Act.put, List.getElem_toArray, List.getElem_cons_zero, List.getElem_cons_succ, List.setIfInBounds_toArray, List.set_cons_zero, List.set_cons_succ])
              refine wpAnyH_ready (rs := [9]) (by kernel_rfl) (by simp) ?_
              refine AllReadyH.cons (o := _) rfl (fun K hK => ?_) ?_
              · go_simp
                refine (HCL.out true _).mono ?_
                rintro en v19 ⟨rfl, b19⟩
                have X19 := Lib.hid (X18.out.below b19 X18.out.lt)
                have A19 := Lib.hid (A18.out.below b19 A18.out.lt)
                have B19 := Lib.hid (B18.out.below b19 B18.out.lt)
                have R19 := Lib.hid (R18.out.below b19 R18.out.lt)
                have L19 := Lib.hid (L18.out.below b19 L18.out.lt)
                have H19 := Lib.hid (H18.out.below b19 H18.out.lt)
                have U19 := Lib.hid (bthen U18.out b19)
                clear b19
                go_simp
                refine hK.out _ _ ?_ (fun hHeld => ?_)
                · exact ⟨L19.out.cell 0, L19.out.cell 1, L19.out.cell 2, H19.out.cell 0, H19.out.cell 1, H19.out.cell 2, A19.out.cell 0, A19.out.cell 1, A19.out.cell 2, B19.out.cell 0, B19.out.cell 1, B19.out.cell 2⟩
                clear hK K
                (try simp only [Act.put, List.getElem_toArray, List.getElem_cons_zero, List.getElem_cons_succ, List.setIfInBounds_toArray, List.set_cons_zero, List.set_cons_succ])
                refine wpAnyH_take (i := 10) (oi := _) (v := ?_) rfl (by kernel_rfl) (by kernel_rfl) (by kernel_rfl) (fun _ _ _ h => h) (Or.inl ⟨by rfl, ?_⟩) (by assumption) ?_
                rotate_left 1
                · (intro w hSw; (try dsimp only at hSw); (go_simp <;> with_reducible rfl))
                (try simp only [Act.put, List.getElem_toArray, List.getElem_cons_zero, List.getElem_cons_succ, List.setIfInBounds_toArray, List.set_cons_zero, List.set_cons_succ])
                refine wpAnyH_take (i := 11) (oi := _) (v := ?_) rfl (by kernel_rfl) (by kernel_rfl) (by kernel_rfl) (fun _ _ _ h => h) (Or.inl ⟨by rfl, ?_⟩) (by assumption) ?_
                rotate_left 1
                · (intro w hSw; (try dsimp only at hSw); (go_simp <;> with_reducible rfl))
                (try simp only [Act.put, List.getElem_toArray, List.getElem_cons_zero, List.getElem_cons_succ, List.setIfInBounds_toArray, List.set_cons_zero, List.set_cons_succ])
                refine wpAnyH_done (by kernel_rfl) ?_ _
                go_wp2_with fail
                go_meet
                exact ⟨rfl, rfl, X19, A19, B19, R19, L19, H19, U19⟩
              exact AllReadyH.nil
            exact AllReadyH.nil
          case rest =>
            obtain ⟨rfl, rfl, EX, EA, EB, ER, EL, EH, EU⟩ := hcut
            clear DX DA DB DR DL DH DU
            have hstep : digF k = if (ok n false && (!ok n true || !nrF l n)) = true then some (n, false) else if ok n true = true then some (n, true) else pickR ok (nrF l) (l.length - (n + 1)) (n + 1) := by
              rw [← HP.out, show l.length - n = (l.length - (n + 1)) + 1 by have := HN2.out; omega]
              rfl
            have HSTEP := Lib.hid hstep
            have hnr := nr_hf (l := l) n
            have hz3 := cmpI_cases (2 * dval (l.drop n)) (10 ^ (l.length - n))
            have hz3' : hfI l n = -1 ∨ hfI l n = 0 ∨ hfI l n = 1 := hz3
            have hk1 : n - 1 < sl.size := by omega
            have hpar : dval (l.take n) % 2 = (sl[n - 1]'hk1).toNat % 2 := by
              have hq : n - 1 < l.length := by have := HN2.out; omega
              have e0 : sl[n - 1]'hk1 = l[n - 1]'hq := by
                have e : sl.data.toList[n - 1]? = l[n - 1]? := by rw [HSD.out]
                rw [List.getElem?_eq_getElem (show n - 1 < sl.data.toList.length by rw [HSD.out]; exact hq), List.getElem?_eq_getElem hq] at e
                exact Option.some.inj e
              rw [e0]
              exact take_last HCAN.out.digs hn1 (by have := HN2.out; omega)
            have hcd : 48 ≤ (sl[n - 1]'hk1).toNat ∧ (sl[n - 1]'hk1).toNat ≤ 57 := by
              refine HCAN.out.digs _ ?_
              rw [← HSD.out]
              exact List.getElem_mem (l := sl.data.toList) (n := n - 1) (by have := HN2.out; rw [HSD.out]; omega)
            have t9 : (n : Int) - 1 = ((n - 1 : Nat) : Int) := by omega
            have HHF2 : Hid (∀ W, Calls Tryz.prog 48 #[.string Q] W (HfPost W l n)) := HHF
            obtain ⟨z, hz⟩ : ∃ z, z = hfI l n := ⟨_, rfl⟩
            have HZW : Hid (∀ W, Calls Tryz.prog 48 #[.string Q] W (fun en w' => en = .returned (.int .i64 z) ∧ W = w')) := Lib.hid (fun W => by rw [hz]; exact HHF2.out W)
            rw [← hz] at hnr hz3'
            have HNE := Lib.hid (nr_even z hnr)
            have HPAR := Lib.hid hpar
            have HZ3 := Lib.hid hz3'
            clear hstep hnr hz3 hz3' hpar hz HHF HHF2
            cases hd : ok n false
            · cases hu : ok n true
              · have HNX := Lib.hid (show digF k = pickR ok (nrF l) (l.length - (n + 1)) (n + 1) by rw [HSTEP.out, hd, hu]; rfl)
                clear hd hu
                go_wp2_with fail
                refine (HZW.out _).mono ?_
                rintro en wH ⟨rfl, hwH⟩
                subst hwH
                go_wp2_with fail
                go_roundw
                case rel => exact ⟨n + 1, by omega, Lib.hid (by have := HN2.out; omega), by go_num, Lib.hid HNX.out.symm, EX, EA, EB, ER, EU⟩
                case measure => have := HN2.out; simp [intOf]; omega
              · have hdd : digF k = some (n, true) := by rw [HSTEP.out, hd, hu]; rfl
                clear hd hu
                go_wp2_with fail
                refine (HZW.out _).mono ?_
                rintro en wH ⟨rfl, hwH⟩
                subst hwH
                have HDD := Lib.hid hdd
                clear hdd
                obtain ⟨LL, hLL⟩ : ∃ LL, LL = cL l n true := ⟨_, rfl⟩
                obtain ⟨EE, hEE⟩ : ∃ EE, EE = cE l ex n true := ⟨_, rfl⟩
                have hb := EH.out
                rw [← hLL, ← hEE] at hb
                have z0 := hb.cell 0
                have z1 := hb.cell 1
                have z2 := hb.cell 2
                have y0 := ER.out.cell 0
                have y1 := ER.out.cell 1
                have y2 := ER.out.cell 2
                have fy0 := ER.out.frozen 0
                have fy1 := ER.out.frozen 1
                have fy2 := ER.out.frozen 2
                simp at z0 z1 z2 y0 y1 y2
                have HLL := Lib.hid hLL
                have HEE := Lib.hid hEE
                have HR3 := Lib.hid (((ER.out.set_ 0 (.bool s)).set_ 1 (.string ⟨LL.toArray⟩)).set_ 2 (.int .i64 EE))
                have HBF := Lib.hid (((EU.out.setCell (p := ⟨w.heap.size, 0, none⟩) (Nat.le_refl _) (.bool s)).setCell (p := ⟨w.heap.size, 1, none⟩) (Nat.le_refl _) (.string ⟨LL.toArray⟩)).setCell (p := ⟨w.heap.size, 2, none⟩) (Nat.le_refl _) (.int .i64 EE))
                clear hLL hEE hb
                clear EX EA EB EL EH
                go_upto_region 19 with fail
                clear hcd t9
                first | go_values | go_skip | go_guarded | go_step | go_upon | go_back
                first | go_values | go_skip | go_guarded | go_step | go_upon | go_back
                first | go_values | go_skip | go_guarded | go_step | go_upon | go_back
                first | go_values | go_skip | go_guarded | go_step | go_upon | go_back
                first | go_values | go_skip | go_guarded | go_step | go_upon | go_back
                first | go_values | go_skip | go_guarded | go_step | go_upon | go_back
                first | go_values | go_skip | go_guarded | go_step | go_upon | go_back
                first | go_values | go_skip | go_guarded | go_step | go_upon | go_back
                first | go_values | go_skip | go_guarded | go_step | go_upon | go_back
                first | go_values | go_skip | go_guarded | go_step | go_upon | go_back
                first | go_values | go_skip | go_guarded | go_step | go_upon | go_back
                first | go_values | go_skip | go_guarded | go_step | go_upon | go_back
                first | go_values | go_skip | go_guarded | go_step | go_upon | go_back
                first | go_values | go_skip | go_guarded | go_step | go_upon | go_back
                first | go_values | go_skip | go_guarded | go_step | go_upon | go_back
                refine exit_then_ret ?_
                show bodyPost Tryz.prog Tryz.f21 (DgPost w s k) Exit.ret _ _
                have hr3 := HR3.out
                have hbf := HBF.out
                clear HR3 HBF
                generalize ((World.setCell _ _ _).setCell _ _).setCell _ _ = Wf at hr3 hbf ⊢
                have q0 : Wf.cell? ⟨w.heap.size, 0, none⟩ = some (.bool s) := hr3.cell 0
                have q1 : Wf.cell? ⟨w.heap.size, 1, none⟩ = some (.string ⟨LL.toArray⟩) := hr3.cell 1
                have q2 : Wf.cell? ⟨w.heap.size, 2, none⟩ = some (.int .i64 EE) := hr3.cell 2
                refine bodyPost_ret (v := .tuple #[decV s LL EE, .int .i64 0]) (by simp [results, Tryz.results21, go_sem, q0, q1, q2]) rfl ⟨?_, hbf⟩
                rw [HLL.out, HEE.out, (dL_len HDD.out).1, (dL_len HDD.out).2, HL.out, HX0.out]
            · cases hu : ok n true
              · have hdd : digF k = some (n, false) := by rw [HSTEP.out, hd, hu]; rfl
                clear hd hu
                go_wp2_with fail
                refine (HZW.out _).mono ?_
                rintro en wH ⟨rfl, hwH⟩
                subst hwH
                have HDD := Lib.hid hdd
                clear hdd
                obtain ⟨LL, hLL⟩ : ∃ LL, LL = cL l n false := ⟨_, rfl⟩
                obtain ⟨EE, hEE⟩ : ∃ EE, EE = cE l ex n false := ⟨_, rfl⟩
                have hb := EL.out
                rw [← hLL, ← hEE] at hb
                have z0 := hb.cell 0
                have z1 := hb.cell 1
                have z2 := hb.cell 2
                have y0 := ER.out.cell 0
                have y1 := ER.out.cell 1
                have y2 := ER.out.cell 2
                have fy0 := ER.out.frozen 0
                have fy1 := ER.out.frozen 1
                have fy2 := ER.out.frozen 2
                simp at z0 z1 z2 y0 y1 y2
                have HLL := Lib.hid hLL
                have HEE := Lib.hid hEE
                have HR3 := Lib.hid (((ER.out.set_ 0 (.bool s)).set_ 1 (.string ⟨LL.toArray⟩)).set_ 2 (.int .i64 EE))
                have HBF := Lib.hid (((EU.out.setCell (p := ⟨w.heap.size, 0, none⟩) (Nat.le_refl _) (.bool s)).setCell (p := ⟨w.heap.size, 1, none⟩) (Nat.le_refl _) (.string ⟨LL.toArray⟩)).setCell (p := ⟨w.heap.size, 2, none⟩) (Nat.le_refl _) (.int .i64 EE))
                clear hLL hEE hb
                clear EX EA EB EL EH
                go_upto_region 17 with fail
                clear hcd t9
                first | go_values | go_skip | go_guarded | go_step | go_upon | go_back
                first | go_values | go_skip | go_guarded | go_step | go_upon | go_back
                first | go_values | go_skip | go_guarded | go_step | go_upon | go_back
                first | go_values | go_skip | go_guarded | go_step | go_upon | go_back
                first | go_values | go_skip | go_guarded | go_step | go_upon | go_back
                first | go_values | go_skip | go_guarded | go_step | go_upon | go_back
                first | go_values | go_skip | go_guarded | go_step | go_upon | go_back
                first | go_values | go_skip | go_guarded | go_step | go_upon | go_back
                first | go_values | go_skip | go_guarded | go_step | go_upon | go_back
                first | go_values | go_skip | go_guarded | go_step | go_upon | go_back
                first | go_values | go_skip | go_guarded | go_step | go_upon | go_back
                first | go_values | go_skip | go_guarded | go_step | go_upon | go_back
                first | go_values | go_skip | go_guarded | go_step | go_upon | go_back
                first | go_values | go_skip | go_guarded | go_step | go_upon | go_back
                first | go_values | go_skip | go_guarded | go_step | go_upon | go_back
                refine exit_then_ret ?_
                show bodyPost Tryz.prog Tryz.f21 (DgPost w s k) Exit.ret _ _
                have hr3 := HR3.out
                have hbf := HBF.out
                clear HR3 HBF
                generalize ((World.setCell _ _ _).setCell _ _).setCell _ _ = Wf at hr3 hbf ⊢
                have q0 : Wf.cell? ⟨w.heap.size, 0, none⟩ = some (.bool s) := hr3.cell 0
                have q1 : Wf.cell? ⟨w.heap.size, 1, none⟩ = some (.string ⟨LL.toArray⟩) := hr3.cell 1
                have q2 : Wf.cell? ⟨w.heap.size, 2, none⟩ = some (.int .i64 EE) := hr3.cell 2
                refine bodyPost_ret (v := .tuple #[decV s LL EE, .int .i64 0]) (by simp [results, Tryz.results21, go_sem, q0, q1, q2]) rfl ⟨?_, hbf⟩
                rw [HLL.out, HEE.out, (dL_len HDD.out).1, (dL_len HDD.out).2, HL.out, HX0.out]
              · rcases HZ3.out with rfl | rfl | rfl
                · have hdd : digF k = some (n, false) := by rw [HSTEP.out, hd, hu, HNE.out.1 rfl]; rfl
                  clear hd hu
                  go_wp2_with fail
                  refine (HZW.out _).mono ?_
                  rintro en wH ⟨rfl, hwH⟩
                  subst hwH
                  have HDD := Lib.hid hdd
                  clear hdd
                  obtain ⟨LL, hLL⟩ : ∃ LL, LL = cL l n false := ⟨_, rfl⟩
                  obtain ⟨EE, hEE⟩ : ∃ EE, EE = cE l ex n false := ⟨_, rfl⟩
                  have hb := EL.out
                  rw [← hLL, ← hEE] at hb
                  have z0 := hb.cell 0
                  have z1 := hb.cell 1
                  have z2 := hb.cell 2
                  have y0 := ER.out.cell 0
                  have y1 := ER.out.cell 1
                  have y2 := ER.out.cell 2
                  have fy0 := ER.out.frozen 0
                  have fy1 := ER.out.frozen 1
                  have fy2 := ER.out.frozen 2
                  simp at z0 z1 z2 y0 y1 y2
                  have HLL := Lib.hid hLL
                  have HEE := Lib.hid hEE
                  have HR3 := Lib.hid (((ER.out.set_ 0 (.bool s)).set_ 1 (.string ⟨LL.toArray⟩)).set_ 2 (.int .i64 EE))
                  have HBF := Lib.hid (((EU.out.setCell (p := ⟨w.heap.size, 0, none⟩) (Nat.le_refl _) (.bool s)).setCell (p := ⟨w.heap.size, 1, none⟩) (Nat.le_refl _) (.string ⟨LL.toArray⟩)).setCell (p := ⟨w.heap.size, 2, none⟩) (Nat.le_refl _) (.int .i64 EE))
                  clear hLL hEE hb
                  clear EX EA EB EL EH
                  go_upto_region 17 with fail
                  clear hcd t9
                  first | go_values | go_skip | go_guarded | go_step | go_upon | go_back
                  first | go_values | go_skip | go_guarded | go_step | go_upon | go_back
                  first | go_values | go_skip | go_guarded | go_step | go_upon | go_back
                  first | go_values | go_skip | go_guarded | go_step | go_upon | go_back
                  first | go_values | go_skip | go_guarded | go_step | go_upon | go_back
                  first | go_values | go_skip | go_guarded | go_step | go_upon | go_back
                  first | go_values | go_skip | go_guarded | go_step | go_upon | go_back
                  first | go_values | go_skip | go_guarded | go_step | go_upon | go_back
                  first | go_values | go_skip | go_guarded | go_step | go_upon | go_back
                  first | go_values | go_skip | go_guarded | go_step | go_upon | go_back
                  first | go_values | go_skip | go_guarded | go_step | go_upon | go_back
                  first | go_values | go_skip | go_guarded | go_step | go_upon | go_back
                  first | go_values | go_skip | go_guarded | go_step | go_upon | go_back
                  first | go_values | go_skip | go_guarded | go_step | go_upon | go_back
                  first | go_values | go_skip | go_guarded | go_step | go_upon | go_back
                  refine exit_then_ret ?_
                  show bodyPost Tryz.prog Tryz.f21 (DgPost w s k) Exit.ret _ _
                  have hr3 := HR3.out
                  have hbf := HBF.out
                  clear HR3 HBF
                  generalize ((World.setCell _ _ _).setCell _ _).setCell _ _ = Wf at hr3 hbf ⊢
                  have q0 : Wf.cell? ⟨w.heap.size, 0, none⟩ = some (.bool s) := hr3.cell 0
                  have q1 : Wf.cell? ⟨w.heap.size, 1, none⟩ = some (.string ⟨LL.toArray⟩) := hr3.cell 1
                  have q2 : Wf.cell? ⟨w.heap.size, 2, none⟩ = some (.int .i64 EE) := hr3.cell 2
                  refine bodyPost_ret (v := .tuple #[decV s LL EE, .int .i64 0]) (by simp [results, Tryz.results21, go_sem, q0, q1, q2]) rfl ⟨?_, hbf⟩
                  rw [HLL.out, HEE.out, (dL_len HDD.out).1, (dL_len HDD.out).2, HL.out, HX0.out]
                · by_cases hp : dval (l.take n) % 2 = 1
                  · have hdd : digF k = some (n, true) := by rw [HSTEP.out, hd, hu, HNE.out.2.2 rfl, decide_eq_true hp]; rfl
                    have t2 : ((((sl[n - 1]'hk1).toNat : Int) - 48) % 2 == 0) = false := by have := HPAR.out; rw [beq_eq_false_iff_ne]; omega
                    clear hd hu hp
                    go_wp2_with fail
                    refine (HZW.out _).mono ?_
                    rintro en wH ⟨rfl, hwH⟩
                    subst hwH
                    have HDD := Lib.hid hdd
                    clear hdd
                    obtain ⟨LL, hLL⟩ : ∃ LL, LL = cL l n true := ⟨_, rfl⟩
                    obtain ⟨EE, hEE⟩ : ∃ EE, EE = cE l ex n true := ⟨_, rfl⟩
                    have hb := EH.out
                    rw [← hLL, ← hEE] at hb
                    have z0 := hb.cell 0
                    have z1 := hb.cell 1
                    have z2 := hb.cell 2
                    have y0 := ER.out.cell 0
                    have y1 := ER.out.cell 1
                    have y2 := ER.out.cell 2
                    have fy0 := ER.out.frozen 0
                    have fy1 := ER.out.frozen 1
                    have fy2 := ER.out.frozen 2
                    simp at z0 z1 z2 y0 y1 y2
                    have HLL := Lib.hid hLL
                    have HEE := Lib.hid hEE
                    have HR3 := Lib.hid (((ER.out.set_ 0 (.bool s)).set_ 1 (.string ⟨LL.toArray⟩)).set_ 2 (.int .i64 EE))
                    have HBF := Lib.hid (((EU.out.setCell (p := ⟨w.heap.size, 0, none⟩) (Nat.le_refl _) (.bool s)).setCell (p := ⟨w.heap.size, 1, none⟩) (Nat.le_refl _) (.string ⟨LL.toArray⟩)).setCell (p := ⟨w.heap.size, 2, none⟩) (Nat.le_refl _) (.int .i64 EE))
                    clear hLL hEE hb
                    clear EX EA EB EL EH
                    go_upto_region 19 with fail
                    clear hcd t9
                    first | go_values | go_skip | go_guarded | go_step | go_upon | go_back
                    first | go_values | go_skip | go_guarded | go_step | go_upon | go_back
                    first | go_values | go_skip | go_guarded | go_step | go_upon | go_back
                    first | go_values | go_skip | go_guarded | go_step | go_upon | go_back
                    first | go_values | go_skip | go_guarded | go_step | go_upon | go_back
                    first | go_values | go_skip | go_guarded | go_step | go_upon | go_back
                    first | go_values | go_skip | go_guarded | go_step | go_upon | go_back
                    first | go_values | go_skip | go_guarded | go_step | go_upon | go_back
                    first | go_values | go_skip | go_guarded | go_step | go_upon | go_back
                    first | go_values | go_skip | go_guarded | go_step | go_upon | go_back
                    first | go_values | go_skip | go_guarded | go_step | go_upon | go_back
                    first | go_values | go_skip | go_guarded | go_step | go_upon | go_back
                    first | go_values | go_skip | go_guarded | go_step | go_upon | go_back
                    first | go_values | go_skip | go_guarded | go_step | go_upon | go_back
                    first | go_values | go_skip | go_guarded | go_step | go_upon | go_back
                    refine exit_then_ret ?_
                    show bodyPost Tryz.prog Tryz.f21 (DgPost w s k) Exit.ret _ _
                    have hr3 := HR3.out
                    have hbf := HBF.out
                    clear HR3 HBF
                    generalize ((World.setCell _ _ _).setCell _ _).setCell _ _ = Wf at hr3 hbf ⊢
                    have q0 : Wf.cell? ⟨w.heap.size, 0, none⟩ = some (.bool s) := hr3.cell 0
                    have q1 : Wf.cell? ⟨w.heap.size, 1, none⟩ = some (.string ⟨LL.toArray⟩) := hr3.cell 1
                    have q2 : Wf.cell? ⟨w.heap.size, 2, none⟩ = some (.int .i64 EE) := hr3.cell 2
                    refine bodyPost_ret (v := .tuple #[decV s LL EE, .int .i64 0]) (by simp [results, Tryz.results21, go_sem, q0, q1, q2]) rfl ⟨?_, hbf⟩
                    rw [HLL.out, HEE.out, (dL_len HDD.out).1, (dL_len HDD.out).2, HL.out, HX0.out]
                  · have hdd : digF k = some (n, false) := by rw [HSTEP.out, hd, hu, HNE.out.2.2 rfl, decide_eq_false hp]; rfl
                    have t2 : ((((sl[n - 1]'hk1).toNat : Int) - 48) % 2 == 0) = true := by have := HPAR.out; rw [beq_iff_eq]; omega
                    clear hd hu hp
                    go_wp2_with fail
                    refine (HZW.out _).mono ?_
                    rintro en wH ⟨rfl, hwH⟩
                    subst hwH
                    have HDD := Lib.hid hdd
                    clear hdd
                    obtain ⟨LL, hLL⟩ : ∃ LL, LL = cL l n false := ⟨_, rfl⟩
                    obtain ⟨EE, hEE⟩ : ∃ EE, EE = cE l ex n false := ⟨_, rfl⟩
                    have hb := EL.out
                    rw [← hLL, ← hEE] at hb
                    have z0 := hb.cell 0
                    have z1 := hb.cell 1
                    have z2 := hb.cell 2
                    have y0 := ER.out.cell 0
                    have y1 := ER.out.cell 1
                    have y2 := ER.out.cell 2
                    have fy0 := ER.out.frozen 0
                    have fy1 := ER.out.frozen 1
                    have fy2 := ER.out.frozen 2
                    simp at z0 z1 z2 y0 y1 y2
                    have HLL := Lib.hid hLL
                    have HEE := Lib.hid hEE
                    have HR3 := Lib.hid (((ER.out.set_ 0 (.bool s)).set_ 1 (.string ⟨LL.toArray⟩)).set_ 2 (.int .i64 EE))
                    have HBF := Lib.hid (((EU.out.setCell (p := ⟨w.heap.size, 0, none⟩) (Nat.le_refl _) (.bool s)).setCell (p := ⟨w.heap.size, 1, none⟩) (Nat.le_refl _) (.string ⟨LL.toArray⟩)).setCell (p := ⟨w.heap.size, 2, none⟩) (Nat.le_refl _) (.int .i64 EE))
                    clear hLL hEE hb
                    clear EX EA EB EL EH
                    go_upto_region 17 with fail
                    clear hcd t9
                    first | go_values | go_skip | go_guarded | go_step | go_upon | go_back
                    first | go_values | go_skip | go_guarded | go_step | go_upon | go_back
                    first | go_values | go_skip | go_guarded | go_step | go_upon | go_back
                    first | go_values | go_skip | go_guarded | go_step | go_upon | go_back
                    first | go_values | go_skip | go_guarded | go_step | go_upon | go_back
                    first | go_values | go_skip | go_guarded | go_step | go_upon | go_back
                    first | go_values | go_skip | go_guarded | go_step | go_upon | go_back
                    first | go_values | go_skip | go_guarded | go_step | go_upon | go_back
                    first | go_values | go_skip | go_guarded | go_step | go_upon | go_back
                    first | go_values | go_skip | go_guarded | go_step | go_upon | go_back
                    first | go_values | go_skip | go_guarded | go_step | go_upon | go_back
                    first | go_values | go_skip | go_guarded | go_step | go_upon | go_back
                    first | go_values | go_skip | go_guarded | go_step | go_upon | go_back
                    first | go_values | go_skip | go_guarded | go_step | go_upon | go_back
                    first | go_values | go_skip | go_guarded | go_step | go_upon | go_back
                    refine exit_then_ret ?_
                    show bodyPost Tryz.prog Tryz.f21 (DgPost w s k) Exit.ret _ _
                    have hr3 := HR3.out
                    have hbf := HBF.out
                    clear HR3 HBF
                    generalize ((World.setCell _ _ _).setCell _ _).setCell _ _ = Wf at hr3 hbf ⊢
                    have q0 : Wf.cell? ⟨w.heap.size, 0, none⟩ = some (.bool s) := hr3.cell 0
                    have q1 : Wf.cell? ⟨w.heap.size, 1, none⟩ = some (.string ⟨LL.toArray⟩) := hr3.cell 1
                    have q2 : Wf.cell? ⟨w.heap.size, 2, none⟩ = some (.int .i64 EE) := hr3.cell 2
                    refine bodyPost_ret (v := .tuple #[decV s LL EE, .int .i64 0]) (by simp [results, Tryz.results21, go_sem, q0, q1, q2]) rfl ⟨?_, hbf⟩
                    rw [HLL.out, HEE.out, (dL_len HDD.out).1, (dL_len HDD.out).2, HL.out, HX0.out]
                · have hdd : digF k = some (n, true) := by rw [HSTEP.out, hd, hu, HNE.out.2.1 rfl]; rfl
                  clear hd hu
                  go_wp2_with fail
                  refine (HZW.out _).mono ?_
                  rintro en wH ⟨rfl, hwH⟩
                  subst hwH
                  have HDD := Lib.hid hdd
                  clear hdd
                  obtain ⟨LL, hLL⟩ : ∃ LL, LL = cL l n true := ⟨_, rfl⟩
                  obtain ⟨EE, hEE⟩ : ∃ EE, EE = cE l ex n true := ⟨_, rfl⟩
                  have hb := EH.out
                  rw [← hLL, ← hEE] at hb
                  have z0 := hb.cell 0
                  have z1 := hb.cell 1
                  have z2 := hb.cell 2
                  have y0 := ER.out.cell 0
                  have y1 := ER.out.cell 1
                  have y2 := ER.out.cell 2
                  have fy0 := ER.out.frozen 0
                  have fy1 := ER.out.frozen 1
                  have fy2 := ER.out.frozen 2
                  simp at z0 z1 z2 y0 y1 y2
                  have HLL := Lib.hid hLL
                  have HEE := Lib.hid hEE
                  have HR3 := Lib.hid (((ER.out.set_ 0 (.bool s)).set_ 1 (.string ⟨LL.toArray⟩)).set_ 2 (.int .i64 EE))
                  have HBF := Lib.hid (((EU.out.setCell (p := ⟨w.heap.size, 0, none⟩) (Nat.le_refl _) (.bool s)).setCell (p := ⟨w.heap.size, 1, none⟩) (Nat.le_refl _) (.string ⟨LL.toArray⟩)).setCell (p := ⟨w.heap.size, 2, none⟩) (Nat.le_refl _) (.int .i64 EE))
                  clear hLL hEE hb
                  clear EX EA EB EL EH
                  go_upto_region 19 with fail
                  clear hcd t9
                  first | go_values | go_skip | go_guarded | go_step | go_upon | go_back
                  first | go_values | go_skip | go_guarded | go_step | go_upon | go_back
                  first | go_values | go_skip | go_guarded | go_step | go_upon | go_back
                  first | go_values | go_skip | go_guarded | go_step | go_upon | go_back
                  first | go_values | go_skip | go_guarded | go_step | go_upon | go_back
                  first | go_values | go_skip | go_guarded | go_step | go_upon | go_back
                  first | go_values | go_skip | go_guarded | go_step | go_upon | go_back
                  first | go_values | go_skip | go_guarded | go_step | go_upon | go_back
                  first | go_values | go_skip | go_guarded | go_step | go_upon | go_back
                  first | go_values | go_skip | go_guarded | go_step | go_upon | go_back
                  first | go_values | go_skip | go_guarded | go_step | go_upon | go_back
                  first | go_values | go_skip | go_guarded | go_step | go_upon | go_back
                  first | go_values | go_skip | go_guarded | go_step | go_upon | go_back
                  first | go_values | go_skip | go_guarded | go_step | go_upon | go_back
                  first | go_values | go_skip | go_guarded | go_step | go_upon | go_back
                  refine exit_then_ret ?_
                  show bodyPost Tryz.prog Tryz.f21 (DgPost w s k) Exit.ret _ _
                  have hr3 := HR3.out
                  have hbf := HBF.out
                  clear HR3 HBF
                  generalize ((World.setCell _ _ _).setCell _ _).setCell _ _ = Wf at hr3 hbf ⊢
                  have q0 : Wf.cell? ⟨w.heap.size, 0, none⟩ = some (.bool s) := hr3.cell 0
                  have q1 : Wf.cell? ⟨w.heap.size, 1, none⟩ = some (.string ⟨LL.toArray⟩) := hr3.cell 1
                  have q2 : Wf.cell? ⟨w.heap.size, 2, none⟩ = some (.int .i64 EE) := hr3.cell 2
                  refine bodyPost_ret (v := .tuple #[decV s LL EE, .int .i64 0]) (by simp [results, Tryz.results21, go_sem, q0, q1, q2]) rfl ⟨?_, hbf⟩
                  rw [HLL.out, HEE.out, (dL_len HDD.out).1, (dL_len HDD.out).2, HL.out, HX0.out]
    · have hnone : digF k = none := by rw [← HP.out, show l.length - n = 0 by have := HSZ.out; omega]; rfl
      obtain ⟨q1, q2⟩ := dL_none hnone
      have HE1 := Lib.hid q1
      have HE2 := Lib.hid q2
      have t1 : decide ((n : Int) < (sl.size : Int)) = false := decide_eq_false (by omega)
      have y0 := HR.out.cell 0
      have y1 := HR.out.cell 1
      have y2 := HR.out.cell 2
      have fy0 := HR.out.frozen 0
      have fy1 := HR.out.frozen 1
      have fy2 := HR.out.frozen 2
      simp at y0 y1 y2
      have HR3 := Lib.hid (((HR.out.set_ 0 (.bool s)).set_ 1 (.string sl)).set_ 2 (.int .i64 ex))
      have HBF := Lib.hid (((BR_.out.setCell (p := ⟨w.heap.size, 0, none⟩) (Nat.le_refl _) (.bool s)).setCell (p := ⟨w.heap.size, 1, none⟩) (Nat.le_refl _) (.string sl)).setCell (p := ⟨w.heap.size, 2, none⟩) (Nat.le_refl _) (.int .i64 ex))
      clear hnone q1 q2
      go_wp2_with fail
      have hr3 := HR3.out
      have hbf := HBF.out
      clear HR3 HBF
      generalize ((World.setCell _ _ _).setCell _ _).setCell _ _ = Wf at hr3 hbf ⊢
      have q0 : Wf.cell? ⟨w.heap.size, 0, none⟩ = some (.bool s) := hr3.cell 0
      have q1 : Wf.cell? ⟨w.heap.size, 1, none⟩ = some (.string sl) := hr3.cell 1
      have q2 : Wf.cell? ⟨w.heap.size, 2, none⟩ = some (.int .i64 ex) := hr3.cell 2
      refine bodyPost_ret (v := .tuple #[.agg #[.bool s, .string sl, .int .i64 ex], .int .i64 0]) (by simp [results, Tryz.results21, go_sem, q0, q1, q2]) rfl ⟨?_, hbf⟩
      rw [HE1.out, HE2.out, ← HL.out, ← HX0.out, HSL.out]
set_option maxHeartbeats 8000000 in
set_option maxRecDepth 100000 in
theorem rdigits_zero (s : Bool) (w : World) : Calls Tryz.prog 21 #[.float .f64 (double.word s 0)] w (DgPost w s 0) := by
  have hl0 : exL 0 = [] := ex_nil.2 rfl
  have he0 : exE 0 = 0 := by
    rcases ex_form zero_inf with ⟨_, h⟩ | ⟨h, _⟩
    · exact h
    · exact absurd hl0 h
  have hn : digF 0 = none := by
    show pickF _ _ ((exL 0).length - 1) 1 = none
    rw [hl0]; rfl
  obtain ⟨q1, q2⟩ := dL_none hn
  have HEX := fun W => rexw_w s 0 W zero_inf
  rw [hl0, he0] at HEX
  have HE := Lib.hid HEX
  have HV := Lib.hid (show decV s (dL 0) (dE 0) = decV s [] 0 by rw [q1, q2, hl0, he0])
  obtain ⟨x, hxx⟩ : ∃ x, x = double.word s 0 := ⟨_, rfl⟩
  rw [← hxx] at HE ⊢
  have hb0 := Blk.new w 32 #[.bool false, .string ⟨#[]⟩, .int .i64 0]
  have HB0 := Lib.hid hb0
  clear hl0 he0 hn q1 q2 HEX hxx hb0
  go_enter Tryz.func21, Tryz.ntmps21
  go_wp2_with fail
  refine (HE.out _).mono ?_
  rintro en w1 ⟨rfl, bE⟩
  have HR1 := Lib.hid (HB0.out.below bE HB0.out.lt)
  have B1 := Lib.hid (bthen ((Below.refl _ w).alloc (Nat.le_refl _) (.cells #[.bool false, .string ⟨#[]⟩, .int .i64 0] 32)) bE)
  have r0 := HR1.out.cell 0
  have r1 := HR1.out.cell 1
  have r2 := HR1.out.cell 2
  simp at r0 r1 r2
  have fr0 := HR1.out.frozen 0
  have fr1 := HR1.out.frozen 1
  have fr2 := HR1.out.frozen 2
  have hlt := HR1.out.lt
  have HR3 := Lib.hid ((((HR1.out.set_ 0 (.bool s)).set_ 1 (.string ⟨#[]⟩)).set_ 2 (.int .i64 0)).alloc (.cells #[.bool s, .string ⟨#[]⟩, .int .i64 0] 32))
  have HBF := Lib.hid ((((B1.out.setCell (p := ⟨w.heap.size, 0, none⟩) (Nat.le_refl _) (.bool s)).setCell (p := ⟨w.heap.size, 1, none⟩) (Nat.le_refl _) (.string ⟨#[]⟩)).setCell (p := ⟨w.heap.size, 2, none⟩) (Nat.le_refl _) (.int .i64 0)).alloc (by have := B1.out.size; simpa [World.setCell] using this) (.cells #[.bool s, .string ⟨#[]⟩, .int .i64 0] 32))
  clear bE
  go_wp2_with fail
  have hr3 := HR3.out
  have hbf := HBF.out
  clear HR3 HBF
  generalize (((w1.setCell _ _).setCell _ _).setCell _ _).alloc _ = Wf at hr3 hbf ⊢
  have q0 : Wf.cell? ⟨w.heap.size, 0, none⟩ = some (.bool s) := hr3.cell 0
  have q1 : Wf.cell? ⟨w.heap.size, 1, none⟩ = some (.string ⟨#[]⟩) := hr3.cell 1
  have q2 : Wf.cell? ⟨w.heap.size, 2, none⟩ = some (.int .i64 0) := hr3.cell 2
  refine bodyPost_ret (v := .tuple #[decV s [] 0, .int .i64 0]) (by simp [results, Tryz.results21, go_sem, q0, q1, q2]) rfl ⟨?_, hbf⟩
  rw [HV.out]
set_option maxHeartbeats 8000000 in
set_option maxRecDepth 100000 in
theorem rdigits_no (s : Bool) (k : Nat) (w : World) (h : double.infRung ≤ k) (h' : k < double.signWeight) :
    Calls Tryz.prog 21 #[.float .f64 (double.word s k)] w (NoPost w) := by
  have HE := Lib.hid (fun W => rexact_no s k W h h')
  have hb0 := Blk.new w 32 #[.bool false, .string ⟨#[]⟩, .int .i64 0]
  have HB0 := Lib.hid hb0
  obtain ⟨x, hxx⟩ : ∃ x, x = double.word s k := ⟨_, rfl⟩
  rw [← hxx] at HE ⊢
  clear hb0 hxx
  go_enter Tryz.func21, Tryz.ntmps21
  go_wp2_with fail
  refine (HE.out _).mono ?_
  unfold NoPost decV
  rintro en w1 ⟨rfl, bE⟩
  have HR1 := Lib.hid (HB0.out.below bE HB0.out.lt)
  have B1 := Lib.hid (bthen ((Below.refl _ w).alloc (Nat.le_refl _) (.cells #[.bool false, .string ⟨#[]⟩, .int .i64 0] 32)) bE)
  have r0 := HR1.out.cell 0
  have r1 := HR1.out.cell 1
  have r2 := HR1.out.cell 2
  simp at r0 r1 r2
  have fr0 := HR1.out.frozen 0
  have fr1 := HR1.out.frozen 1
  have fr2 := HR1.out.frozen 2
  have hlt := HR1.out.lt
  have HR3 := Lib.hid ((((HR1.out.set_ 0 (.bool false)).set_ 1 (.string ⟨#[]⟩)).set_ 2 (.int .i64 0)).alloc (.cells #[.bool false, .string ⟨#[]⟩, .int .i64 0] 32))
  have HBF := Lib.hid ((((B1.out.setCell (p := ⟨w.heap.size, 0, none⟩) (Nat.le_refl _) (.bool false)).setCell (p := ⟨w.heap.size, 1, none⟩) (Nat.le_refl _) (.string ⟨#[]⟩)).setCell (p := ⟨w.heap.size, 2, none⟩) (Nat.le_refl _) (.int .i64 0)).alloc (by have := B1.out.size; simpa [World.setCell] using this) (.cells #[.bool false, .string ⟨#[]⟩, .int .i64 0] 32))
  clear bE
  go_wp2_with fail
  have hr3 := HR3.out
  have hbf := HBF.out
  clear HR3 HBF
  generalize (((w1.setCell _ _).setCell _ _).setCell _ _).alloc _ = Wf at hr3 hbf ⊢
  have q0 : Wf.cell? ⟨w.heap.size, 0, none⟩ = some (.bool false) := hr3.cell 0
  have q1 : Wf.cell? ⟨w.heap.size, 1, none⟩ = some (.string ⟨#[]⟩) := hr3.cell 1
  have q2 : Wf.cell? ⟨w.heap.size, 2, none⟩ = some (.int .i64 0) := hr3.cell 2
  exact bodyPost_ret (v := .tuple #[decV false [] 0, .int .i64 130]) (by simp [results, Tryz.results21, go_sem, q0, q1, q2]) rfl ⟨rfl, hbf⟩
theorem rdigits_yes (s : Bool) (k : Nat) (w : World) (hk : k < double.infRung) :
    Calls Tryz.prog 21 #[.float .f64 (double.word s k)] w (DgPost w s k) := by
  rcases Nat.eq_zero_or_pos k with rfl | h0
  · exact rdigits_zero s w
  · exact rdigits_pos s k w hk h0
end Go.Proofs.YtabmalnandbocaaGreatDoor.Num
namespace Go.Proofs.YtabmalnandbocaaGreatDoor.Num
set_option exponentiation.threshold 3000
set_option linter.unusedVariables false
set_option linter.unusedSimpArgs false
set_option exponentiation.threshold 3000
open Go.Proofs.YtabmalnandbocaaGreatDoor.Mem Go.Proofs.YtabmalnandbocaaGreatDoor.Own Go.Proofs.YtabmalnandbocaaGreatDoor.Big
open Ieee (double single)
theorem ex_at {k z : Nat} {L : List UInt8} (h : Told (xN (Rung.mant 52 k) (-1074 + (Rung.expo 52 k : Nat))) L z) (h0 : L ≠ []) : exL k = L ∧ exE k = xE (-1074 + (Rung.expo 52 k : Nat)) + (z : Nat) := by
  obtain ⟨h1, h2⟩ := h.tl
  exact ⟨h1.symm, by show te _ _ = _; rw [← h2, if_neg h0]⟩
/-- A candidate whose digits are known. -/
theorem cand_at {l : List UInt8} {e : Int} {n z : Nat} {u : Bool} {L : List UInt8} (h : Told (cN l n u) L z) (h0 : L ≠ []) : cL l n u = L ∧ cE l e n u = e + ((l.length - n : Nat) : Int) + (z : Nat) := by
  obtain ⟨h1, h2⟩ := h.tl
  exact ⟨h1.symm, by show te _ _ = _; rw [← h2, if_neg h0]⟩
theorem tenth_told : Told (xN (Rung.mant 52 4591870180066957722) (-1074 + (Rung.expo 52 4591870180066957722 : Nat))) [49, 48, 48, 48, 48, 48, 48, 48, 48, 48, 48, 48, 48, 48, 48, 48, 48, 53, 53, 53, 49, 49, 49, 53, 49, 50, 51, 49, 50, 53, 55, 56, 50, 55, 48, 50, 49, 49, 56, 49, 53, 56, 51, 52, 48, 52, 53, 52, 49, 48, 49, 53, 54, 50, 53] 1 :=
  ⟨by unfold isDigs; decide, fun c hc => by cases hc; decide, fun c hc => by cases hc; decide, by decide +kernel⟩
theorem tenth_near : near64 [49] (-1) = 4591870180066957722 := by decide +kernel
theorem tenth : dL 4591870180066957722 = [49] ∧ dE 4591870180066957722 = -1 := by
  obtain ⟨h1, h2⟩ := ex_at tenth_told (by decide)
  have h3 : exE 4591870180066957722 = -55 := by rw [h2]; decide +kernel
  have hnr : nrF [49, 48, 48, 48, 48, 48, 48, 48, 48, 48, 48, 48, 48, 48, 48, 48, 48, 53, 53, 53, 49, 49, 49, 53, 49, 50, 51, 49, 50, 53, 55, 56, 50, 55, 48, 50, 49, 49, 56, 49, 53, 56, 51, 52, 48, 52, 53, 52, 49, 48, 49, 53, 54, 50, 53] 1 = false := by decide +kernel
  have hc := cand_at (l := [49, 48, 48, 48, 48, 48, 48, 48, 48, 48, 48, 48, 48, 48, 48, 48, 48, 53, 53, 53, 49, 49, 49, 53, 49, 50, 51, 49, 50, 53, 55, 56, 50, 55, 48, 50, 49, 49, 56, 49, 53, 56, 51, 52, 48, 52, 53, 52, 49, 48, 49, 53, 54, 50, 53]) (e := -55) (n := 1) (u := false) (L := [49]) (z := 0) ⟨by unfold isDigs; decide, fun c hc => by cases hc; decide, fun c hc => by cases hc; decide, by decide +kernel⟩ (by decide)
  have hd : digF 4591870180066957722 = some (1, false) := by
    unfold digF
    rw [h1, show ([49, 48, 48, 48, 48, 48, 48, 48, 48, 48, 48, 48, 48, 48, 48, 48, 48, 53, 53, 53, 49, 49, 49, 53, 49, 50, 51, 49, 50, 53, 55, 56, 50, 55, 48, 50, 49, 49, 56, 49, 53, 56, 51, 52, 48, 52, 53, 52, 49, 48, 49, 53, 54, 50, 53] : List UInt8).length - 1 = 53 + 1 from rfl]
    unfold pickF
    rw [hnr, if_pos]
    unfold okF
    rw [h1, h3, hc.1, hc.2]
    exact decide_eq_true tenth_near
  rw [(dL_len hd).1, (dL_len hd).2, h1, h3, hc.1, hc.2]
  exact ⟨rfl, rfl⟩
end Go.Proofs.YtabmalnandbocaaGreatDoor.Num
