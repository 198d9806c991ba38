/- The laws of layer 1 without the reference: their walks. -/
import Derived.Test.YtjebhdncfjijgaaLanesT
namespace Go.Proofs.Ytjebhdncfjijgaa.Lanes
set_option linter.unusedVariables false
set_option linter.unusedSimpArgs false
open Go.RowKit Go.Proofs.Ytjebhdncfjijgaa.Bytes

theorem same_low (x c : Nat) (hx : x < 18446744073709551616) (hc : c < 256) : topsI (sameI x c) = (low (fun i => decide (byteN x i = c)) 8 : Nat) := by
  obtain ⟨a0, a1, a2, a3, a4, a5, a6, a7, rfl, ha⟩ := as_pk x hx
  rw [same_pk c ha hc]
  congr 1
  exact low_congr 8 fun i hi => by rw [pick_byte ha i hi]
theorem below_low (x c : Nat) (hx : x < 18446744073709551616) (hc : c < 256) : topsI (lessI x (fillI c)) = (low (fun i => decide (byteN x i < c)) 8 : Nat) := by
  rw [below_any x c hx hc, bvd_low]
theorem mid_low (x lo hi : Nat) (hx : x < 18446744073709551616) (hlo : lo < 256) (hhi : hi < 256) : midI x lo hi = (low (isMid x lo hi) 8 : Nat) := by
  rw [mid_any x lo hi hx hlo hhi, bvd_low]
theorem high_low (x : Nat) (hx : x < 18446744073709551616) : topsI x = (low (fun i => decide (128 ≤ byteN x i)) 8 : Nat) := by
  obtain ⟨a0, a1, a2, a3, a4, a5, a6, a7, rfl, ha⟩ := as_pk x hx
  rw [tops_pk ha]
  congr 1
  exact low_congr 8 fun i hi => by rw [pick_byte ha i hi]
theorem low_none (p : Nat → Bool) (h : ∀ i, i < 8 → p i = false) : low p 8 = 0 := by
  rw [low_congr (q := fun _ => false) 8 h]; rfl
theorem low_all (p : Nat → Bool) (h : ∀ i, i < 8 → p i = true) : low p 8 = 255 := by
  rw [low_congr (q := fun _ => true) 8 h]; rfl
/-- The word with 128 put to each byte. -/
theorem turned_byte (x : Nat) (hx : x < 18446744073709551616) : ∃ y : Nat, y < 18446744073709551616 ∧ bits .xor .u64 x (fillI 128) = (y : Int) ∧ ∀ i, i < 8 → byteN y i = byteN x i ^^^ 128 := by
  obtain ⟨a0, a1, a2, a3, a4, a5, a6, a7, rfl, ha⟩ := as_pk x hx
  have h128 : 128 < 256 ∧ 128 < 256 ∧ 128 < 256 ∧ 128 < 256 ∧ 128 < 256 ∧ 128 < 256 ∧ 128 < 256 ∧ 128 < 256 := by decide
  have X : ∀ x : Nat, x < 256 → x ^^^ 128 < 256 := fun x h => xor_lt x 128 h (by decide)
  obtain ⟨h0, h1, h2, h3, h4, h5, h6, h7⟩ := id ha
  have hy : (a0 ^^^ 128) < 256 ∧ (a1 ^^^ 128) < 256 ∧ (a2 ^^^ 128) < 256 ∧ (a3 ^^^ 128) < 256 ∧ (a4 ^^^ 128) < 256 ∧ (a5 ^^^ 128) < 256 ∧ (a6 ^^^ 128) < 256 ∧ (a7 ^^^ 128) < 256 := ⟨X _ h0, X _ h1, X _ h2, X _ h3, X _ h4, X _ h5, X _ h6, X _ h7⟩
  refine ⟨_, pk_lt hy, ?_, fun i hi => ?_⟩
  · rw [show (128 : Int) = ((128 : Nat) : Int) from rfl, fill_pk 128 (by decide), xor_pk ha h128]
  · rw [← pick_byte hy i hi, ← pick_byte ha i hi]
    have : i = 0 ∨ i = 1 ∨ i = 2 ∨ i = 3 ∨ i = 4 ∨ i = 5 ∨ i = 6 ∨ i = 7 := by omega
    rcases this with rfl | rfl | rfl | rfl | rfl | rfl | rfl | rfl <;> rfl
theorem sgn_turn (a c : Nat) (ha : a < 256) (hc : c < 256) : decide (sgn a < IntKind.i8.wrap c) = decide (a ^^^ 128 < c ^^^ 128) := by
  have key : ∀ a : Fin 256, a.1 ^^^ 128 = if a.1 < 128 then a.1 + 128 else a.1 - 128 := by decide +kernel
  have e1 := key ⟨a, ha⟩
  have e2 := key ⟨c, hc⟩
  simp only at e1 e2
  rw [e1, e2]
  have e3 : IntKind.i8.wrap c = sgn c := by
    simp only [IntKind.wrap, IntKind.bits, IntKind.signed, sgn]
    simp
    omega
  rw [e3]
  unfold sgn
  rw [decide_eq_decide]
  split <;> split <;> split <;> split <;> omega
theorem less_low (x c : Nat) (hx : x < 18446744073709551616) (hc : c < 256) (y : Nat) (hy : ∀ i, i < 8 → byteN y i = byteN x i ^^^ 128) : low (lessB x (IntKind.i8.wrap c)) 8 = low (fun i => decide (byteN y i < c ^^^ 128)) 8 :=
  low_congr 8 fun i hi => by rw [lessB_sgn, sgn_turn _ _ (byteN_lt x i) hc, hy i hi]

theorem and_z (p : Nat → Bool) : bits .and .u8 (low p 8 : Nat) 0 = 0 := by
  have := low_and p (fun _ => false)
  rw [low_none (fun i => p i && false) (fun i _ => by simp), low_none (fun _ => false) (fun _ _ => rfl)] at this
  exact this
theorem or_z (p : Nat → Bool) : bits .or .u8 (low p 8 : Nat) 0 = (low p 8 : Nat) := by
  have := low_orr p (fun _ => false)
  rw [low_congr (p := fun i => p i || false) (q := p) 8 (fun i _ => by simp), low_none (fun _ => false) (fun _ _ => rfl)] at this
  exact this
set_option maxRecDepth 100000 in
theorem parts_law (x lo hi : Nat) (hx : x < 18446744073709551616) (hlo : lo < 256) (hhi : hi < 256) (w : World) : Calls Try.prog 10 #[.int .u64 x, .int .u8 lo, .int .u8 hi] w fun e w' => e = .returned (.bool true) ∧ Below w.heap.size w w' := by
  obtain ⟨y, hy, ey, hby⟩ := turned_byte x hx
  have H1 := Lib.hid (same_low x lo hx hlo)
  have H2 := Lib.hid (below_low x lo hx hlo)
  have H3 := Lib.hid (mid_low x (lo + 1) 255 hx)
  have H4 := Lib.hid ey
  have H5 := Lib.hid (congrArg (Nat.cast (R := Int)) (less_low x lo hx hlo y hby))
  have hl' : bits .xor .u8 lo 128 = ((lo ^^^ 128 : Nat) : Int) := u8_xor_nat lo 128 (by omega) (by omega)
  have H6 := Lib.hid hl'
  have H7 := Lib.hid (below_low y (lo ^^^ 128) hy (xor_lt _ _ hlo (by decide)))
  have H8 := Lib.hid (high_low x hx)
  have h9 : topsI (lessI x (fillI 128)) = (low (fun i => decide (byteN x i < 128)) 8 : Nat) := below_low x 128 hx (by decide)
  have H9 := Lib.hid h9
  have h10 : bits .xor .u8 IntKind.u8.max (low (fun i => decide (byteN x i < 128)) 8 : Nat) = (low (fun i => decide (128 ≤ byteN x i)) 8 : Nat) := by
    rw [low_not]; congr 1
    exact low_congr 8 fun i _ => by rw [Bool.eq_iff_iff]; simp
  have H10 := Lib.hid h10
  have h11 : ((low (lessB x 0) 8 : Nat) : Int) = (low (fun i => decide (128 ≤ byteN x i)) 8 : Nat) := congrArg _ <| low_congr 8 fun i _ => by
    have := byteN_lt x i
    rw [lessB_sgn, sgn, decide_eq_decide]
    split <;> omega
  have H11 := Lib.hid h11
  have H12 := Lib.hid (mid_low x lo hi hx hlo hhi)
  have H13 := Lib.hid (below_low x hi hx hhi)
  have H14 := Lib.hid (same_low x hi hx hhi)
  have h15 : bits .andNot .u8 (bits .or .u8 (low (fun i => decide (byteN x i < hi)) 8 : Nat) (low (fun i => decide (byteN x i = hi)) 8 : Nat)) (low (fun i => decide (byteN x i < lo)) 8 : Nat) = (low (isMid x lo hi) 8 : Nat) := by
    rw [low_orr, low_andNot]; congr 1
    exact low_congr 8 fun i _ => by rw [Bool.eq_iff_iff]; simp [isMid]; omega
  have H15 := Lib.hid h15
  clear h9 h10 h11 h15
  clear ey hl'
  have hzz := fun (p q : Nat → Bool) => low_and p q
  have HA := Lib.hid hzz
  clear hzz
  by_cases hlt : lo < 255
  · have hd : decide ((lo : Int) < 255) = true := by simp; omega
    have hm := H3.out (by omega) (by omega)
    rw [show ((lo + 1 : Nat) : Int) = (lo : Int) + 1 by omega, show ((255 : Nat) : Int) = 255 from rfl] at hm
    have H3' := Lib.hid hm
    have k1 : bits .and .u8 (low (fun i => decide (byteN x i = lo)) 8 : Nat) (low (fun i => decide (byteN x i < lo)) 8 : Nat) = 0 := by
      rw [low_and, low_none _ (fun i _ => by simp; omega)]; rfl
    have k2 : bits .and .u8 (low (fun i => decide (byteN x i = lo)) 8 : Nat) (low (isMid x (lo + 1) 255) 8 : Nat) = 0 := by
      rw [low_and, low_none _ (fun i _ => by simp [isMid]; omega)]; rfl
    have k3 : bits .and .u8 (low (fun i => decide (byteN x i < lo)) 8 : Nat) (low (isMid x (lo + 1) 255) 8 : Nat) = 0 := by
      rw [low_and, low_none _ (fun i _ => by simp [isMid]; omega)]; rfl
    have k4 : bits .or .u8 (bits .or .u8 (low (fun i => decide (byteN x i = lo)) 8 : Nat) (low (fun i => decide (byteN x i < lo)) 8 : Nat)) (low (isMid x (lo + 1) 255) 8 : Nat) = 255 := by
      rw [low_orr, low_orr, low_all _ (fun i _ => by have := byteN_lt x i; simp [isMid]; omega)]; rfl
    have K1 := Lib.hid k1; have K2 := Lib.hid k2; have K3 := Lib.hid k3; have K4 := Lib.hid k4
    clear k1 k2 k3 k4 hm
    have hinc : ((lo : Int) + 1) % 256 = (lo : Int) + 1 := by omega
    have HI := Lib.hid hinc
    have hhid := Lib.hid hlt
    clear hlt hinc
    generalize ((low (fun i => decide (byteN x i = lo)) 8 : Nat) : Int) = E at *
    generalize ((low (fun i => decide (byteN x i < lo)) 8 : Nat) : Int) = B at *
    generalize ((low (isMid x (lo + 1) 255) 8 : Nat) : Int) = M at *
    generalize ((low (fun i => decide (byteN x i = hi)) 8 : Nat) : Int) = E2 at *
    generalize ((low (fun i => decide (byteN x i < hi)) 8 : Nat) : Int) = B2 at *
    generalize ((low (isMid x lo hi) 8 : Nat) : Int) = M2 at *
    generalize ((low (fun i => decide (byteN x i < 128)) 8 : Nat) : Int) = B3 at *
    generalize ((low (fun i => decide (128 ≤ byteN x i)) 8 : Nat) : Int) = T at *
    generalize ((low (fun i => decide (byteN y i < lo ^^^ 128)) 8 : Nat) : Int) = Z at *
    have k10 : (T != bits BinOp.xor IntKind.u8 IntKind.u8.max B3) = false := by rw [H10.out]; simp
    have ksg : IntKind.u8.signed = false := rfl
    have k15 := H15.out
    have k1 := K1.out; have k2 := K2.out; have k3 := K3.out; have k4 := K4.out
    go_enter Try.func10, Try.ntmps10
    go_wp2_with fail
    refine (awake_any _).mono ?_; rintro e w1 ⟨rfl, hb1⟩
    go_wp2_with fail
    refine (equal_w _ _ _).mono ?_; rintro e w2 ⟨rfl, rfl⟩
    rw [H1.out]
    go_wp2_with fail
    refine (blw_w _ _ _).mono ?_; rintro e w2 ⟨rfl, rfl⟩
    rw [H2.out]
    go_wp2_with fail
    refine (between_w _ _ _ _).mono ?_; rintro e w2 ⟨rfl, rfl⟩
    rw [HI.out, H3'.out]
    go_wp2_with fail
    refine (less_w x hx _ _).mono ?_; rintro e w2 ⟨rfl, hb2⟩
    rw [H5.out]
    go_wp2_with fail
    refine (fill_w _ _).mono ?_; rintro e w3 ⟨rfl, rfl⟩
    go_wp2_with fail
    rw [H4.out, H6.out]
    refine (blw_w _ _ _).mono ?_; rintro e w3 ⟨rfl, rfl⟩
    rw [H7.out]
    go_wp2_with fail
    refine (high_w _ _).mono ?_; rintro e w3 ⟨rfl, rfl⟩
    rw [H8.out]
    go_wp2_with fail
    refine (blw_w _ _ _).mono ?_; rintro e w3 ⟨rfl, rfl⟩
    rw [H9.out]
    go_wp2_with fail
    refine (high_w _ _).mono ?_; rintro e w3 ⟨rfl, rfl⟩
    rw [H8.out]
    go_wp2_with fail
    refine (less_w x hx _ _).mono ?_; rintro e w3 ⟨rfl, hb3⟩
    rw [H11.out]
    go_wp2_with fail
    refine (between_w _ _ _ _).mono ?_; rintro e w4 ⟨rfl, rfl⟩
    rw [H12.out]
    go_wp2_with fail
    refine (blw_w _ _ _).mono ?_; rintro e w4 ⟨rfl, rfl⟩
    rw [H13.out]
    go_wp2_with fail
    refine (equal_w _ _ _).mono ?_; rintro e w4 ⟨rfl, rfl⟩
    rw [H14.out]
    go_wp2_with fail
    go_ret
    exact ⟨rfl, (hb1.trans (hb2.mono hb1.size)).trans (hb3.mono (Nat.le_trans hb1.size hb2.size))⟩
  · have hd : decide ((lo : Int) < 255) = false := by simp; omega
    have k1 : bits .and .u8 (low (fun i => decide (byteN x i = lo)) 8 : Nat) (low (fun i => decide (byteN x i < lo)) 8 : Nat) = 0 := by
      rw [low_and, low_none _ (fun i _ => by simp; omega)]; rfl
    have k2 : bits .and .u8 (low (fun i => decide (byteN x i = lo)) 8 : Nat) 0 = 0 := and_z _
    have k3 : bits .and .u8 (low (fun i => decide (byteN x i < lo)) 8 : Nat) 0 = 0 := and_z _
    have k4 : bits .or .u8 (bits .or .u8 (low (fun i => decide (byteN x i = lo)) 8 : Nat) (low (fun i => decide (byteN x i < lo)) 8 : Nat)) 0 = 255 := by
      rw [low_orr, or_z, low_all _ (fun i _ => by have := byteN_lt x i; simp; omega)]; rfl
    have K1 := Lib.hid k1; have K2 := Lib.hid k2; have K3 := Lib.hid k3; have K4 := Lib.hid k4
    clear k1 k2 k3 k4
    have hhid := Lib.hid hlt
    clear hlt
    generalize ((low (fun i => decide (byteN x i = lo)) 8 : Nat) : Int) = E at *
    generalize ((low (fun i => decide (byteN x i < lo)) 8 : Nat) : Int) = B at *
    generalize ((low (fun i => decide (byteN x i = hi)) 8 : Nat) : Int) = E2 at *
    generalize ((low (fun i => decide (byteN x i < hi)) 8 : Nat) : Int) = B2 at *
    generalize ((low (isMid x lo hi) 8 : Nat) : Int) = M2 at *
    generalize ((low (fun i => decide (byteN x i < 128)) 8 : Nat) : Int) = B3 at *
    generalize ((low (fun i => decide (128 ≤ byteN x i)) 8 : Nat) : Int) = T at *
    generalize ((low (fun i => decide (byteN y i < lo ^^^ 128)) 8 : Nat) : Int) = Z at *
    have k10 : (T != bits BinOp.xor IntKind.u8 IntKind.u8.max B3) = false := by rw [H10.out]; simp
    have ksg : IntKind.u8.signed = false := rfl
    have k15 := H15.out
    have k1 := K1.out; have k2 := K2.out; have k3 := K3.out; have k4 := K4.out
    go_enter Try.func10, Try.ntmps10
    go_wp2_with fail
    refine (awake_any _).mono ?_; rintro e w1 ⟨rfl, hb1⟩
    go_wp2_with fail
    refine (equal_w _ _ _).mono ?_; rintro e w2 ⟨rfl, rfl⟩
    rw [H1.out]
    go_wp2_with fail
    refine (blw_w _ _ _).mono ?_; rintro e w2 ⟨rfl, rfl⟩
    rw [H2.out]
    go_wp2_with fail
    refine (less_w x hx _ _).mono ?_; rintro e w2 ⟨rfl, hb2⟩
    rw [H5.out]
    go_wp2_with fail
    refine (fill_w _ _).mono ?_; rintro e w3 ⟨rfl, rfl⟩
    go_wp2_with fail
    rw [H4.out, H6.out]
    refine (blw_w _ _ _).mono ?_; rintro e w3 ⟨rfl, rfl⟩
    rw [H7.out]
    go_wp2_with fail
    refine (high_w _ _).mono ?_; rintro e w3 ⟨rfl, rfl⟩
    rw [H8.out]
    go_wp2_with fail
    refine (blw_w _ _ _).mono ?_; rintro e w3 ⟨rfl, rfl⟩
    rw [H9.out]
    go_wp2_with fail
    refine (high_w _ _).mono ?_; rintro e w3 ⟨rfl, rfl⟩
    rw [H8.out]
    go_wp2_with fail
    refine (less_w x hx _ _).mono ?_; rintro e w3 ⟨rfl, hb3⟩
    rw [H11.out]
    go_wp2_with fail
    refine (between_w _ _ _ _).mono ?_; rintro e w4 ⟨rfl, rfl⟩
    rw [H12.out]
    go_wp2_with fail
    refine (blw_w _ _ _).mono ?_; rintro e w4 ⟨rfl, rfl⟩
    rw [H13.out]
    go_wp2_with fail
    refine (equal_w _ _ _).mono ?_; rintro e w4 ⟨rfl, rfl⟩
    rw [H14.out]
    go_wp2_with fail
    go_ret
    exact ⟨rfl, (hb1.trans (hb2.mono hb1.size)).trans (hb3.mono (Nat.le_trans hb1.size hb2.size))⟩
end Go.Proofs.Ytjebhdncfjijgaa.Lanes
