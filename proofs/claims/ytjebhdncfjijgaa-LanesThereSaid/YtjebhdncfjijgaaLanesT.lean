/- The laws of layer 1 that hold the program against the reference: their walks. -/
import Derived.Test.YtjebhdncfjijgaaLanesR
import Derived.Test.YtjebhdncfjijgaaLanesB
import Derived.Test.YtjebhdncfjijgaaLanesQ
namespace Go.Proofs.Ytjebhdncfjijgaa.Lanes
set_option linter.unusedVariables false
set_option linter.unusedSimpArgs false
open Go.RowKit Go.Proofs.Ytjebhdncfjijgaa.Bytes

/-- What each question comes to, of whatever word. -/
theorem mid_any (x lo hi : Nat) (hx : x < 18446744073709551616) (hlo : lo < 256) (hhi : hi < 256) : midI x lo hi = (bvd (isMid x lo hi) 8 : Nat) := by
  obtain ⟨a0, a1, a2, a3, a4, a5, a6, a7, rfl, ha⟩ := as_pk x hx
  rw [mid_pk lo hi ha hlo hhi, bvd_low]
  congr 1
  exact low_congr 8 fun i hi => by rw [pick_byte ha i hi, isMid]
theorem same_any (x c : Nat) (hx : x < 18446744073709551616) (hc : c < 256) : topsI (sameI x c) = (bvd (fun i => ((byteN x i : Int) == (c : Int))) 8 : Nat) := by
  obtain ⟨a0, a1, a2, a3, a4, a5, a6, a7, rfl, ha⟩ := as_pk x hx
  rw [same_pk c ha hc, bvd_low]
  congr 1
  exact low_congr 8 fun i hi => by rw [pick_byte ha i hi, Bool.eq_iff_iff]; simp; omega
theorem below_any (x c : Nat) (hx : x < 18446744073709551616) (hc : c < 256) : topsI (lessI x (fillI c)) = (bvd (fun i => decide (byteN x i < c)) 8 : Nat) := by
  obtain ⟨a0, a1, a2, a3, a4, a5, a6, a7, rfl, ha⟩ := as_pk x hx
  rw [fill_pk c hc, below_pk ha ⟨hc, hc, hc, hc, hc, hc, hc, hc⟩, bvd_low]
  congr 1
  refine low_congr 8 fun i hi => ?_
  rw [pick_byte ha i hi]
  have : i = 0 ∨ i = 1 ∨ i = 2 ∨ i = 3 ∨ i = 4 ∨ i = 5 ∨ i = 6 ∨ i = 7 := by omega
  rcases this with rfl | rfl | rfl | rfl | rfl | rfl | rfl | rfl <;> rfl
theorem high_any (x : Nat) (hx : x < 18446744073709551616) : topsI x = (bvd (fun i => decide ((byteN x i : Int) ≥ 128)) 8 : Nat) := by
  obtain ⟨a0, a1, a2, a3, a4, a5, a6, a7, rfl, ha⟩ := as_pk x hx
  rw [tops_pk ha, bvd_low]
  congr 1
  exact low_congr 8 fun i hi => by rw [pick_byte ha i hi, Bool.eq_iff_iff]; simp; omega
theorem less_any (x : Nat) (c : Int) : low (lessB x c) 8 = bvd (fun i => decide (sgn (byteN x i) < c)) 8 := by
  rw [bvd_low]
  exact low_congr 8 fun i _ => lessB_sgn x c i
theorem fill_any (c : Nat) (hc : c < 256) : fillI c = (pk c c c c c c c c : Nat) := fill_pk c hc
theorem sum_any (x : Nat) (hx : x < 18446744073709551616) : sumI x = ((byteN x 0 + byteN x 1 + byteN x 2 + byteN x 3 + byteN x 4 + byteN x 5 + byteN x 6 + byteN x 7 : Nat) : Int) := by
  obtain ⟨a0, a1, a2, a3, a4, a5, a6, a7, rfl, ha⟩ := as_pk x hx
  obtain ⟨e0, e1, e2, e3, e4, e5, e6, e7⟩ := byte_pk ha
  rw [sum_pk ha, e0, e1, e2, e3, e4, e5, e6, e7]

theorem between_law (x lo hi : Nat) (hx : x < 18446744073709551616) (hlo : lo < 256) (hhi : hi < 256) (w : World) : Calls Try.prog 4 #[.int .u64 x, .int .u8 lo, .int .u8 hi] w fun e w' => e = .returned (.bool true) ∧ Below w.heap.size w w' := by
  have HM := Lib.hid (mid_any x lo hi hx hlo hhi)
  go_enter Try.func4, Try.ntmps4
  go_wp2_with fail
  refine (between_w _ _ _ _).mono ?_; rintro e w' ⟨rfl, rfl⟩
  rw [HM.out]
  go_wp2_with fail
  refine (rbetween_w x lo hi hx hlo hhi _).mono ?_; rintro e w' ⟨rfl, hb⟩
  go_wp2_with fail
  go_ret
  exact ⟨by simp, hb⟩
theorem equals_law (x c : Nat) (hx : x < 18446744073709551616) (hc : c < 256) (w : World) : Calls Try.prog 5 #[.int .u64 x, .int .u8 c] w fun e w' => e = .returned (.bool true) ∧ Below w.heap.size w w' := by
  have HM := Lib.hid (same_any x c hx hc)
  have HB := Lib.hid (below_any x c hx hc)
  go_enter Try.func5, Try.ntmps5
  go_wp2_with fail
  refine (equal_w _ _ _).mono ?_; rintro e w' ⟨rfl, rfl⟩
  rw [HM.out]
  go_wp2_with fail
  refine (requal_w x c hx hc _).mono ?_; rintro e w' ⟨rfl, hb⟩
  go_wp2_with fail
  refine (blw_w _ _ _).mono ?_; rintro e w' ⟨rfl, rfl⟩
  rw [HB.out]
  go_wp2_with fail
  refine (rbelow_w x c hx hc _).mono ?_; rintro e w' ⟨rfl, hb2⟩
  go_wp2_with fail
  go_ret
  exact ⟨by simp, hb.trans (hb2.mono hb.size)⟩
theorem less_law (x : Nat) (c : Int) (hx : x < 18446744073709551616) (hc0 : -128 ≤ c) (hc1 : c < 128) (w : World) : Calls Try.prog 7 #[.int .u64 x, .int .i8 c] w fun e w' => e = .returned (.bool true) ∧ Below w.heap.size w w' := by
  have HM := Lib.hid (less_any x c)
  have HB := Lib.hid (high_any x hx)
  go_enter Try.func7, Try.ntmps7
  go_wp2_with fail
  refine (less_w x hx c _).mono ?_; rintro e w1 ⟨rfl, hb1⟩
  rw [HM.out]
  go_wp2_with fail
  refine (rless_w x hx c hc0 hc1 _).mono ?_; rintro e w2 ⟨rfl, hb2⟩
  go_wp2_with fail
  refine (high_w _ _).mono ?_; rintro e w3 ⟨rfl, rfl⟩
  rw [HB.out]
  go_wp2_with fail
  refine (rhigh_w x hx _).mono ?_; rintro e w3 ⟨rfl, hb3⟩
  go_wp2_with fail
  go_ret
  exact ⟨by simp, (hb1.trans (hb2.mono hb1.size)).trans (hb3.mono (Nat.le_trans hb1.size hb2.size))⟩
theorem sums_law (x : Nat) (hx : x < 18446744073709551616) (w : World) : Calls Try.prog 3 #[.int .u64 x] w fun e w' => e = .returned (.bool true) ∧ Below w.heap.size w w' := by
  have HM := Lib.hid (sum_any x hx)
  have HB := Lib.hid (sum_any 513 (by omega))
  have e : ((byteN 513 0 + byteN 513 1 + byteN 513 2 + byteN 513 3 + byteN 513 4 + byteN 513 5 + byteN 513 6 + byteN 513 7 : Nat) : Int) = 3 := by decide
  have E := Lib.hid e; clear e
  go_enter Try.func3, Try.ntmps3
  go_wp2_with fail
  refine (sum_w _ _).mono ?_; rintro e w1 ⟨rfl, rfl⟩
  rw [HM.out]
  go_wp2_with fail
  refine (rsum_w x hx _).mono ?_; rintro e w2 ⟨rfl, rfl⟩
  go_wp2_with fail
  refine (sum_w _ _).mono ?_; rintro e w1 ⟨rfl, rfl⟩
  rw [show (513 : Int) = ((513 : Nat) : Int) from rfl, HB.out, E.out]
  go_wp2_with fail
  go_ret
  exact ⟨rfl, Below.refl _ _⟩
theorem awake_any (w : World) : Calls Try.prog 29 #[] w fun e w' => e = .returned (.bool true) ∧ Below w.heap.size w w' := by
  have h1 : loadI 1 2 0 0 0 0 0 255 = 18374686479671624193 := (load_pk (a0 := 1) (a1 := 2) (a2 := 0) (a3 := 0) (a4 := 0) (a5 := 0) (a6 := 0) (a7 := 255) (by decide)).trans (by decide)
  have h2 : topsI (sameI 2449995580684894242 34) = 161 := (same_any 2449995580684894242 34 (by omega) (by omega)).trans (by decide)
  have h3 : sumI 513 = 3 := (sum_any 513 (by omega)).trans (by decide)
  have H1 := Lib.hid h1; have H2 := Lib.hid h2; have H3 := Lib.hid h3; clear h1 h2 h3
  go_enter Try.func29, Try.ntmps29
  go_wp2_with fail
  refine (load_w 1 2 0 0 0 0 0 255 _).mono ?_; rintro e w1 ⟨rfl, hb⟩
  rw [H1.out]
  go_wp2_with fail
  refine (equal_w _ _ _).mono ?_; rintro e w2 ⟨rfl, rfl⟩
  rw [H2.out]
  go_wp2_with fail
  refine (sum_w _ _).mono ?_; rintro e w2 ⟨rfl, rfl⟩
  rw [H3.out]
  go_wp2_with fail
  go_ret
  exact ⟨rfl, hb⟩
theorem adds_law (x c : Nat) (hx : x < 18446744073709551616) (hc : c < 256) (w : World) : Calls Try.prog 8 #[.int .u64 x, .int .u8 c] w fun e w' => e = .returned (.bool true) ∧ Below w.heap.size w w' := by
  have B0 := byteN_lt x 0; have B1 := byteN_lt x 1; have B2 := byteN_lt x 2; have B3 := byteN_lt x 3; have B4 := byteN_lt x 4; have B5 := byteN_lt x 5; have B6 := byteN_lt x 6; have B7 := byteN_lt x 7
  have HM := Lib.hid (sum_any x hx)
  have HF := Lib.hid (fill_any c hc)
  have hcs : c < 256 ∧ c < 256 ∧ c < 256 ∧ c < 256 ∧ c < 256 ∧ c < 256 ∧ c < 256 ∧ c < 256 := ⟨hc, hc, hc, hc, hc, hc, hc, hc⟩
  have hs : sumI (pk c c c c c c c c : Nat) = 8 * (c : Int) := by rw [sum_pk hcs]; omega
  have he : topsI (sameI (pk c c c c c c c c : Nat) c) = 255 := by
    rw [same_pk c hcs hc]
    have : low (fun i => decide (pick c c c c c c c c i = c)) 8 = 255 := by
      rw [low_congr (q := fun _ => true) 8 (fun i hi => by
        have : i = 0 ∨ i = 1 ∨ i = 2 ∨ i = 3 ∨ i = 4 ∨ i = 5 ∨ i = 6 ∨ i = 7 := by omega
        rcases this with rfl | rfl | rfl | rfl | rfl | rfl | rfl | rfl <;> simp [pick])]
      rfl
    rw [this]; rfl
  have HS := Lib.hid hs; have HE := Lib.hid he
  clear hs he hcs
  go_enter Try.func8, Try.ntmps8
  go_wp2_with fail
  refine (awake_any _).mono ?_; rintro e w1 ⟨rfl, hb1⟩
  go_wp2_with fail
  refine (store_w x hx _).mono ?_; rintro e w2 ⟨rfl, hb2⟩
  obtain ⟨hc2, hf2⟩ := bcell hb2
  have hz := hb1.size; have hz2 := hb2.size
  go_wp2_with fail
  refine wp_loop_rounds 9 ?_
  iterate 8 (rw [rounds_succ]; go_wp2_with fail)
  rw [rounds_succ]; go_wp2_with fail
  refine (sum_w _ _).mono ?_; rintro e w3 ⟨rfl, rfl⟩
  rw [HM.out]
  go_wp2_with fail
  refine (fill_w _ _).mono ?_; rintro e w3 ⟨rfl, rfl⟩
  rw [HF.out]
  go_wp2_with fail
  refine (sum_w _ _).mono ?_; rintro e w3 ⟨rfl, rfl⟩
  rw [HS.out]
  go_wp2_with fail
  refine (fill_w _ _).mono ?_; rintro e w3 ⟨rfl, rfl⟩
  rw [HF.out]
  go_wp2_with fail
  refine (equal_w _ _ _).mono ?_; rintro e w3 ⟨rfl, rfl⟩
  rw [HE.out]
  go_wp2_with fail
  go_ret
  refine ⟨rfl, ?_⟩
  exact (hb1.trans (hb2.mono hb1.size)).trans (((Below.refl _ _).alloc (Nat.le_refl _) _).mono (Nat.le_trans hb1.size hb2.size))
end Go.Proofs.Ytjebhdncfjijgaa.Lanes
