/- Chapters 13 and 14 (floats, shortest): contracts of the reference's Nearest and of Of. No conditions beside those that each contract names. -/
import Derived.Test.YtabmalnandbocaaDoorMF
import Derived.Test.YtabmalnandbocaaDoorMH
namespace Go.Proofs.YtabmalnandbocaaDoor.Num
set_option exponentiation.threshold 3000
set_option linter.unusedVariables false
set_option linter.unusedSimpArgs false
open Go.RowKit Go.Proofs.YtabmalnandbocaaDoor.Mem Go.Proofs.YtabmalnandbocaaDoor.Own Go.Proofs.YtabmalnandbocaaDoor.Big

/-- What Nearest comes to. -/
def RnPost (w : World) (b K over : Nat) (l : List UInt8) (e : Int) (en : Ending) (w' : World) : Prop :=
  ∃ n, en = .returned (.int .u64 (n : Nat)) ∧ Below w.heap.size w w' ∧
    (l = [] ∨ (l.length : Int) + e < -400 → n = 0) ∧ (l ≠ [] → 400 < (l.length : Int) + e → n = over) ∧
    (l ≠ [] → -400 ≤ (l.length : Int) + e → (l.length : Int) + e ≤ 400 → ∀ R, Rung.Near b (rN l e * 2 ^ K) (rD e) R → n = min R over)
def BisI (b N Q over low high : Nat) : Prop := Rung.W b low * Q ≤ N ∧ (high = over + 1 ∨ N < Rung.W b high * Q)
def GePost (w : World) (x y : Nat) (e : Ending) (w' : World) : Prop := (∃ z : Int, e = .returned (.int .i64 z) ∧ (y ≤ x → 0 ≤ z) ∧ (x < y → z < 0)) ∧ Below w.heap.size w w'
theorem cmpI_ge {x y : Nat} : (y ≤ x → 0 ≤ cmpI x y) ∧ (x < y → cmpI x y < 0) := by
  unfold cmpI
  constructor <;> intro h <;> split <;> (try split) <;> omega
theorem agn_ge (b K mid : Nat) (neg : Bool) (s : ByteArray) (e v : Int) (w : World) (hv : v = -(K : Int) + (Rung.expo b mid : Nat)) (hs : isDigs s.data.toList) (hsm : s.size < 1000000000000) (he1 : -2000000000 < e) (he2 : e < 2000000000) (hb : b ≤ 52) (hK : K ≤ 1074) (hx : Rung.expo b mid ≤ 4000) :
    Calls Tryd.prog 70 #[.agg #[.bool neg, .string s, .int .i64 e], .int .u64 (Rung.mant b mid : Nat), .int .i64 v] w (GePost w (rN s.data.toList e * 2 ^ K) (Rung.W b mid * rD e)) := by
  have hm := Nat.lt_of_lt_of_le (Rung.mant_lt b mid) (Nat.pow_le_pow_right (by decide) (show b + 1 ≤ 53 by omega))
  refine (against_w neg s e v (Rung.mant b mid) w hs hsm (by omega) he1 he2 (by omega) (by omega)).mono fun en w' h => ?_
  obtain ⟨rfl, hb'⟩ := h
  refine ⟨⟨_, rfl, ?_⟩, hb'⟩
  rw [agn_cmp s.data.toList e hv]
  exact cmpI_ge
def HalfPost (w : World) (x y : Nat) (e : Ending) (w' : World) : Prop := e = .returned (.int .i64 (cmpI x y)) ∧ Below w.heap.size w w'
theorem agn_half (b K low : Nat) (neg : Bool) (s : ByteArray) (e v : Int) (m : Int) (w : World) (hv : v = -(K : Int) + (Rung.expo b low : Nat) - 1) (hm : m = 2 * (Rung.mant b low : Nat) + 1) (hs : isDigs s.data.toList) (hsm : s.size < 1000000000000) (he1 : -2000000000 < e) (he2 : e < 2000000000) (hb : b ≤ 52) (hK : K ≤ 1074) (hx : Rung.expo b low ≤ 4000) :
    Calls Tryd.prog 70 #[.agg #[.bool neg, .string s, .int .i64 e], .int .u64 m, .int .i64 v] w (HalfPost w (2 * (rN s.data.toList e * 2 ^ K)) (Rung.mid2 b low * rD e)) := by
  have h1 := Nat.lt_of_lt_of_le (Rung.mant_lt b low) (Nat.pow_le_pow_right (by decide) (show b + 1 ≤ 53 by omega))
  obtain rfl : m = ((2 * Rung.mant b low + 1 : Nat) : Int) := by omega
  refine (against_w neg s e v (2 * Rung.mant b low + 1) w hs hsm (by omega) he1 he2 (by omega) (by omega)).mono fun en w' h => ?_
  obtain ⟨rfl, hb'⟩ := h
  refine ⟨?_, hb'⟩
  rw [agn_cmp s.data.toList e (K := K + 1) (a := Rung.expo b low) (by omega), show rN s.data.toList e * 2 ^ (K + 1) = 2 * (rN s.data.toList e * 2 ^ K) by rw [Nat.pow_succ]; grind]
  rfl
set_option maxHeartbeats 8000000 in
set_option maxRecDepth 100000 in
theorem rnear_out_52 (neg : Bool) (s : ByteArray) (e : Int) (w : World) (hsm : s.size < 140737488355328) (he1 : -1073741824 ≤ e) (he2 : e ≤ 1073741824) (hx : s.data.toList = [] ∨ (s.data.toList.length : Int) + e < -400 ∨ 400 < (s.data.toList.length : Int) + e) :
    Calls Tryd.prog 45 #[.agg #[.int .i64 52, .int .i64 (-1074), .int .u64 9218868437227405312], .agg #[.bool neg, .string s, .int .i64 e]] w (RnPost w 52 1074 9218868437227405312 s.data.toList e) := by
  have hlen : s.data.toList.length = s.size := by simp
  by_cases h0 : s.data.toList = []
  · obtain rfl : s = ⟨#[]⟩ := by
      rcases s with ⟨⟨l⟩⟩
      simp at h0
      rw [h0]
    clear hx h0 hlen
    go_enter Tryd.func45, Tryd.ntmps45
    go_wp2_with fail
    go_ret
    exact ⟨0, rfl, ((Below.refl _ w).alloc (Nat.le_refl _) _).alloc (by simp) _, fun _ => rfl, fun h => absurd rfl h, fun h => absurd rfl h⟩
  · have hne : s.toList.isEmpty = false := str_ne0 h0
    have H0 := Lib.hid h0
    by_cases h1 : (s.data.toList.length : Int) + e < -400
    · have HP := Lib.hid (show ∀ w' : World, Below w.heap.size w w' → RnPost w 52 1074 9218868437227405312 s.data.toList e (.returned (.int .u64 0)) w' from fun w' hb => ⟨0, rfl, hb, fun _ => rfl, fun _ h => absurd h (by omega), fun _ h => absurd h (by omega)⟩)
      rw [hlen] at h1
      have t1 : decide ((s.size : Int) + e < -400) = true := decide_eq_true h1
      clear hx h0 hlen
      go_enter Tryd.func45, Tryd.ntmps45
      go_wp2_with fail
      go_ret
      exact HP.out _ (((Below.refl _ w).alloc (Nat.le_refl _) _).alloc (by simp) _)
    · have h2 : 400 < (s.data.toList.length : Int) + e := by
        rcases hx with h | h | h
        · exact absurd h h0
        · exact absurd h h1
        · exact h
      have HP := Lib.hid (show ∀ w' : World, Below w.heap.size w w' → RnPost w 52 1074 9218868437227405312 s.data.toList e (.returned (.int .u64 9218868437227405312)) w' from fun w' hb => ⟨9218868437227405312, rfl, hb, fun h => by rcases h with h | h; exact absurd h H0.out; omega, fun _ _ => rfl, fun _ _ h => absurd h (by omega)⟩)
      rw [hlen] at h1 h2
      have t1 : decide ((s.size : Int) + e < -400) = false := decide_eq_false h1
      have t2 : decide (400 < (s.size : Int) + e) = true := decide_eq_true h2
      clear hx h0 hlen
      go_enter Tryd.func45, Tryd.ntmps45
      go_wp2_with fail
      go_ret
      exact HP.out _ (((Below.refl _ w).alloc (Nat.le_refl _) _).alloc (by simp) _)
set_option maxHeartbeats 8000000 in
set_option maxRecDepth 100000 in
theorem rnear_in_52 (neg : Bool) (s : ByteArray) (e : Int) (w : World) (hs : isDigs s.data.toList) (he1 : -1073741824 ≤ e) (he2 : e ≤ 1073741824) (h0 : s.data.toList ≠ []) (h1 : ¬ (s.data.toList.length : Int) + e < -400) (h2 : ¬ 400 < (s.data.toList.length : Int) + e) (hW : Rung.W 52 0 * rD e ≤ rN s.data.toList e * 2 ^ 1074) :
    Calls Tryd.prog 45 #[.agg #[.int .i64 52, .int .i64 (-1074), .int .u64 9218868437227405312], .agg #[.bool neg, .string s, .int .i64 e]] w (RnPost w 52 1074 9218868437227405312 s.data.toList e) := by
  have hlen : s.data.toList.length = s.size := by simp
  have hne : s.toList.isEmpty = false := str_ne0 h0
  have H0 := Lib.hid h0
  have HP := Lib.hid (show ∀ (w' : World) (n : Nat), (∀ R, Rung.Near 52 (rN s.data.toList e * 2 ^ 1074) (rD e) R → n = min R 9218868437227405312) → Below w.heap.size w w' → RnPost w 52 1074 9218868437227405312 s.data.toList e (.returned (.int .u64 (n : Nat))) w' from fun w' n hn hb => ⟨n, rfl, hb, fun h => by rcases h with h | h; exact absurd h H0.out; exact absurd h h1, fun _ h => absurd h h2, fun _ _ _ => hn⟩)
  rw [hlen] at h1 h2
  have t1 : decide ((s.size : Int) + e < -400) = false := decide_eq_false h1
  have t2 : decide (400 < (s.size : Int) + e) = false := decide_eq_false h2
  have HAG := Lib.hid (fun (W : World) (e2 : Int) (m : Nat) (hm : m < 18446744073709551616) (hf1 : -2000000000 < e2) (hf2 : e2 < 2000000000) => against_w neg s e e2 m W hs (by omega) hm (by omega) (by omega) hf1 hf2)
  have HW0 := Lib.hid hW
  have hb0 := Blk.new w 60 #[.int .i64 52, .int .i64 (-1074), .int .u64 9218868437227405312]
  clear hlen h0 hW
  go_enter Tryd.func45, Tryd.ntmps45
  go_wp2_with fail
  go_quiet (fail)
  go_wp2_with fail
  go_loopw [5, 6] (fun lo hi wl => ∃ low high : Nat, lo = .int .u64 (low : Nat) ∧ hi = .int .u64 (high : Nat) ∧ low < high ∧ high ≤ 9218868437227405312 + 1 ∧ BisI 52 (rN s.data.toList e * 2 ^ 1074) (rD e) 9218868437227405312 low high ∧
    Blk wl w.heap.size 60 #[.int .i64 52, .int .i64 (-1074), .int .u64 9218868437227405312] ∧ Blk wl (w.heap.size + 1) 26 #[.bool neg, .string s, .int .i64 e] ∧ Below w.heap.size w wl) (fun lo hi _ => (intOf hi - intOf lo).toNat)
  case atStart => exact ⟨0, 9218868437227405312 + 1, rfl, rfl, by decide, Nat.le_refl _, ⟨HW0.out, .inl rfl⟩, (hb0.alloc _).drewN _, (by have := Blk.new (w.alloc (.cells #[.int .i64 52, .int .i64 (-1074), .int .u64 9218868437227405312] 60)) 26 #[.bool neg, .string s, .int .i64 e]; simp at this; exact this.drewN _), bdrewN (((Below.refl _ w).alloc (Nat.le_refl _) _).alloc (by simp) _) _⟩
  case round =>
    obtain ⟨low, high, rfl, rfl, hlh, hho, hbis, hkb, hdb, hbel⟩ := hrel
    have d0 := hkb.cell 0
    have d1 := hkb.cell 1
    have d2 := hkb.cell 2
    have d3 := hdb.cell 0
    have d4 := hdb.cell 1
    have d5 := hdb.cell 2
    simp at d0 d1 d2 d3 d4 d5
    have HK := Lib.hid hkb
    have HD := Lib.hid hdb
    have HB := Lib.hid hbel
    have HBIS := Lib.hid hbis
    clear hkb hdb hbel hbis hb0
    by_cases hgo : low + 1 < high
    · obtain ⟨mid, hmid⟩ : ∃ mid : Nat, mid = low + (high - low) / 2 := ⟨_, rfl⟩
      have hm1 : (low : Int) + ((high : Int) - (low : Int)) / 2 = (mid : Int) := by omega
      have hml : low < mid := by omega
      have hmh : mid < high := by omega
      have t3 : decide ((1 : Int) < (high : Int) - (low : Int)) = true := by simp; omega
      clear hmid
      go_wp2_with fail
      refine (at_52 9218868437227405312 mid wr (by omega)).mono ?_
      rintro en w1 ⟨rfl, b1⟩
      have hx : Rung.expo 52 mid ≤ 4000 := by unfold Rung.expo; omega
      have d3 := (b1.cell (p := ⟨w.heap.size + 1, 0, none⟩) HD.out.lt).trans d3
      have d4 := (b1.cell (p := ⟨w.heap.size + 1, 1, none⟩) HD.out.lt).trans d4
      have d5 := (b1.cell (p := ⟨w.heap.size + 1, 2, none⟩) HD.out.lt).trans d5
      have B1 := Lib.hid b1
      clear b1
      go_wp2_with fail
      refine (agn_ge 52 1074 mid neg s e _ w1 (by first | rfl | simp) hs (by omega) (by omega) (by omega) (by decide) (by decide) hx).mono ?_
      rintro en w2 ⟨⟨z, rfl, hz1, hz2⟩, b2⟩
      have B2 := Lib.hid (bthen B1.out b2)
      clear b2
      rcases Nat.lt_or_ge (rN s.data.toList e * 2 ^ 1074) (Rung.W 52 mid * rD e) with hcm | hcm
      · have t4 : decide ((0 : Int) ≤ z) = false := decide_eq_false (by have := hz2 hcm; omega)
        have HCM := Lib.hid hcm
        clear hz1 hz2 hcm
        go_wp2_with fail
        go_roundw
        case rel => exact ⟨low, mid, rfl, rfl, hml, by omega, ⟨HBIS.out.1, .inr HCM.out⟩, HK.out.below B2.out HK.out.lt, HD.out.below B2.out HD.out.lt, bthen HB.out B2.out⟩
        case measure => simp [intOf]; omega
      · have t4 : decide ((0 : Int) ≤ z) = true := decide_eq_true (hz1 hcm)
        have HCM := Lib.hid hcm
        clear hz1 hz2 hcm
        go_wp2_with fail
        go_roundw
        case rel => exact ⟨mid, high, rfl, rfl, hmh, hho, ⟨HCM.out, HBIS.out.2⟩, HK.out.below B2.out HK.out.lt, HD.out.below B2.out HD.out.lt, bthen HB.out B2.out⟩
        case measure => simp [intOf]; omega
    · obtain rfl : high = low + 1 := by omega
      have t3 : decide ((1 : Int) < ((low + 1 : Nat) : Int) - (low : Int)) = false := by simp; omega
      have HN := Lib.hid (fun (R : Nat) (hR : Rung.Near 52 (rN s.data.toList e * 2 ^ 1074) (rD e) R) => ref_near (over := 9218868437227405312) (rD_pos e) hR HBIS.out.1 (by rcases HBIS.out.2 with h | h; exact .inl (by omega); exact .inr h) (by omega : low ≤ 9218868437227405312))
      by_cases htop : low = 9218868437227405312
      · have HT := Lib.hid (show ∀ R, Rung.Near 52 (rN s.data.toList e * 2 ^ 1074) (rD e) R → low = min R 9218868437227405312 from fun R hR => by have := HN.out R hR; rwa [if_pos htop] at this)
        clear HN
        subst htop
        go_wp2_with fail
        go_ret
        exact HP.out _ _ HT.out HB.out
      · have t5 : ((low : Int) == 9218868437227405312) = false := by rw [beq_eq_false_iff_ne]; omega
        go_wp2_with fail
        refine (at_52 9218868437227405312 low wr (by omega)).mono ?_
        rintro en w1 ⟨rfl, b1⟩
        have hx : Rung.expo 52 low ≤ 4000 := by unfold Rung.expo; omega
        have hmn := Nat.lt_of_lt_of_le (Rung.mant_lt 52 low) (show 2 ^ (52 + 1) ≤ 9007199254740992 by decide)
        have d3 := (b1.cell (p := ⟨w.heap.size + 1, 0, none⟩) HD.out.lt).trans d3
        have d4 := (b1.cell (p := ⟨w.heap.size + 1, 1, none⟩) HD.out.lt).trans d4
        have d5 := (b1.cell (p := ⟨w.heap.size + 1, 2, none⟩) HD.out.lt).trans d5
        have B1 := Lib.hid (bthen HB.out b1)
        clear b1
        go_wp2_with fail
        have HU0 := Lib.hid (show ∀ R, Rung.Near 52 (rN s.data.toList e * 2 ^ 1074) (rD e) R → Rung.up 52 (rN s.data.toList e * 2 ^ 1074) (rD e) low = min R 9218868437227405312 from fun R hR => by have := HN.out R hR; rwa [if_neg htop] at this)
        clear HN
        have c1 : Rung.mid2 52 low * rD e < 2 * (rN s.data.toList e * 2 ^ 1074) ∨ (Rung.mid2 52 low * rD e = 2 * (rN s.data.toList e * 2 ^ 1074) ∧ low % 2 = 1) ∨ (Rung.mid2 52 low * rD e = 2 * (rN s.data.toList e * 2 ^ 1074) ∧ low % 2 ≠ 1) ∨ 2 * (rN s.data.toList e * 2 ^ 1074) < Rung.mid2 52 low * rD e := by omega
        rcases c1 with c1 | ⟨c1, c2⟩ | ⟨c1, c2⟩ | c1
        · have HZ := Lib.hid (show cmpI (2 * (rN s.data.toList e * 2 ^ 1074)) (Rung.mid2 52 low * rD e) = 1 by unfold cmpI; rw [if_neg (by omega), if_neg (by omega)])
          have HU := Lib.hid (show ∀ R, Rung.Near 52 (rN s.data.toList e * 2 ^ 1074) (rD e) R → low + 1 = min R 9218868437227405312 from fun R hR => by rw [← HU0.out R hR]; unfold Rung.up; rw [if_pos (.inl c1)])
          clear c1
          refine (agn_half 52 1074 low neg s e _ _ w1 (by first | rfl | simp) (by first | rfl | simp) hs (by omega) (by omega) (by omega) (by decide) (by decide) hx).mono ?_
          rintro en w2 ⟨hen, b2⟩
          rw [HZ.out] at hen
          subst hen
          have B2 := Lib.hid (bthen B1.out b2)
          clear b2
          go_wp2_with fail
          go_ret
          exact HP.out _ (low + 1) HU.out B2.out
        · have HZ := Lib.hid (show cmpI (2 * (rN s.data.toList e * 2 ^ 1074)) (Rung.mid2 52 low * rD e) = 0 by unfold cmpI; rw [if_neg (by omega), if_pos (by omega)])
          have HU := Lib.hid (show ∀ R, Rung.Near 52 (rN s.data.toList e * 2 ^ 1074) (rD e) R → low + 1 = min R 9218868437227405312 from fun R hR => by rw [← HU0.out R hR]; unfold Rung.up; rw [if_pos (.inr ⟨c1, c2⟩)])
          have t6 : ((low : Int) % 2 == 1) = true := by rw [beq_iff_eq]; omega
          clear c1 c2
          refine (agn_half 52 1074 low neg s e _ _ w1 (by first | rfl | simp) (by first | rfl | simp) hs (by omega) (by omega) (by omega) (by decide) (by decide) hx).mono ?_
          rintro en w2 ⟨hen, b2⟩
          rw [HZ.out] at hen
          subst hen
          have B2 := Lib.hid (bthen B1.out b2)
          clear b2
          go_wp2_with fail
          go_ret
          exact HP.out _ (low + 1) HU.out B2.out
        · have HZ := Lib.hid (show cmpI (2 * (rN s.data.toList e * 2 ^ 1074)) (Rung.mid2 52 low * rD e) = 0 by unfold cmpI; rw [if_neg (by omega), if_pos (by omega)])
          have HU := Lib.hid (show ∀ R, Rung.Near 52 (rN s.data.toList e * 2 ^ 1074) (rD e) R → low = min R 9218868437227405312 from fun R hR => by rw [← HU0.out R hR]; unfold Rung.up; rw [if_neg (by omega)])
          have t6 : ((low : Int) % 2 == 1) = false := by rw [beq_eq_false_iff_ne]; omega
          clear c1 c2
          refine (agn_half 52 1074 low neg s e _ _ w1 (by first | rfl | simp) (by first | rfl | simp) hs (by omega) (by omega) (by omega) (by decide) (by decide) hx).mono ?_
          rintro en w2 ⟨hen, b2⟩
          rw [HZ.out] at hen
          subst hen
          have B2 := Lib.hid (bthen B1.out b2)
          clear b2
          go_wp2_with fail
          go_ret
          exact HP.out _ low HU.out B2.out
        · have HZ := Lib.hid (show cmpI (2 * (rN s.data.toList e * 2 ^ 1074)) (Rung.mid2 52 low * rD e) = -1 by unfold cmpI; rw [if_pos (by omega)])
          have HU := Lib.hid (show ∀ R, Rung.Near 52 (rN s.data.toList e * 2 ^ 1074) (rD e) R → low = min R 9218868437227405312 from fun R hR => by rw [← HU0.out R hR]; unfold Rung.up; rw [if_neg (by omega)])
          clear c1
          refine (agn_half 52 1074 low neg s e _ _ w1 (by first | rfl | simp) (by first | rfl | simp) hs (by omega) (by omega) (by omega) (by decide) (by decide) hx).mono ?_
          rintro en w2 ⟨hen, b2⟩
          rw [HZ.out] at hen
          subst hen
          have B2 := Lib.hid (bthen B1.out b2)
          clear b2
          go_wp2_with fail
          go_ret
          exact HP.out _ low HU.out B2.out
set_option maxHeartbeats 8000000 in
set_option maxRecDepth 100000 in
theorem rnear_out_23 (neg : Bool) (s : ByteArray) (e : Int) (w : World) (hsm : s.size < 140737488355328) (he1 : -1073741824 ≤ e) (he2 : e ≤ 1073741824) (hx : s.data.toList = [] ∨ (s.data.toList.length : Int) + e < -400 ∨ 400 < (s.data.toList.length : Int) + e) :
    Calls Tryd.prog 45 #[.agg #[.int .i64 23, .int .i64 (-149), .int .u64 2139095040], .agg #[.bool neg, .string s, .int .i64 e]] w (RnPost w 23 149 2139095040 s.data.toList e) := by
  have hlen : s.data.toList.length = s.size := by simp
  by_cases h0 : s.data.toList = []
  · obtain rfl : s = ⟨#[]⟩ := by
      rcases s with ⟨⟨l⟩⟩
      simp at h0
      rw [h0]
    clear hx h0 hlen
    go_enter Tryd.func45, Tryd.ntmps45
    go_wp2_with fail
    go_ret
    exact ⟨0, rfl, ((Below.refl _ w).alloc (Nat.le_refl _) _).alloc (by simp) _, fun _ => rfl, fun h => absurd rfl h, fun h => absurd rfl h⟩
  · have hne : s.toList.isEmpty = false := str_ne0 h0
    have H0 := Lib.hid h0
    by_cases h1 : (s.data.toList.length : Int) + e < -400
    · have HP := Lib.hid (show ∀ w' : World, Below w.heap.size w w' → RnPost w 23 149 2139095040 s.data.toList e (.returned (.int .u64 0)) w' from fun w' hb => ⟨0, rfl, hb, fun _ => rfl, fun _ h => absurd h (by omega), fun _ h => absurd h (by omega)⟩)
      rw [hlen] at h1
      have t1 : decide ((s.size : Int) + e < -400) = true := decide_eq_true h1
      clear hx h0 hlen
      go_enter Tryd.func45, Tryd.ntmps45
      go_wp2_with fail
      go_ret
      exact HP.out _ (((Below.refl _ w).alloc (Nat.le_refl _) _).alloc (by simp) _)
    · have h2 : 400 < (s.data.toList.length : Int) + e := by
        rcases hx with h | h | h
        · exact absurd h h0
        · exact absurd h h1
        · exact h
      have HP := Lib.hid (show ∀ w' : World, Below w.heap.size w w' → RnPost w 23 149 2139095040 s.data.toList e (.returned (.int .u64 2139095040)) w' from fun w' hb => ⟨2139095040, rfl, hb, fun h => by rcases h with h | h; exact absurd h H0.out; omega, fun _ _ => rfl, fun _ _ h => absurd h (by omega)⟩)
      rw [hlen] at h1 h2
      have t1 : decide ((s.size : Int) + e < -400) = false := decide_eq_false h1
      have t2 : decide (400 < (s.size : Int) + e) = true := decide_eq_true h2
      clear hx h0 hlen
      go_enter Tryd.func45, Tryd.ntmps45
      go_wp2_with fail
      go_ret
      exact HP.out _ (((Below.refl _ w).alloc (Nat.le_refl _) _).alloc (by simp) _)
set_option maxHeartbeats 8000000 in
set_option maxRecDepth 100000 in
theorem rnear_in_23 (neg : Bool) (s : ByteArray) (e : Int) (w : World) (hs : isDigs s.data.toList) (he1 : -1073741824 ≤ e) (he2 : e ≤ 1073741824) (h0 : s.data.toList ≠ []) (h1 : ¬ (s.data.toList.length : Int) + e < -400) (h2 : ¬ 400 < (s.data.toList.length : Int) + e) (hW : Rung.W 23 0 * rD e ≤ rN s.data.toList e * 2 ^ 149) :
    Calls Tryd.prog 45 #[.agg #[.int .i64 23, .int .i64 (-149), .int .u64 2139095040], .agg #[.bool neg, .string s, .int .i64 e]] w (RnPost w 23 149 2139095040 s.data.toList e) := by
  have hlen : s.data.toList.length = s.size := by simp
  have hne : s.toList.isEmpty = false := str_ne0 h0
  have H0 := Lib.hid h0
  have HP := Lib.hid (show ∀ (w' : World) (n : Nat), (∀ R, Rung.Near 23 (rN s.data.toList e * 2 ^ 149) (rD e) R → n = min R 2139095040) → Below w.heap.size w w' → RnPost w 23 149 2139095040 s.data.toList e (.returned (.int .u64 (n : Nat))) w' from fun w' n hn hb => ⟨n, rfl, hb, fun h => by rcases h with h | h; exact absurd h H0.out; exact absurd h h1, fun _ h => absurd h h2, fun _ _ _ => hn⟩)
  rw [hlen] at h1 h2
  have t1 : decide ((s.size : Int) + e < -400) = false := decide_eq_false h1
  have t2 : decide (400 < (s.size : Int) + e) = false := decide_eq_false h2
  have HAG := Lib.hid (fun (W : World) (e2 : Int) (m : Nat) (hm : m < 18446744073709551616) (hf1 : -2000000000 < e2) (hf2 : e2 < 2000000000) => against_w neg s e e2 m W hs (by omega) hm (by omega) (by omega) hf1 hf2)
  have HW0 := Lib.hid hW
  have hb0 := Blk.new w 60 #[.int .i64 23, .int .i64 (-149), .int .u64 2139095040]
  clear hlen h0 hW
  go_enter Tryd.func45, Tryd.ntmps45
  go_wp2_with fail
  go_quiet (fail)
  go_wp2_with fail
  go_loopw [5, 6] (fun lo hi wl => ∃ low high : Nat, lo = .int .u64 (low : Nat) ∧ hi = .int .u64 (high : Nat) ∧ low < high ∧ high ≤ 2139095040 + 1 ∧ BisI 23 (rN s.data.toList e * 2 ^ 149) (rD e) 2139095040 low high ∧
    Blk wl w.heap.size 60 #[.int .i64 23, .int .i64 (-149), .int .u64 2139095040] ∧ Blk wl (w.heap.size + 1) 26 #[.bool neg, .string s, .int .i64 e] ∧ Below w.heap.size w wl) (fun lo hi _ => (intOf hi - intOf lo).toNat)
  case atStart => exact ⟨0, 2139095040 + 1, rfl, rfl, by decide, Nat.le_refl _, ⟨HW0.out, .inl rfl⟩, (hb0.alloc _).drewN _, (by have := Blk.new (w.alloc (.cells #[.int .i64 23, .int .i64 (-149), .int .u64 2139095040] 60)) 26 #[.bool neg, .string s, .int .i64 e]; simp at this; exact this.drewN _), bdrewN (((Below.refl _ w).alloc (Nat.le_refl _) _).alloc (by simp) _) _⟩
  case round =>
    obtain ⟨low, high, rfl, rfl, hlh, hho, hbis, hkb, hdb, hbel⟩ := hrel
    have d0 := hkb.cell 0
    have d1 := hkb.cell 1
    have d2 := hkb.cell 2
    have d3 := hdb.cell 0
    have d4 := hdb.cell 1
    have d5 := hdb.cell 2
    simp at d0 d1 d2 d3 d4 d5
    have HK := Lib.hid hkb
    have HD := Lib.hid hdb
    have HB := Lib.hid hbel
    have HBIS := Lib.hid hbis
    clear hkb hdb hbel hbis hb0
    by_cases hgo : low + 1 < high
    · obtain ⟨mid, hmid⟩ : ∃ mid : Nat, mid = low + (high - low) / 2 := ⟨_, rfl⟩
      have hm1 : (low : Int) + ((high : Int) - (low : Int)) / 2 = (mid : Int) := by omega
      have hml : low < mid := by omega
      have hmh : mid < high := by omega
      have t3 : decide ((1 : Int) < (high : Int) - (low : Int)) = true := by simp; omega
      clear hmid
      go_wp2_with fail
      refine (at_23 2139095040 mid wr (by omega)).mono ?_
      rintro en w1 ⟨rfl, b1⟩
      have hx : Rung.expo 23 mid ≤ 4000 := by unfold Rung.expo; omega
      have d3 := (b1.cell (p := ⟨w.heap.size + 1, 0, none⟩) HD.out.lt).trans d3
      have d4 := (b1.cell (p := ⟨w.heap.size + 1, 1, none⟩) HD.out.lt).trans d4
      have d5 := (b1.cell (p := ⟨w.heap.size + 1, 2, none⟩) HD.out.lt).trans d5
      have B1 := Lib.hid b1
      clear b1
      go_wp2_with fail
      refine (agn_ge 23 149 mid neg s e _ w1 (by first | rfl | simp) hs (by omega) (by omega) (by omega) (by decide) (by decide) hx).mono ?_
      rintro en w2 ⟨⟨z, rfl, hz1, hz2⟩, b2⟩
      have B2 := Lib.hid (bthen B1.out b2)
      clear b2
      rcases Nat.lt_or_ge (rN s.data.toList e * 2 ^ 149) (Rung.W 23 mid * rD e) with hcm | hcm
      · have t4 : decide ((0 : Int) ≤ z) = false := decide_eq_false (by have := hz2 hcm; omega)
        have HCM := Lib.hid hcm
        clear hz1 hz2 hcm
        go_wp2_with fail
        go_roundw
        case rel => exact ⟨low, mid, rfl, rfl, hml, by omega, ⟨HBIS.out.1, .inr HCM.out⟩, HK.out.below B2.out HK.out.lt, HD.out.below B2.out HD.out.lt, bthen HB.out B2.out⟩
        case measure => simp [intOf]; omega
      · have t4 : decide ((0 : Int) ≤ z) = true := decide_eq_true (hz1 hcm)
        have HCM := Lib.hid hcm
        clear hz1 hz2 hcm
        go_wp2_with fail
        go_roundw
        case rel => exact ⟨mid, high, rfl, rfl, hmh, hho, ⟨HCM.out, HBIS.out.2⟩, HK.out.below B2.out HK.out.lt, HD.out.below B2.out HD.out.lt, bthen HB.out B2.out⟩
        case measure => simp [intOf]; omega
    · obtain rfl : high = low + 1 := by omega
      have t3 : decide ((1 : Int) < ((low + 1 : Nat) : Int) - (low : Int)) = false := by simp; omega
      have HN := Lib.hid (fun (R : Nat) (hR : Rung.Near 23 (rN s.data.toList e * 2 ^ 149) (rD e) R) => ref_near (over := 2139095040) (rD_pos e) hR HBIS.out.1 (by rcases HBIS.out.2 with h | h; exact .inl (by omega); exact .inr h) (by omega : low ≤ 2139095040))
      by_cases htop : low = 2139095040
      · have HT := Lib.hid (show ∀ R, Rung.Near 23 (rN s.data.toList e * 2 ^ 149) (rD e) R → low = min R 2139095040 from fun R hR => by have := HN.out R hR; rwa [if_pos htop] at this)
        clear HN
        subst htop
        go_wp2_with fail
        go_ret
        exact HP.out _ _ HT.out HB.out
      · have t5 : ((low : Int) == 2139095040) = false := by rw [beq_eq_false_iff_ne]; omega
        go_wp2_with fail
        refine (at_23 2139095040 low wr (by omega)).mono ?_
        rintro en w1 ⟨rfl, b1⟩
        have hx : Rung.expo 23 low ≤ 4000 := by unfold Rung.expo; omega
        have hmn := Nat.lt_of_lt_of_le (Rung.mant_lt 23 low) (show 2 ^ (23 + 1) ≤ 9007199254740992 by decide)
        have d3 := (b1.cell (p := ⟨w.heap.size + 1, 0, none⟩) HD.out.lt).trans d3
        have d4 := (b1.cell (p := ⟨w.heap.size + 1, 1, none⟩) HD.out.lt).trans d4
        have d5 := (b1.cell (p := ⟨w.heap.size + 1, 2, none⟩) HD.out.lt).trans d5
        have B1 := Lib.hid (bthen HB.out b1)
        clear b1
        go_wp2_with fail
        have HU0 := Lib.hid (show ∀ R, Rung.Near 23 (rN s.data.toList e * 2 ^ 149) (rD e) R → Rung.up 23 (rN s.data.toList e * 2 ^ 149) (rD e) low = min R 2139095040 from fun R hR => by have := HN.out R hR; rwa [if_neg htop] at this)
        clear HN
        have c1 : Rung.mid2 23 low * rD e < 2 * (rN s.data.toList e * 2 ^ 149) ∨ (Rung.mid2 23 low * rD e = 2 * (rN s.data.toList e * 2 ^ 149) ∧ low % 2 = 1) ∨ (Rung.mid2 23 low * rD e = 2 * (rN s.data.toList e * 2 ^ 149) ∧ low % 2 ≠ 1) ∨ 2 * (rN s.data.toList e * 2 ^ 149) < Rung.mid2 23 low * rD e := by omega
        rcases c1 with c1 | ⟨c1, c2⟩ | ⟨c1, c2⟩ | c1
        · have HZ := Lib.hid (show cmpI (2 * (rN s.data.toList e * 2 ^ 149)) (Rung.mid2 23 low * rD e) = 1 by unfold cmpI; rw [if_neg (by omega), if_neg (by omega)])
          have HU := Lib.hid (show ∀ R, Rung.Near 23 (rN s.data.toList e * 2 ^ 149) (rD e) R → low + 1 = min R 2139095040 from fun R hR => by rw [← HU0.out R hR]; unfold Rung.up; rw [if_pos (.inl c1)])
          clear c1
          refine (agn_half 23 149 low neg s e _ _ w1 (by first | rfl | simp) (by first | rfl | simp) hs (by omega) (by omega) (by omega) (by decide) (by decide) hx).mono ?_
          rintro en w2 ⟨hen, b2⟩
          rw [HZ.out] at hen
          subst hen
          have B2 := Lib.hid (bthen B1.out b2)
          clear b2
          go_wp2_with fail
          go_ret
          exact HP.out _ (low + 1) HU.out B2.out
        · have HZ := Lib.hid (show cmpI (2 * (rN s.data.toList e * 2 ^ 149)) (Rung.mid2 23 low * rD e) = 0 by unfold cmpI; rw [if_neg (by omega), if_pos (by omega)])
          have HU := Lib.hid (show ∀ R, Rung.Near 23 (rN s.data.toList e * 2 ^ 149) (rD e) R → low + 1 = min R 2139095040 from fun R hR => by rw [← HU0.out R hR]; unfold Rung.up; rw [if_pos (.inr ⟨c1, c2⟩)])
          have t6 : ((low : Int) % 2 == 1) = true := by rw [beq_iff_eq]; omega
          clear c1 c2
          refine (agn_half 23 149 low neg s e _ _ w1 (by first | rfl | simp) (by first | rfl | simp) hs (by omega) (by omega) (by omega) (by decide) (by decide) hx).mono ?_
          rintro en w2 ⟨hen, b2⟩
          rw [HZ.out] at hen
          subst hen
          have B2 := Lib.hid (bthen B1.out b2)
          clear b2
          go_wp2_with fail
          go_ret
          exact HP.out _ (low + 1) HU.out B2.out
        · have HZ := Lib.hid (show cmpI (2 * (rN s.data.toList e * 2 ^ 149)) (Rung.mid2 23 low * rD e) = 0 by unfold cmpI; rw [if_neg (by omega), if_pos (by omega)])
          have HU := Lib.hid (show ∀ R, Rung.Near 23 (rN s.data.toList e * 2 ^ 149) (rD e) R → low = min R 2139095040 from fun R hR => by rw [← HU0.out R hR]; unfold Rung.up; rw [if_neg (by omega)])
          have t6 : ((low : Int) % 2 == 1) = false := by rw [beq_eq_false_iff_ne]; omega
          clear c1 c2
          refine (agn_half 23 149 low neg s e _ _ w1 (by first | rfl | simp) (by first | rfl | simp) hs (by omega) (by omega) (by omega) (by decide) (by decide) hx).mono ?_
          rintro en w2 ⟨hen, b2⟩
          rw [HZ.out] at hen
          subst hen
          have B2 := Lib.hid (bthen B1.out b2)
          clear b2
          go_wp2_with fail
          go_ret
          exact HP.out _ low HU.out B2.out
        · have HZ := Lib.hid (show cmpI (2 * (rN s.data.toList e * 2 ^ 149)) (Rung.mid2 23 low * rD e) = -1 by unfold cmpI; rw [if_pos (by omega)])
          have HU := Lib.hid (show ∀ R, Rung.Near 23 (rN s.data.toList e * 2 ^ 149) (rD e) R → low = min R 2139095040 from fun R hR => by rw [← HU0.out R hR]; unfold Rung.up; rw [if_neg (by omega)])
          clear c1
          refine (agn_half 23 149 low neg s e _ _ w1 (by first | rfl | simp) (by first | rfl | simp) hs (by omega) (by omega) (by omega) (by decide) (by decide) hx).mono ?_
          rintro en w2 ⟨hen, b2⟩
          rw [HZ.out] at hen
          subst hen
          have B2 := Lib.hid (bthen B1.out b2)
          clear b2
          go_wp2_with fail
          go_ret
          exact HP.out _ low HU.out B2.out
end Go.Proofs.YtabmalnandbocaaDoor.Num
namespace Go.Proofs.YtabmalnandbocaaDoor.Num
set_option exponentiation.threshold 3000
set_option linter.unusedVariables false
set_option linter.unusedSimpArgs false
open Go.RowKit Go.Proofs.YtabmalnandbocaaDoor.Mem Go.Proofs.YtabmalnandbocaaDoor.Own Go.Proofs.YtabmalnandbocaaDoor.Big
theorem rnear_w_52 (neg : Bool) (s : ByteArray) (e : Int) (w : World) (hs : HeadOk s.data.toList) (hsm : s.size < 140737488355328) (he1 : -1073741824 ≤ e) (he2 : e ≤ 1073741824) :
    Calls Tryd.prog 45 #[.agg #[.int .i64 52, .int .i64 (-1074), .int .u64 9218868437227405312], .agg #[.bool neg, .string s, .int .i64 e]] w (NearPost w (refF 52 1074 9218868437227405312 s.data.toList e)) := by
  have key : Calls Tryd.prog 45 #[.agg #[.int .i64 52, .int .i64 (-1074), .int .u64 9218868437227405312], .agg #[.bool neg, .string s, .int .i64 e]] w (RnPost w 52 1074 9218868437227405312 s.data.toList e) := by
    by_cases hx : s.data.toList = [] ∨ (s.data.toList.length : Int) + e < -400 ∨ 400 < (s.data.toList.length : Int) + e
    · exact rnear_out_52 neg s e w hsm he1 he2 hx
    · exact rnear_in_52 neg s e w hs.digs he1 he2 (fun h => hx (.inl h)) (fun h => hx (.inr (.inl h))) (fun h => hx (.inr (.inr h))) (by rw [Rung.W_zero, Nat.zero_mul]; exact Nat.zero_le _)
  refine key.mono fun en w' h => ?_
  obtain ⟨n, rfl, hb, h1, h2, h3⟩ := h
  exact ⟨by rw [ref_is (by decide) hs h1 h2 h3], hb⟩
theorem rnear_w_23 (neg : Bool) (s : ByteArray) (e : Int) (w : World) (hs : HeadOk s.data.toList) (hsm : s.size < 140737488355328) (he1 : -1073741824 ≤ e) (he2 : e ≤ 1073741824) :
    Calls Tryd.prog 45 #[.agg #[.int .i64 23, .int .i64 (-149), .int .u64 2139095040], .agg #[.bool neg, .string s, .int .i64 e]] w (NearPost w (refF 23 149 2139095040 s.data.toList e)) := by
  have key : Calls Tryd.prog 45 #[.agg #[.int .i64 23, .int .i64 (-149), .int .u64 2139095040], .agg #[.bool neg, .string s, .int .i64 e]] w (RnPost w 23 149 2139095040 s.data.toList e) := by
    by_cases hx : s.data.toList = [] ∨ (s.data.toList.length : Int) + e < -400 ∨ 400 < (s.data.toList.length : Int) + e
    · exact rnear_out_23 neg s e w hsm he1 he2 hx
    · exact rnear_in_23 neg s e w hs.digs he1 he2 (fun h => hx (.inl h)) (fun h => hx (.inr (.inl h))) (fun h => hx (.inr (.inr h))) (by rw [Rung.W_zero, Nat.zero_mul]; exact Nat.zero_le _)
  refine key.mono fun en w' h => ?_
  obtain ⟨n, rfl, hb, h1, h2, h3⟩ := h
  exact ⟨by rw [ref_is (by decide) hs h1 h2 h3], hb⟩
end Go.Proofs.YtabmalnandbocaaDoor.Num
namespace Go.Proofs.YtabmalnandbocaaDoor.Num
set_option exponentiation.threshold 3000
set_option linter.unusedVariables false
set_option linter.unusedSimpArgs false
open Go.RowKit Go.Proofs.YtabmalnandbocaaDoor.Mem Go.Proofs.YtabmalnandbocaaDoor.Own Go.Proofs.YtabmalnandbocaaDoor.Big
open Ieee (double single)

theorem refF_le (b K over : Nat) (l : List UInt8) (e : Int) : refF b K over l e ≤ over := by
  unfold refF
  split
  · omega
  · split <;> omega
/-- The number of the nearest float64, float32. -/
abbrev near64 (l : List UInt8) (e : Int) : Nat := refF 52 1074 9218868437227405312 l e
abbrev near32 (l : List UInt8) (e : Int) : Nat := refF 23 149 2139095040 l e
def ofV (neg : Bool) (n : Nat) : Value := if n = 9218868437227405312 then .tuple #[.float .f64 0, .int .i64 121] else .tuple #[.float .f64 (double.word neg n), .int .i64 0]
def OfPost (w : World) (neg : Bool) (n : Nat) (en : Ending) (w' : World) : Prop := en = .returned (ofV neg n) ∧ Below w.heap.size w w'
def OfNo (w : World) (en : Ending) (w' : World) : Prop := en = .returned (.tuple #[.float .f64 0, .int .i64 1]) ∧ Below w.heap.size w w'
theorem Form.canon {l : List UInt8} {e : Int} (h : Form l e) : Canon l ∧ -1073741824 ≤ e ∧ e ≤ 1073741824 := by
  rcases h with ⟨rfl, rfl⟩ | ⟨-, h, h1, h2⟩
  · exact ⟨⟨fun c hc => by simp at hc, fun c hc => by simp at hc, fun c hc => by simp at hc⟩, by decide, by decide⟩
  · exact ⟨h, h1, h2⟩
theorem or_sign {n : Nat} (h : n < 9223372036854775808) : bits .or .u64 (n : Int) 9223372036854775808 = ((9223372036854775808 + n : Nat) : Int) := by
  have h2 := (bits_nat .u64 64 (by decide) (fun n a b => wraps_u64 n a b) n 9223372036854775808 (by omega) (by omega)).2
  have h3 : n ||| 9223372036854775808 = 9223372036854775808 + n := by
    rw [Nat.or_comm]
    have := Nat.two_pow_add_eq_or_of_lt (i := 63) (b := n) (by omega) 1
    rw [Nat.mul_one] at this
    exact this.symm
  rw [h3] at h2
  exact h2
theorem frombits_run (x : Nat) (w : World) : (callFunc 5 #[.int .u64 (x : Nat)]).run Tryd.prog w = .ok (.value (.float .f64 x)) w := by
  rw [run_callFunc_extern Tryd.func5 (by kernel_rfl) (by kernel_rfl) (by kernel_rfl) (e := Extern.MathFloatBits.float64frombits) (by kernel_rfl)]
  rfl
theorem frombits_run' (z : Int) (x : Nat) (h : z = (x : Nat)) (w : World) : (callFunc 5 #[.int .u64 z]).run Tryd.prog w = .ok (.value (.float .f64 x)) w := by rw [h]; exact frombits_run x w
theorem nearest_52 (neg : Bool) (s : ByteArray) (e : Int) (w : World) (hf : Form s.data.toList e) (hsm : s.size < 140737488355328) :
    Calls Tryd.prog 42 #[.agg #[.bool neg, .string s, .int .i64 e], .int .i64 52, .int .i64 (-1074), .int .u64 9218868437227405312] w (NearPost w (near64 s.data.toList e)) := by
  obtain ⟨h, h1, h2⟩ := hf.canon
  have := nearest_w 52 1074 9218868437227405312 neg s e w h.ok hsm h1 h2 (by decide) (by decide) (by decide) (by decide)
  rw [near_is (by decide) (by decide) (by decide) h] at this
  exact this
set_option maxHeartbeats 4000000 in
set_option maxRecDepth 100000 in
theorem of_no (neg : Bool) (s : ByteArray) (e : Int) (w : World) (hf : ¬ Form s.data.toList e) (hsm : s.size < 140737488355328) :
    Calls Tryd.prog 22 #[.agg #[.bool neg, .string s, .int .i64 e]] w (OfNo w) := by
  have HF := Lib.hid (fun W => formed_w neg s e W hsm)
  have HN := Lib.hid hf
  clear hf
  go_enter Tryd.func22, Tryd.ntmps22
  go_wp2_with fail
  refine (HF.out _).mono ?_
  rintro en w1 ⟨b, rfl, hb, b1⟩
  obtain rfl : b = false := by
    cases b
    · rfl
    · exact absurd (hb.1 rfl) HN.out
  have B1 := Lib.hid (bthen ((Below.refl _ w).alloc (Nat.le_refl _) _) b1)
  clear hb b1
  go_wp2_with fail
  go_ret2
  exact ⟨rfl, B1.out⟩
set_option maxHeartbeats 4000000 in
set_option maxRecDepth 100000 in
theorem of_yes (neg : Bool) (s : ByteArray) (e : Int) (w : World) (hf : Form s.data.toList e) (hsm : s.size < 140737488355328) :
    Calls Tryd.prog 22 #[.agg #[.bool neg, .string s, .int .i64 e]] w (OfPost w neg (near64 s.data.toList e)) := by
  have HF := Lib.hid (fun W => formed_w neg s e W hsm)
  have HN := Lib.hid hf
  have HNR := Lib.hid (fun W => nearest_52 neg s e W hf hsm)
  have hb0 := Blk.new w 26 #[.bool neg, .string s, .int .i64 e]
  have HB0 := Lib.hid hb0
  have hle : near64 s.data.toList e ≤ 9218868437227405312 := refF_le _ _ _ _ _
  have hfr := frombits_run
  have HFR := Lib.hid hfr
  obtain ⟨n, hn⟩ : ∃ n, n = near64 s.data.toList e := ⟨_, rfl⟩
  rw [← hn] at hle HNR ⊢
  have HP := Lib.hid (or_sign (n := n) (by omega))
  clear hf hb0 hn hfr
  go_enter Tryd.func22, Tryd.ntmps22
  go_wp2_with fail
  refine (HF.out _).mono ?_
  rintro en w1 ⟨b, rfl, hb, b1⟩
  obtain rfl : b = true := hb.2 HN.out
  have HB1 := Lib.hid (HB0.out.below b1 HB0.out.lt)
  have B1 := Lib.hid (bthen ((Below.refl _ w).alloc (Nat.le_refl _) _) b1)
  have d0 := HB1.out.cell 0
  have d1 := HB1.out.cell 1
  have d2 := HB1.out.cell 2
  simp at d0 d1 d2
  clear hb b1
  go_wp2_with fail
  refine (HNR.out _).mono ?_
  rintro en w2 ⟨rfl, b2⟩
  have HB2 := Lib.hid (HB1.out.below b2 HB1.out.lt)
  have B2 := Lib.hid (bthen B1.out b2)
  have e0 := HB2.out.cell 0
  simp at e0
  clear b2
  by_cases htop : n = 9218868437227405312
  · subst htop
    go_wp2_with fail
    go_ret2
    exact ⟨rfl, B2.out⟩
  · have t1 : ((n : Int) == 9218868437227405312) = false := by rw [beq_eq_false_iff_ne]; omega
    have HT := Lib.hid htop
    clear htop
    cases neg
    · have hr := HFR.out n
      go_wp2_with fail
      go_ret2
      exact ⟨by unfold ofV; rw [if_neg HT.out]; rfl, B2.out⟩
    · have hr := frombits_run' (9223372036854775808 + (n : Int)) (9223372036854775808 + n) (by omega)
      have hor := HP.out
      go_wp2_with fail
      go_ret2
      exact ⟨by unfold ofV; rw [if_neg HT.out]; rfl, B2.out⟩
set_option maxHeartbeats 4000000 in
set_option maxRecDepth 100000 in
theorem rof_no (neg : Bool) (s : ByteArray) (e : Int) (w : World) (hf : ¬ Form s.data.toList e) (hsm : s.size < 140737488355328) :
    Calls Tryd.prog 24 #[.agg #[.bool neg, .string s, .int .i64 e]] w (OfNo w) := by
  have HF := Lib.hid (fun W => rformed_w neg s e W hsm)
  have HN := Lib.hid hf
  clear hf
  go_enter Tryd.func24, Tryd.ntmps24
  go_wp2_with fail
  refine (HF.out _).mono ?_
  rintro en w1 ⟨b, rfl, hb, b1⟩
  obtain rfl : b = false := by
    cases b
    · rfl
    · exact absurd (hb.1 rfl) HN.out
  have B1 := Lib.hid (bthen ((Below.refl _ w).alloc (Nat.le_refl _) _) b1)
  clear hb b1
  go_wp2_with fail
  go_ret2
  exact ⟨rfl, B1.out⟩
theorem ref_52 (neg : Bool) (s : ByteArray) (e : Int) (w : World) (hf : Form s.data.toList e) (hsm : s.size < 140737488355328) :
    Calls Tryd.prog 45 #[.agg #[.int .i64 52, .int .i64 (-1074), .int .u64 9218868437227405312], .agg #[.bool neg, .string s, .int .i64 e]] w (NearPost w (near64 s.data.toList e)) := by
  obtain ⟨h, h1, h2⟩ := hf.canon
  exact rnear_w_52 neg s e w h.ok hsm h1 h2
set_option maxHeartbeats 4000000 in
set_option maxRecDepth 100000 in
theorem rof_yes (neg : Bool) (s : ByteArray) (e : Int) (w : World) (hf : Form s.data.toList e) (hsm : s.size < 140737488355328) :
    Calls Tryd.prog 24 #[.agg #[.bool neg, .string s, .int .i64 e]] w (OfPost w neg (near64 s.data.toList e)) := by
  have HF := Lib.hid (fun W => rformed_w neg s e W hsm)
  have HN := Lib.hid hf
  have HNR := Lib.hid (fun W => ref_52 neg s e W hf hsm)
  have hb0 := Blk.new w 26 #[.bool neg, .string s, .int .i64 e]
  have HB0 := Lib.hid hb0
  have hle : near64 s.data.toList e ≤ 9218868437227405312 := refF_le _ _ _ _ _
  obtain ⟨n, hn⟩ : ∃ n, n = near64 s.data.toList e := ⟨_, rfl⟩
  rw [← hn] at hle HNR ⊢
  clear hf hb0 hn
  go_enter Tryd.func24, Tryd.ntmps24
  go_wp2_with fail
  refine (HF.out _).mono ?_
  rintro en w1 ⟨b, rfl, hb, b1⟩
  obtain rfl : b = true := hb.2 HN.out
  have HB1 := Lib.hid (HB0.out.below b1 HB0.out.lt)
  have B1 := Lib.hid (bthen ((Below.refl _ w).alloc (Nat.le_refl _) _) b1)
  have d0 := HB1.out.cell 0
  have d1 := HB1.out.cell 1
  have d2 := HB1.out.cell 2
  simp at d0 d1 d2
  clear hb b1
  go_wp2_with fail
  go_region_held3 (fun w' => w'.cell? ⟨w.heap.size, 0, none⟩ = some (.bool neg) ∧ w'.cell? ⟨w.heap.size, 1, none⟩ = some (.string s) ∧ w'.cell? ⟨w.heap.size, 2, none⟩ = some (.int .i64 e)) (first | exact ⟨d0, d1, d2⟩ | exact ⟨e0, e1, e2⟩ | exact ⟨g0, g1, g2⟩)
    ((first
    | (go_at_call 34; refine (long_w _).mono ?_; rintro en w2 ⟨rfl, b2⟩; have HB2 := Lib.hid ((HB1.out.drewN 1).below b2 (HB1.out.drewN 1).lt); have B2 := Lib.hid (bthen (bdrewN B1.out 1) b2); have e0 : w2.cell? ⟨w.heap.size, 0, none⟩ = some (.bool neg) := HB2.out.cell 0; have e1 : w2.cell? ⟨w.heap.size, 1, none⟩ = some (.string s) := HB2.out.cell 1; have e2 : w2.cell? ⟨w.heap.size, 2, none⟩ = some (.int .i64 e) := HB2.out.cell 2; clear b2)
    | (go_at_call 45; refine (HNR.out _).mono ?_; rintro en w3 ⟨rfl, b3⟩; have HB3 := Lib.hid (HB2.out.below b3 HB2.out.lt); have B3 := Lib.hid (bthen B2.out b3); have g0 : w3.cell? ⟨w.heap.size, 0, none⟩ = some (.bool neg) := HB3.out.cell 0; have g1 : w3.cell? ⟨w.heap.size, 1, none⟩ = some (.string s) := HB3.out.cell 1; have g2 : w3.cell? ⟨w.heap.size, 2, none⟩ = some (.int .i64 e) := HB3.out.cell 2; clear b3)))
  all_goals
    go_wp2_with fail
    refine (long_w _).mono ?_
    rintro en w4 ⟨rfl, b4⟩
    have HB4 := Lib.hid (HB3.out.below b4 HB3.out.lt)
    have B4 := Lib.hid (bthen B3.out b4)
    have i0 : w4.cell? ⟨w.heap.size, 0, none⟩ = some (.bool neg) := HB4.out.cell 0
    clear b4
    by_cases htop : n = 9218868437227405312
    · subst htop
      go_wp2_with (simp only [over_field])
      go_ret2
      exact ⟨rfl, B4.out⟩
    · have t1 : ((n : Int) == 9218868437227405312) = false := by rw [beq_eq_false_iff_ne]; omega
      have HT := Lib.hid htop
      clear htop
      go_wp2_with (simp only [over_field])
      refine (float_w neg n _ (by rw [inf_num]; have := HT.out; omega)).mono ?_
      rintro en w5 ⟨rfl, b5⟩
      have B5 := Lib.hid (bthen B4.out b5)
      clear b5
      go_wp2_with fail
      go_ret2
      exact ⟨by unfold ofV; rw [if_neg HT.out]; rfl, B5.out⟩
end Go.Proofs.YtabmalnandbocaaDoor.Num
