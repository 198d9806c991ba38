/- Chapter 13 (floats): contracts of the reference's Nearest, of Of and Of32, of the laws' awake. No conditions beside those that each contract names. -/
import Derived.Test.YtncglbnnpdppjaaDoorMF
import Derived.Test.YtncglbnnpdppjaaDoorMH
namespace Go.Proofs.YtncglbnnpdppjaaDoor.Num
set_option exponentiation.threshold 3000
set_option linter.unusedVariables false
set_option linter.unusedSimpArgs false
open Go.RowKit Go.Proofs.YtncglbnnpdppjaaDoor.Mem Go.Proofs.YtncglbnnpdppjaaDoor.Own Go.Proofs.YtncglbnnpdppjaaDoor.Big

/-- What Nearest comes to. -/
def RnPost (w : World) (b K over : Nat) (l : List UInt8) (e : Int) (en : Ending) (w' : World) : Prop :=
  ∃ n, en = .returned (.int .u64 (n : Nat)) ∧ Below w.heap.size w w' ∧
    (l = [] ∨ (l.length : Int) + e < -400 → n = 0) ∧ (l ≠ [] → 400 < (l.length : Int) + e → n = over) ∧
    (l ≠ [] → -400 ≤ (l.length : Int) + e → (l.length : Int) + e ≤ 400 → ∀ R, Rung.Near b (rN l e * 2 ^ K) (rD e) R → n = min R over)
def BisI (b N Q over low high : Nat) : Prop := Rung.W b low * Q ≤ N ∧ (high = over + 1 ∨ N < Rung.W b high * Q)
def GePost (w : World) (x y : Nat) (e : Ending) (w' : World) : Prop := (∃ z : Int, e = .returned (.int .i64 z) ∧ (y ≤ x → 0 ≤ z) ∧ (x < y → z < 0)) ∧ Below w.heap.size w w'
theorem cmpI_ge {x y : Nat} : (y ≤ x → 0 ≤ cmpI x y) ∧ (x < y → cmpI x y < 0) := by
  unfold cmpI
  constructor <;> intro h <;> split <;> (try split) <;> omega
theorem agn_ge (b K mid : Nat) (neg : Bool) (s : ByteArray) (e v : Int) (w : World) (hv : v = -(K : Int) + (Rung.expo b mid : Nat)) (hs : isDigs s.data.toList) (hsm : s.size < 1000000000000) (he1 : -2000000000 < e) (he2 : e < 2000000000) (hb : b ≤ 52) (hK : K ≤ 1074) (hx : Rung.expo b mid ≤ 4000) :
    Calls Tryd.prog 51 #[.agg #[.bool neg, .string s, .int .i64 e], .int .u64 (Rung.mant b mid : Nat), .int .i64 v] w (GePost w (rN s.data.toList e * 2 ^ K) (Rung.W b mid * rD e)) := by
  have hm := Nat.lt_of_lt_of_le (Rung.mant_lt b mid) (Nat.pow_le_pow_right (by decide) (show b + 1 ≤ 53 by omega))
  refine (against_w neg s e v (Rung.mant b mid) w hs hsm (by omega) he1 he2 (by omega) (by omega)).mono fun en w' h => ?_
  obtain ⟨rfl, hb'⟩ := h
  refine ⟨⟨_, rfl, ?_⟩, hb'⟩
  rw [agn_cmp s.data.toList e hv]
  exact cmpI_ge
def HalfPost (w : World) (x y : Nat) (e : Ending) (w' : World) : Prop := e = .returned (.int .i64 (cmpI x y)) ∧ Below w.heap.size w w'
theorem agn_half (b K low : Nat) (neg : Bool) (s : ByteArray) (e v : Int) (m : Int) (w : World) (hv : v = -(K : Int) + (Rung.expo b low : Nat) - 1) (hm : m = 2 * (Rung.mant b low : Nat) + 1) (hs : isDigs s.data.toList) (hsm : s.size < 1000000000000) (he1 : -2000000000 < e) (he2 : e < 2000000000) (hb : b ≤ 52) (hK : K ≤ 1074) (hx : Rung.expo b low ≤ 4000) :
    Calls Tryd.prog 51 #[.agg #[.bool neg, .string s, .int .i64 e], .int .u64 m, .int .i64 v] w (HalfPost w (2 * (rN s.data.toList e * 2 ^ K)) (Rung.mid2 b low * rD e)) := by
  have h1 := Nat.lt_of_lt_of_le (Rung.mant_lt b low) (Nat.pow_le_pow_right (by decide) (show b + 1 ≤ 53 by omega))
  obtain rfl : m = ((2 * Rung.mant b low + 1 : Nat) : Int) := by omega
  refine (against_w neg s e v (2 * Rung.mant b low + 1) w hs hsm (by omega) he1 he2 (by omega) (by omega)).mono fun en w' h => ?_
  obtain ⟨rfl, hb'⟩ := h
  refine ⟨?_, hb'⟩
  rw [agn_cmp s.data.toList e (K := K + 1) (a := Rung.expo b low) (by omega), show rN s.data.toList e * 2 ^ (K + 1) = 2 * (rN s.data.toList e * 2 ^ K) by rw [Nat.pow_succ]; grind]
  rfl
set_option maxHeartbeats 8000000 in
set_option maxRecDepth 100000 in
theorem rnear_out_52 (neg : Bool) (s : ByteArray) (e : Int) (w : World) (hsm : s.size < 140737488355328) (he1 : -1073741824 ≤ e) (he2 : e ≤ 1073741824) (hx : s.data.toList = [] ∨ (s.data.toList.length : Int) + e < -400 ∨ 400 < (s.data.toList.length : Int) + e) :
    Calls Tryd.prog 32 #[.agg #[.int .i64 52, .int .i64 (-1074), .int .u64 9218868437227405312], .agg #[.bool neg, .string s, .int .i64 e]] w (RnPost w 52 1074 9218868437227405312 s.data.toList e) := by
  have hlen : s.data.toList.length = s.size := by simp
  by_cases h0 : s.data.toList = []
  · obtain rfl : s = ⟨#[]⟩ := by
      rcases s with ⟨⟨l⟩⟩
      simp at h0
      rw [h0]
    clear hx h0 hlen
    go_enter Tryd.func32, Tryd.ntmps32
    go_wp2_with fail
    go_ret
    exact ⟨0, rfl, ((Below.refl _ w).alloc (Nat.le_refl _) _).alloc (by simp) _, fun _ => rfl, fun h => absurd rfl h, fun h => absurd rfl h⟩
  · have hne : s.toList.isEmpty = false := str_ne0 h0
    have H0 := Lib.hid h0
    by_cases h1 : (s.data.toList.length : Int) + e < -400
    · have HP := Lib.hid (show ∀ w' : World, Below w.heap.size w w' → RnPost w 52 1074 9218868437227405312 s.data.toList e (.returned (.int .u64 0)) w' from fun w' hb => ⟨0, rfl, hb, fun _ => rfl, fun _ h => absurd h (by omega), fun _ h => absurd h (by omega)⟩)
      rw [hlen] at h1
      have t1 : decide ((s.size : Int) + e < -400) = true := decide_eq_true h1
      clear hx h0 hlen
      go_enter Tryd.func32, Tryd.ntmps32
      go_wp2_with fail
      go_ret
      exact HP.out _ (((Below.refl _ w).alloc (Nat.le_refl _) _).alloc (by simp) _)
    · have h2 : 400 < (s.data.toList.length : Int) + e := by
        rcases hx with h | h | h
        · exact absurd h h0
        · exact absurd h h1
        · exact h
      have HP := Lib.hid (show ∀ w' : World, Below w.heap.size w w' → RnPost w 52 1074 9218868437227405312 s.data.toList e (.returned (.int .u64 9218868437227405312)) w' from fun w' hb => ⟨9218868437227405312, rfl, hb, fun h => by rcases h with h | h; exact absurd h H0.out; omega, fun _ _ => rfl, fun _ _ h => absurd h (by omega)⟩)
      rw [hlen] at h1 h2
      have t1 : decide ((s.size : Int) + e < -400) = false := decide_eq_false h1
      have t2 : decide (400 < (s.size : Int) + e) = true := decide_eq_true h2
      clear hx h0 hlen
      go_enter Tryd.func32, Tryd.ntmps32
      go_wp2_with fail
      go_ret
      exact HP.out _ (((Below.refl _ w).alloc (Nat.le_refl _) _).alloc (by simp) _)
set_option maxHeartbeats 8000000 in
set_option maxRecDepth 100000 in
theorem rnear_in_52 (neg : Bool) (s : ByteArray) (e : Int) (w : World) (hs : isDigs s.data.toList) (he1 : -1073741824 ≤ e) (he2 : e ≤ 1073741824) (h0 : s.data.toList ≠ []) (h1 : ¬ (s.data.toList.length : Int) + e < -400) (h2 : ¬ 400 < (s.data.toList.length : Int) + e) (hW : Rung.W 52 0 * rD e ≤ rN s.data.toList e * 2 ^ 1074) :
    Calls Tryd.prog 32 #[.agg #[.int .i64 52, .int .i64 (-1074), .int .u64 9218868437227405312], .agg #[.bool neg, .string s, .int .i64 e]] w (RnPost w 52 1074 9218868437227405312 s.data.toList e) := by
  have hlen : s.data.toList.length = s.size := by simp
  have hne : s.toList.isEmpty = false := str_ne0 h0
  have H0 := Lib.hid h0
  have HP := Lib.hid (show ∀ (w' : World) (n : Nat), (∀ R, Rung.Near 52 (rN s.data.toList e * 2 ^ 1074) (rD e) R → n = min R 9218868437227405312) → Below w.heap.size w w' → RnPost w 52 1074 9218868437227405312 s.data.toList e (.returned (.int .u64 (n : Nat))) w' from fun w' n hn hb => ⟨n, rfl, hb, fun h => by rcases h with h | h; exact absurd h H0.out; exact absurd h h1, fun _ h => absurd h h2, fun _ _ _ => hn⟩)
  rw [hlen] at h1 h2
  have t1 : decide ((s.size : Int) + e < -400) = false := decide_eq_false h1
  have t2 : decide (400 < (s.size : Int) + e) = false := decide_eq_false h2
  have HAG := Lib.hid (fun (W : World) (e2 : Int) (m : Nat) (hm : m < 18446744073709551616) (hf1 : -2000000000 < e2) (hf2 : e2 < 2000000000) => against_w neg s e e2 m W hs (by omega) hm (by omega) (by omega) hf1 hf2)
  have HW0 := Lib.hid hW
  have hb0 := Blk.new w 44 #[.int .i64 52, .int .i64 (-1074), .int .u64 9218868437227405312]
  clear hlen h0 hW
  go_enter Tryd.func32, Tryd.ntmps32
  go_wp2_with fail
  go_quiet (fail)
  go_wp2_with fail
  go_loopw [5, 6] (fun lo hi wl => ∃ low high : Nat, lo = .int .u64 (low : Nat) ∧ hi = .int .u64 (high : Nat) ∧ low < high ∧ high ≤ 9218868437227405312 + 1 ∧ BisI 52 (rN s.data.toList e * 2 ^ 1074) (rD e) 9218868437227405312 low high ∧
    Blk wl w.heap.size 44 #[.int .i64 52, .int .i64 (-1074), .int .u64 9218868437227405312] ∧ Blk wl (w.heap.size + 1) 23 #[.bool neg, .string s, .int .i64 e] ∧ Below w.heap.size w wl) (fun lo hi _ => (intOf hi - intOf lo).toNat)
  case atStart => exact ⟨0, 9218868437227405312 + 1, rfl, rfl, by decide, Nat.le_refl _, ⟨HW0.out, .inl rfl⟩, (hb0.alloc _).drewN _, (by have := Blk.new (w.alloc (.cells #[.int .i64 52, .int .i64 (-1074), .int .u64 9218868437227405312] 44)) 23 #[.bool neg, .string s, .int .i64 e]; simp at this; exact this.drewN _), bdrewN (((Below.refl _ w).alloc (Nat.le_refl _) _).alloc (by simp) _) _⟩
  case round =>
    obtain ⟨low, high, rfl, rfl, hlh, hho, hbis, hkb, hdb, hbel⟩ := hrel
    have d0 := hkb.cell 0
    have d1 := hkb.cell 1
    have d2 := hkb.cell 2
    have d3 := hdb.cell 0
    have d4 := hdb.cell 1
    have d5 := hdb.cell 2
    simp at d0 d1 d2 d3 d4 d5
    have HK := Lib.hid hkb
    have HD := Lib.hid hdb
    have HB := Lib.hid hbel
    have HBIS := Lib.hid hbis
    clear hkb hdb hbel hbis hb0
    by_cases hgo : low + 1 < high
    · obtain ⟨mid, hmid⟩ : ∃ mid : Nat, mid = low + (high - low) / 2 := ⟨_, rfl⟩
      have hm1 : (low : Int) + ((high : Int) - (low : Int)) / 2 = (mid : Int) := by omega
      have hml : low < mid := by omega
      have hmh : mid < high := by omega
      have t3 : decide ((1 : Int) < (high : Int) - (low : Int)) = true := by simp; omega
      clear hmid
      go_wp2_with fail
      refine (at_52 9218868437227405312 mid wr (by omega)).mono ?_
      rintro en w1 ⟨rfl, b1⟩
      have hx : Rung.expo 52 mid ≤ 4000 := by unfold Rung.expo; omega
      have d3 := (b1.cell (p := ⟨w.heap.size + 1, 0, none⟩) HD.out.lt).trans d3
      have d4 := (b1.cell (p := ⟨w.heap.size + 1, 1, none⟩) HD.out.lt).trans d4
      have d5 := (b1.cell (p := ⟨w.heap.size + 1, 2, none⟩) HD.out.lt).trans d5
      have B1 := Lib.hid b1
      clear b1
      go_wp2_with fail
      refine (agn_ge 52 1074 mid neg s e _ w1 (by first | rfl | simp) hs (by omega) (by omega) (by omega) (by decide) (by decide) hx).mono ?_
      rintro en w2 ⟨⟨z, rfl, hz1, hz2⟩, b2⟩
      have B2 := Lib.hid (bthen B1.out b2)
      clear b2
      rcases Nat.lt_or_ge (rN s.data.toList e * 2 ^ 1074) (Rung.W 52 mid * rD e) with hcm | hcm
      · have t4 : decide ((0 : Int) ≤ z) = false := decide_eq_false (by have := hz2 hcm; omega)
        have HCM := Lib.hid hcm
        clear hz1 hz2 hcm
        go_wp2_with fail
        go_roundw
        case rel => exact ⟨low, mid, rfl, rfl, hml, by omega, ⟨HBIS.out.1, .inr HCM.out⟩, HK.out.below B2.out HK.out.lt, HD.out.below B2.out HD.out.lt, bthen HB.out B2.out⟩
        case measure => simp [intOf]; omega
      · have t4 : decide ((0 : Int) ≤ z) = true := decide_eq_true (hz1 hcm)
        have HCM := Lib.hid hcm
        clear hz1 hz2 hcm
        go_wp2_with fail
        go_roundw
        case rel => exact ⟨mid, high, rfl, rfl, hmh, hho, ⟨HCM.out, HBIS.out.2⟩, HK.out.below B2.out HK.out.lt, HD.out.below B2.out HD.out.lt, bthen HB.out B2.out⟩
        case measure => simp [intOf]; omega
    · obtain rfl : high = low + 1 := by omega
      have t3 : decide ((1 : Int) < ((low + 1 : Nat) : Int) - (low : Int)) = false := by simp; omega
      have HN := Lib.hid (fun (R : Nat) (hR : Rung.Near 52 (rN s.data.toList e * 2 ^ 1074) (rD e) R) => ref_near (over := 9218868437227405312) (rD_pos e) hR HBIS.out.1 (by rcases HBIS.out.2 with h | h; exact .inl (by omega); exact .inr h) (by omega : low ≤ 9218868437227405312))
      by_cases htop : low = 9218868437227405312
      · have HT := Lib.hid (show ∀ R, Rung.Near 52 (rN s.data.toList e * 2 ^ 1074) (rD e) R → low = min R 9218868437227405312 from fun R hR => by have := HN.out R hR; rwa [if_pos htop] at this)
        clear HN
        subst htop
        go_wp2_with fail
        go_ret
        exact HP.out _ _ HT.out HB.out
      · have t5 : ((low : Int) == 9218868437227405312) = false := by rw [beq_eq_false_iff_ne]; omega
        go_wp2_with fail
        refine (at_52 9218868437227405312 low wr (by omega)).mono ?_
        rintro en w1 ⟨rfl, b1⟩
        have hx : Rung.expo 52 low ≤ 4000 := by unfold Rung.expo; omega
        have hmn := Nat.lt_of_lt_of_le (Rung.mant_lt 52 low) (show 2 ^ (52 + 1) ≤ 9007199254740992 by decide)
        have d3 := (b1.cell (p := ⟨w.heap.size + 1, 0, none⟩) HD.out.lt).trans d3
        have d4 := (b1.cell (p := ⟨w.heap.size + 1, 1, none⟩) HD.out.lt).trans d4
        have d5 := (b1.cell (p := ⟨w.heap.size + 1, 2, none⟩) HD.out.lt).trans d5
        have B1 := Lib.hid (bthen HB.out b1)
        clear b1
        go_wp2_with fail
        have HU0 := Lib.hid (show ∀ R, Rung.Near 52 (rN s.data.toList e * 2 ^ 1074) (rD e) R → Rung.up 52 (rN s.data.toList e * 2 ^ 1074) (rD e) low = min R 9218868437227405312 from fun R hR => by have := HN.out R hR; rwa [if_neg htop] at this)
        clear HN
        have c1 : Rung.mid2 52 low * rD e < 2 * (rN s.data.toList e * 2 ^ 1074) ∨ (Rung.mid2 52 low * rD e = 2 * (rN s.data.toList e * 2 ^ 1074) ∧ low % 2 = 1) ∨ (Rung.mid2 52 low * rD e = 2 * (rN s.data.toList e * 2 ^ 1074) ∧ low % 2 ≠ 1) ∨ 2 * (rN s.data.toList e * 2 ^ 1074) < Rung.mid2 52 low * rD e := by omega
        rcases c1 with c1 | ⟨c1, c2⟩ | ⟨c1, c2⟩ | c1
        · have HZ := Lib.hid (show cmpI (2 * (rN s.data.toList e * 2 ^ 1074)) (Rung.mid2 52 low * rD e) = 1 by unfold cmpI; rw [if_neg (by omega), if_neg (by omega)])
          have HU := Lib.hid (show ∀ R, Rung.Near 52 (rN s.data.toList e * 2 ^ 1074) (rD e) R → low + 1 = min R 9218868437227405312 from fun R hR => by rw [← HU0.out R hR]; unfold Rung.up; rw [if_pos (.inl c1)])
          clear c1
          refine (agn_half 52 1074 low neg s e _ _ w1 (by first | rfl | simp) (by first | rfl | simp) hs (by omega) (by omega) (by omega) (by decide) (by decide) hx).mono ?_
          rintro en w2 ⟨hen, b2⟩
          rw [HZ.out] at hen
          subst hen
          have B2 := Lib.hid (bthen B1.out b2)
          clear b2
          go_wp2_with fail
          go_ret
          exact HP.out _ (low + 1) HU.out B2.out
        · have HZ := Lib.hid (show cmpI (2 * (rN s.data.toList e * 2 ^ 1074)) (Rung.mid2 52 low * rD e) = 0 by unfold cmpI; rw [if_neg (by omega), if_pos (by omega)])
          have HU := Lib.hid (show ∀ R, Rung.Near 52 (rN s.data.toList e * 2 ^ 1074) (rD e) R → low + 1 = min R 9218868437227405312 from fun R hR => by rw [← HU0.out R hR]; unfold Rung.up; rw [if_pos (.inr ⟨c1, c2⟩)])
          have t6 : ((low : Int) % 2 == 1) = true := by rw [beq_iff_eq]; omega
          clear c1 c2
          refine (agn_half 52 1074 low neg s e _ _ w1 (by first | rfl | simp) (by first | rfl | simp) hs (by omega) (by omega) (by omega) (by decide) (by decide) hx).mono ?_
          rintro en w2 ⟨hen, b2⟩
          rw [HZ.out] at hen
          subst hen
          have B2 := Lib.hid (bthen B1.out b2)
          clear b2
          go_wp2_with fail
          go_ret
          exact HP.out _ (low + 1) HU.out B2.out
        · have HZ := Lib.hid (show cmpI (2 * (rN s.data.toList e * 2 ^ 1074)) (Rung.mid2 52 low * rD e) = 0 by unfold cmpI; rw [if_neg (by omega), if_pos (by omega)])
          have HU := Lib.hid (show ∀ R, Rung.Near 52 (rN s.data.toList e * 2 ^ 1074) (rD e) R → low = min R 9218868437227405312 from fun R hR => by rw [← HU0.out R hR]; unfold Rung.up; rw [if_neg (by omega)])
          have t6 : ((low : Int) % 2 == 1) = false := by rw [beq_eq_false_iff_ne]; omega
          clear c1 c2
          refine (agn_half 52 1074 low neg s e _ _ w1 (by first | rfl | simp) (by first | rfl | simp) hs (by omega) (by omega) (by omega) (by decide) (by decide) hx).mono ?_
          rintro en w2 ⟨hen, b2⟩
          rw [HZ.out] at hen
          subst hen
          have B2 := Lib.hid (bthen B1.out b2)
          clear b2
          go_wp2_with fail
          go_ret
          exact HP.out _ low HU.out B2.out
        · have HZ := Lib.hid (show cmpI (2 * (rN s.data.toList e * 2 ^ 1074)) (Rung.mid2 52 low * rD e) = -1 by unfold cmpI; rw [if_pos (by omega)])
          have HU := Lib.hid (show ∀ R, Rung.Near 52 (rN s.data.toList e * 2 ^ 1074) (rD e) R → low = min R 9218868437227405312 from fun R hR => by rw [← HU0.out R hR]; unfold Rung.up; rw [if_neg (by omega)])
          clear c1
          refine (agn_half 52 1074 low neg s e _ _ w1 (by first | rfl | simp) (by first | rfl | simp) hs (by omega) (by omega) (by omega) (by decide) (by decide) hx).mono ?_
          rintro en w2 ⟨hen, b2⟩
          rw [HZ.out] at hen
          subst hen
          have B2 := Lib.hid (bthen B1.out b2)
          clear b2
          go_wp2_with fail
          go_ret
          exact HP.out _ low HU.out B2.out
set_option maxHeartbeats 8000000 in
set_option maxRecDepth 100000 in
theorem rnear_out_23 (neg : Bool) (s : ByteArray) (e : Int) (w : World) (hsm : s.size < 140737488355328) (he1 : -1073741824 ≤ e) (he2 : e ≤ 1073741824) (hx : s.data.toList = [] ∨ (s.data.toList.length : Int) + e < -400 ∨ 400 < (s.data.toList.length : Int) + e) :
    Calls Tryd.prog 32 #[.agg #[.int .i64 23, .int .i64 (-149), .int .u64 2139095040], .agg #[.bool neg, .string s, .int .i64 e]] w (RnPost w 23 149 2139095040 s.data.toList e) := by
  have hlen : s.data.toList.length = s.size := by simp
  by_cases h0 : s.data.toList = []
  · obtain rfl : s = ⟨#[]⟩ := by
      rcases s with ⟨⟨l⟩⟩
      simp at h0
      rw [h0]
    clear hx h0 hlen
    go_enter Tryd.func32, Tryd.ntmps32
    go_wp2_with fail
    go_ret
    exact ⟨0, rfl, ((Below.refl _ w).alloc (Nat.le_refl _) _).alloc (by simp) _, fun _ => rfl, fun h => absurd rfl h, fun h => absurd rfl h⟩
  · have hne : s.toList.isEmpty = false := str_ne0 h0
    have H0 := Lib.hid h0
    by_cases h1 : (s.data.toList.length : Int) + e < -400
    · have HP := Lib.hid (show ∀ w' : World, Below w.heap.size w w' → RnPost w 23 149 2139095040 s.data.toList e (.returned (.int .u64 0)) w' from fun w' hb => ⟨0, rfl, hb, fun _ => rfl, fun _ h => absurd h (by omega), fun _ h => absurd h (by omega)⟩)
      rw [hlen] at h1
      have t1 : decide ((s.size : Int) + e < -400) = true := decide_eq_true h1
      clear hx h0 hlen
      go_enter Tryd.func32, Tryd.ntmps32
      go_wp2_with fail
      go_ret
      exact HP.out _ (((Below.refl _ w).alloc (Nat.le_refl _) _).alloc (by simp) _)
    · have h2 : 400 < (s.data.toList.length : Int) + e := by
        rcases hx with h | h | h
        · exact absurd h h0
        · exact absurd h h1
        · exact h
      have HP := Lib.hid (show ∀ w' : World, Below w.heap.size w w' → RnPost w 23 149 2139095040 s.data.toList e (.returned (.int .u64 2139095040)) w' from fun w' hb => ⟨2139095040, rfl, hb, fun h => by rcases h with h | h; exact absurd h H0.out; omega, fun _ _ => rfl, fun _ _ h => absurd h (by omega)⟩)
      rw [hlen] at h1 h2
      have t1 : decide ((s.size : Int) + e < -400) = false := decide_eq_false h1
      have t2 : decide (400 < (s.size : Int) + e) = true := decide_eq_true h2
      clear hx h0 hlen
      go_enter Tryd.func32, Tryd.ntmps32
      go_wp2_with fail
      go_ret
      exact HP.out _ (((Below.refl _ w).alloc (Nat.le_refl _) _).alloc (by simp) _)
set_option maxHeartbeats 8000000 in
set_option maxRecDepth 100000 in
theorem rnear_in_23 (neg : Bool) (s : ByteArray) (e : Int) (w : World) (hs : isDigs s.data.toList) (he1 : -1073741824 ≤ e) (he2 : e ≤ 1073741824) (h0 : s.data.toList ≠ []) (h1 : ¬ (s.data.toList.length : Int) + e < -400) (h2 : ¬ 400 < (s.data.toList.length : Int) + e) (hW : Rung.W 23 0 * rD e ≤ rN s.data.toList e * 2 ^ 149) :
    Calls Tryd.prog 32 #[.agg #[.int .i64 23, .int .i64 (-149), .int .u64 2139095040], .agg #[.bool neg, .string s, .int .i64 e]] w (RnPost w 23 149 2139095040 s.data.toList e) := by
  have hlen : s.data.toList.length = s.size := by simp
  have hne : s.toList.isEmpty = false := str_ne0 h0
  have H0 := Lib.hid h0
  have HP := Lib.hid (show ∀ (w' : World) (n : Nat), (∀ R, Rung.Near 23 (rN s.data.toList e * 2 ^ 149) (rD e) R → n = min R 2139095040) → Below w.heap.size w w' → RnPost w 23 149 2139095040 s.data.toList e (.returned (.int .u64 (n : Nat))) w' from fun w' n hn hb => ⟨n, rfl, hb, fun h => by rcases h with h | h; exact absurd h H0.out; exact absurd h h1, fun _ h => absurd h h2, fun _ _ _ => hn⟩)
  rw [hlen] at h1 h2
  have t1 : decide ((s.size : Int) + e < -400) = false := decide_eq_false h1
  have t2 : decide (400 < (s.size : Int) + e) = false := decide_eq_false h2
  have HAG := Lib.hid (fun (W : World) (e2 : Int) (m : Nat) (hm : m < 18446744073709551616) (hf1 : -2000000000 < e2) (hf2 : e2 < 2000000000) => against_w neg s e e2 m W hs (by omega) hm (by omega) (by omega) hf1 hf2)
  have HW0 := Lib.hid hW
  have hb0 := Blk.new w 44 #[.int .i64 23, .int .i64 (-149), .int .u64 2139095040]
  clear hlen h0 hW
  go_enter Tryd.func32, Tryd.ntmps32
  go_wp2_with fail
  go_quiet (fail)
  go_wp2_with fail
  go_loopw [5, 6] (fun lo hi wl => ∃ low high : Nat, lo = .int .u64 (low : Nat) ∧ hi = .int .u64 (high : Nat) ∧ low < high ∧ high ≤ 2139095040 + 1 ∧ BisI 23 (rN s.data.toList e * 2 ^ 149) (rD e) 2139095040 low high ∧
    Blk wl w.heap.size 44 #[.int .i64 23, .int .i64 (-149), .int .u64 2139095040] ∧ Blk wl (w.heap.size + 1) 23 #[.bool neg, .string s, .int .i64 e] ∧ Below w.heap.size w wl) (fun lo hi _ => (intOf hi - intOf lo).toNat)
  case atStart => exact ⟨0, 2139095040 + 1, rfl, rfl, by decide, Nat.le_refl _, ⟨HW0.out, .inl rfl⟩, (hb0.alloc _).drewN _, (by have := Blk.new (w.alloc (.cells #[.int .i64 23, .int .i64 (-149), .int .u64 2139095040] 44)) 23 #[.bool neg, .string s, .int .i64 e]; simp at this; exact this.drewN _), bdrewN (((Below.refl _ w).alloc (Nat.le_refl _) _).alloc (by simp) _) _⟩
  case round =>
    obtain ⟨low, high, rfl, rfl, hlh, hho, hbis, hkb, hdb, hbel⟩ := hrel
    have d0 := hkb.cell 0
    have d1 := hkb.cell 1
    have d2 := hkb.cell 2
    have d3 := hdb.cell 0
    have d4 := hdb.cell 1
    have d5 := hdb.cell 2
    simp at d0 d1 d2 d3 d4 d5
    have HK := Lib.hid hkb
    have HD := Lib.hid hdb
    have HB := Lib.hid hbel
    have HBIS := Lib.hid hbis
    clear hkb hdb hbel hbis hb0
    by_cases hgo : low + 1 < high
    · obtain ⟨mid, hmid⟩ : ∃ mid : Nat, mid = low + (high - low) / 2 := ⟨_, rfl⟩
      have hm1 : (low : Int) + ((high : Int) - (low : Int)) / 2 = (mid : Int) := by omega
      have hml : low < mid := by omega
      have hmh : mid < high := by omega
      have t3 : decide ((1 : Int) < (high : Int) - (low : Int)) = true := by simp; omega
      clear hmid
      go_wp2_with fail
      refine (at_23 2139095040 mid wr (by omega)).mono ?_
      rintro en w1 ⟨rfl, b1⟩
      have hx : Rung.expo 23 mid ≤ 4000 := by unfold Rung.expo; omega
      have d3 := (b1.cell (p := ⟨w.heap.size + 1, 0, none⟩) HD.out.lt).trans d3
      have d4 := (b1.cell (p := ⟨w.heap.size + 1, 1, none⟩) HD.out.lt).trans d4
      have d5 := (b1.cell (p := ⟨w.heap.size + 1, 2, none⟩) HD.out.lt).trans d5
      have B1 := Lib.hid b1
      clear b1
      go_wp2_with fail
      refine (agn_ge 23 149 mid neg s e _ w1 (by first | rfl | simp) hs (by omega) (by omega) (by omega) (by decide) (by decide) hx).mono ?_
      rintro en w2 ⟨⟨z, rfl, hz1, hz2⟩, b2⟩
      have B2 := Lib.hid (bthen B1.out b2)
      clear b2
      rcases Nat.lt_or_ge (rN s.data.toList e * 2 ^ 149) (Rung.W 23 mid * rD e) with hcm | hcm
      · have t4 : decide ((0 : Int) ≤ z) = false := decide_eq_false (by have := hz2 hcm; omega)
        have HCM := Lib.hid hcm
        clear hz1 hz2 hcm
        go_wp2_with fail
        go_roundw
        case rel => exact ⟨low, mid, rfl, rfl, hml, by omega, ⟨HBIS.out.1, .inr HCM.out⟩, HK.out.below B2.out HK.out.lt, HD.out.below B2.out HD.out.lt, bthen HB.out B2.out⟩
        case measure => simp [intOf]; omega
      · have t4 : decide ((0 : Int) ≤ z) = true := decide_eq_true (hz1 hcm)
        have HCM := Lib.hid hcm
        clear hz1 hz2 hcm
        go_wp2_with fail
        go_roundw
        case rel => exact ⟨mid, high, rfl, rfl, hmh, hho, ⟨HCM.out, HBIS.out.2⟩, HK.out.below B2.out HK.out.lt, HD.out.below B2.out HD.out.lt, bthen HB.out B2.out⟩
        case measure => simp [intOf]; omega
    · obtain rfl : high = low + 1 := by omega
      have t3 : decide ((1 : Int) < ((low + 1 : Nat) : Int) - (low : Int)) = false := by simp; omega
      have HN := Lib.hid (fun (R : Nat) (hR : Rung.Near 23 (rN s.data.toList e * 2 ^ 149) (rD e) R) => ref_near (over := 2139095040) (rD_pos e) hR HBIS.out.1 (by rcases HBIS.out.2 with h | h; exact .inl (by omega); exact .inr h) (by omega : low ≤ 2139095040))
      by_cases htop : low = 2139095040
      · have HT := Lib.hid (show ∀ R, Rung.Near 23 (rN s.data.toList e * 2 ^ 149) (rD e) R → low = min R 2139095040 from fun R hR => by have := HN.out R hR; rwa [if_pos htop] at this)
        clear HN
        subst htop
        go_wp2_with fail
        go_ret
        exact HP.out _ _ HT.out HB.out
      · have t5 : ((low : Int) == 2139095040) = false := by rw [beq_eq_false_iff_ne]; omega
        go_wp2_with fail
        refine (at_23 2139095040 low wr (by omega)).mono ?_
        rintro en w1 ⟨rfl, b1⟩
        have hx : Rung.expo 23 low ≤ 4000 := by unfold Rung.expo; omega
        have hmn := Nat.lt_of_lt_of_le (Rung.mant_lt 23 low) (show 2 ^ (23 + 1) ≤ 9007199254740992 by decide)
        have d3 := (b1.cell (p := ⟨w.heap.size + 1, 0, none⟩) HD.out.lt).trans d3
        have d4 := (b1.cell (p := ⟨w.heap.size + 1, 1, none⟩) HD.out.lt).trans d4
        have d5 := (b1.cell (p := ⟨w.heap.size + 1, 2, none⟩) HD.out.lt).trans d5
        have B1 := Lib.hid (bthen HB.out b1)
        clear b1
        go_wp2_with fail
        have HU0 := Lib.hid (show ∀ R, Rung.Near 23 (rN s.data.toList e * 2 ^ 149) (rD e) R → Rung.up 23 (rN s.data.toList e * 2 ^ 149) (rD e) low = min R 2139095040 from fun R hR => by have := HN.out R hR; rwa [if_neg htop] at this)
        clear HN
        have c1 : Rung.mid2 23 low * rD e < 2 * (rN s.data.toList e * 2 ^ 149) ∨ (Rung.mid2 23 low * rD e = 2 * (rN s.data.toList e * 2 ^ 149) ∧ low % 2 = 1) ∨ (Rung.mid2 23 low * rD e = 2 * (rN s.data.toList e * 2 ^ 149) ∧ low % 2 ≠ 1) ∨ 2 * (rN s.data.toList e * 2 ^ 149) < Rung.mid2 23 low * rD e := by omega
        rcases c1 with c1 | ⟨c1, c2⟩ | ⟨c1, c2⟩ | c1
        · have HZ := Lib.hid (show cmpI (2 * (rN s.data.toList e * 2 ^ 149)) (Rung.mid2 23 low * rD e) = 1 by unfold cmpI; rw [if_neg (by omega), if_neg (by omega)])
          have HU := Lib.hid (show ∀ R, Rung.Near 23 (rN s.data.toList e * 2 ^ 149) (rD e) R → low + 1 = min R 2139095040 from fun R hR => by rw [← HU0.out R hR]; unfold Rung.up; rw [if_pos (.inl c1)])
          clear c1
          refine (agn_half 23 149 low neg s e _ _ w1 (by first | rfl | simp) (by first | rfl | simp) hs (by omega) (by omega) (by omega) (by decide) (by decide) hx).mono ?_
          rintro en w2 ⟨hen, b2⟩
          rw [HZ.out] at hen
          subst hen
          have B2 := Lib.hid (bthen B1.out b2)
          clear b2
          go_wp2_with fail
          go_ret
          exact HP.out _ (low + 1) HU.out B2.out
        · have HZ := Lib.hid (show cmpI (2 * (rN s.data.toList e * 2 ^ 149)) (Rung.mid2 23 low * rD e) = 0 by unfold cmpI; rw [if_neg (by omega), if_pos (by omega)])
          have HU := Lib.hid (show ∀ R, Rung.Near 23 (rN s.data.toList e * 2 ^ 149) (rD e) R → low + 1 = min R 2139095040 from fun R hR => by rw [← HU0.out R hR]; unfold Rung.up; rw [if_pos (.inr ⟨c1, c2⟩)])
          have t6 : ((low : Int) % 2 == 1) = true := by rw [beq_iff_eq]; omega
          clear c1 c2
          refine (agn_half 23 149 low neg s e _ _ w1 (by first | rfl | simp) (by first | rfl | simp) hs (by omega) (by omega) (by omega) (by decide) (by decide) hx).mono ?_
          rintro en w2 ⟨hen, b2⟩
          rw [HZ.out] at hen
          subst hen
          have B2 := Lib.hid (bthen B1.out b2)
          clear b2
          go_wp2_with fail
          go_ret
          exact HP.out _ (low + 1) HU.out B2.out
        · have HZ := Lib.hid (show cmpI (2 * (rN s.data.toList e * 2 ^ 149)) (Rung.mid2 23 low * rD e) = 0 by unfold cmpI; rw [if_neg (by omega), if_pos (by omega)])
          have HU := Lib.hid (show ∀ R, Rung.Near 23 (rN s.data.toList e * 2 ^ 149) (rD e) R → low = min R 2139095040 from fun R hR => by rw [← HU0.out R hR]; unfold Rung.up; rw [if_neg (by omega)])
          have t6 : ((low : Int) % 2 == 1) = false := by rw [beq_eq_false_iff_ne]; omega
          clear c1 c2
          refine (agn_half 23 149 low neg s e _ _ w1 (by first | rfl | simp) (by first | rfl | simp) hs (by omega) (by omega) (by omega) (by decide) (by decide) hx).mono ?_
          rintro en w2 ⟨hen, b2⟩
          rw [HZ.out] at hen
          subst hen
          have B2 := Lib.hid (bthen B1.out b2)
          clear b2
          go_wp2_with fail
          go_ret
          exact HP.out _ low HU.out B2.out
        · have HZ := Lib.hid (show cmpI (2 * (rN s.data.toList e * 2 ^ 149)) (Rung.mid2 23 low * rD e) = -1 by unfold cmpI; rw [if_pos (by omega)])
          have HU := Lib.hid (show ∀ R, Rung.Near 23 (rN s.data.toList e * 2 ^ 149) (rD e) R → low = min R 2139095040 from fun R hR => by rw [← HU0.out R hR]; unfold Rung.up; rw [if_neg (by omega)])
          clear c1
          refine (agn_half 23 149 low neg s e _ _ w1 (by first | rfl | simp) (by first | rfl | simp) hs (by omega) (by omega) (by omega) (by decide) (by decide) hx).mono ?_
          rintro en w2 ⟨hen, b2⟩
          rw [HZ.out] at hen
          subst hen
          have B2 := Lib.hid (bthen B1.out b2)
          clear b2
          go_wp2_with fail
          go_ret
          exact HP.out _ low HU.out B2.out
end Go.Proofs.YtncglbnnpdppjaaDoor.Num
namespace Go.Proofs.YtncglbnnpdppjaaDoor.Num
set_option exponentiation.threshold 3000
set_option linter.unusedVariables false
set_option linter.unusedSimpArgs false
open Go.RowKit Go.Proofs.YtncglbnnpdppjaaDoor.Mem Go.Proofs.YtncglbnnpdppjaaDoor.Own Go.Proofs.YtncglbnnpdppjaaDoor.Big
theorem rnear_w_52 (neg : Bool) (s : ByteArray) (e : Int) (w : World) (hs : HeadOk s.data.toList) (hsm : s.size < 140737488355328) (he1 : -1073741824 ≤ e) (he2 : e ≤ 1073741824) :
    Calls Tryd.prog 32 #[.agg #[.int .i64 52, .int .i64 (-1074), .int .u64 9218868437227405312], .agg #[.bool neg, .string s, .int .i64 e]] w (NearPost w (refF 52 1074 9218868437227405312 s.data.toList e)) := by
  have key : Calls Tryd.prog 32 #[.agg #[.int .i64 52, .int .i64 (-1074), .int .u64 9218868437227405312], .agg #[.bool neg, .string s, .int .i64 e]] w (RnPost w 52 1074 9218868437227405312 s.data.toList e) := by
    by_cases hx : s.data.toList = [] ∨ (s.data.toList.length : Int) + e < -400 ∨ 400 < (s.data.toList.length : Int) + e
    · exact rnear_out_52 neg s e w hsm he1 he2 hx
    · exact rnear_in_52 neg s e w hs.digs he1 he2 (fun h => hx (.inl h)) (fun h => hx (.inr (.inl h))) (fun h => hx (.inr (.inr h))) (by rw [Rung.W_zero, Nat.zero_mul]; exact Nat.zero_le _)
  refine key.mono fun en w' h => ?_
  obtain ⟨n, rfl, hb, h1, h2, h3⟩ := h
  exact ⟨by rw [ref_is (by decide) hs h1 h2 h3], hb⟩
theorem rnear_w_23 (neg : Bool) (s : ByteArray) (e : Int) (w : World) (hs : HeadOk s.data.toList) (hsm : s.size < 140737488355328) (he1 : -1073741824 ≤ e) (he2 : e ≤ 1073741824) :
    Calls Tryd.prog 32 #[.agg #[.int .i64 23, .int .i64 (-149), .int .u64 2139095040], .agg #[.bool neg, .string s, .int .i64 e]] w (NearPost w (refF 23 149 2139095040 s.data.toList e)) := by
  have key : Calls Tryd.prog 32 #[.agg #[.int .i64 23, .int .i64 (-149), .int .u64 2139095040], .agg #[.bool neg, .string s, .int .i64 e]] w (RnPost w 23 149 2139095040 s.data.toList e) := by
    by_cases hx : s.data.toList = [] ∨ (s.data.toList.length : Int) + e < -400 ∨ 400 < (s.data.toList.length : Int) + e
    · exact rnear_out_23 neg s e w hsm he1 he2 hx
    · exact rnear_in_23 neg s e w hs.digs he1 he2 (fun h => hx (.inl h)) (fun h => hx (.inr (.inl h))) (fun h => hx (.inr (.inr h))) (by rw [Rung.W_zero, Nat.zero_mul]; exact Nat.zero_le _)
  refine key.mono fun en w' h => ?_
  obtain ⟨n, rfl, hb, h1, h2, h3⟩ := h
  exact ⟨by rw [ref_is (by decide) hs h1 h2 h3], hb⟩
end Go.Proofs.YtncglbnnpdppjaaDoor.Num
namespace Go.Proofs.YtncglbnnpdppjaaDoor.Num
set_option exponentiation.threshold 3000
set_option linter.unusedVariables false
set_option linter.unusedSimpArgs false
open Go.RowKit Go.Proofs.YtncglbnnpdppjaaDoor.Mem Go.Proofs.YtncglbnnpdppjaaDoor.Own Go.Proofs.YtncglbnnpdppjaaDoor.Big
open Ieee (double single)

theorem refF_le (b K over : Nat) (l : List UInt8) (e : Int) : refF b K over l e ≤ over := by
  unfold refF
  split
  · omega
  · split <;> omega
/-- The number of the nearest float64, float32. -/
abbrev near64 (l : List UInt8) (e : Int) : Nat := refF 52 1074 9218868437227405312 l e
abbrev near32 (l : List UInt8) (e : Int) : Nat := refF 23 149 2139095040 l e
def ofV (neg : Bool) (n : Nat) : Value := if n = 9218868437227405312 then .tuple #[.float .f64 0, .int .i64 121] else .tuple #[.float .f64 (double.word neg n), .int .i64 0]
def OfPost (w : World) (neg : Bool) (n : Nat) (en : Ending) (w' : World) : Prop := en = .returned (ofV neg n) ∧ Below w.heap.size w w'
def OfNo (w : World) (en : Ending) (w' : World) : Prop := en = .returned (.tuple #[.float .f64 0, .int .i64 1]) ∧ Below w.heap.size w w'
theorem Form.canon {l : List UInt8} {e : Int} (h : Form l e) : Canon l ∧ -1073741824 ≤ e ∧ e ≤ 1073741824 := by
  rcases h with ⟨rfl, rfl⟩ | ⟨-, h, h1, h2⟩
  · exact ⟨⟨fun c hc => by simp at hc, fun c hc => by simp at hc, fun c hc => by simp at hc⟩, by decide, by decide⟩
  · exact ⟨h, h1, h2⟩
theorem or_sign {n : Nat} (h : n < 9223372036854775808) : bits .or .u64 (n : Int) 9223372036854775808 = ((9223372036854775808 + n : Nat) : Int) := by
  have h2 := (bits_nat .u64 64 (by decide) (fun n a b => wraps_u64 n a b) n 9223372036854775808 (by omega) (by omega)).2
  have h3 : n ||| 9223372036854775808 = 9223372036854775808 + n := by
    rw [Nat.or_comm]
    have := Nat.two_pow_add_eq_or_of_lt (i := 63) (b := n) (by omega) 1
    rw [Nat.mul_one] at this
    exact this.symm
  rw [h3] at h2
  exact h2
theorem frombits_run (x : Nat) (w : World) : (callFunc 30 #[.int .u64 (x : Nat)]).run Tryd.prog w = .ok (.value (.float .f64 x)) w := by
  rw [run_callFunc_extern Tryd.func30 (by kernel_rfl) (by kernel_rfl) (by kernel_rfl) (e := Extern.MathFloatBits.float64frombits) (by kernel_rfl)]
  rfl
theorem frombits_run' (z : Int) (x : Nat) (h : z = (x : Nat)) (w : World) : (callFunc 30 #[.int .u64 z]).run Tryd.prog w = .ok (.value (.float .f64 x)) w := by rw [h]; exact frombits_run x w
theorem nearest_52 (neg : Bool) (s : ByteArray) (e : Int) (w : World) (hf : Form s.data.toList e) (hsm : s.size < 140737488355328) :
    Calls Tryd.prog 29 #[.agg #[.bool neg, .string s, .int .i64 e], .int .i64 52, .int .i64 (-1074), .int .u64 9218868437227405312] w (NearPost w (near64 s.data.toList e)) := by
  obtain ⟨h, h1, h2⟩ := hf.canon
  have := nearest_w 52 1074 9218868437227405312 neg s e w h.ok hsm h1 h2 (by decide) (by decide) (by decide) (by decide)
  rw [near_is (by decide) (by decide) (by decide) h] at this
  exact this
set_option maxHeartbeats 4000000 in
set_option maxRecDepth 100000 in
theorem of_no (neg : Bool) (s : ByteArray) (e : Int) (w : World) (hf : ¬ Form s.data.toList e) (hsm : s.size < 140737488355328) :
    Calls Tryd.prog 11 #[.agg #[.bool neg, .string s, .int .i64 e]] w (OfNo w) := by
  have HF := Lib.hid (fun W => formed_w neg s e W hsm)
  have HN := Lib.hid hf
  clear hf
  go_enter Tryd.func11, Tryd.ntmps11
  go_wp2_with fail
  refine (HF.out _).mono ?_
  rintro en w1 ⟨b, rfl, hb, b1⟩
  obtain rfl : b = false := by
    cases b
    · rfl
    · exact absurd (hb.1 rfl) HN.out
  have B1 := Lib.hid (bthen ((Below.refl _ w).alloc (Nat.le_refl _) _) b1)
  clear hb b1
  go_wp2_with fail
  go_ret2
  exact ⟨rfl, B1.out⟩
set_option maxHeartbeats 4000000 in
set_option maxRecDepth 100000 in
theorem of_yes (neg : Bool) (s : ByteArray) (e : Int) (w : World) (hf : Form s.data.toList e) (hsm : s.size < 140737488355328) :
    Calls Tryd.prog 11 #[.agg #[.bool neg, .string s, .int .i64 e]] w (OfPost w neg (near64 s.data.toList e)) := by
  have HF := Lib.hid (fun W => formed_w neg s e W hsm)
  have HN := Lib.hid hf
  have HNR := Lib.hid (fun W => nearest_52 neg s e W hf hsm)
  have hb0 := Blk.new w 23 #[.bool neg, .string s, .int .i64 e]
  have HB0 := Lib.hid hb0
  have hle : near64 s.data.toList e ≤ 9218868437227405312 := refF_le _ _ _ _ _
  have hfr := frombits_run
  have HFR := Lib.hid hfr
  obtain ⟨n, hn⟩ : ∃ n, n = near64 s.data.toList e := ⟨_, rfl⟩
  rw [← hn] at hle HNR ⊢
  have HP := Lib.hid (or_sign (n := n) (by omega))
  clear hf hb0 hn hfr
  go_enter Tryd.func11, Tryd.ntmps11
  go_wp2_with fail
  refine (HF.out _).mono ?_
  rintro en w1 ⟨b, rfl, hb, b1⟩
  obtain rfl : b = true := hb.2 HN.out
  have HB1 := Lib.hid (HB0.out.below b1 HB0.out.lt)
  have B1 := Lib.hid (bthen ((Below.refl _ w).alloc (Nat.le_refl _) _) b1)
  have d0 := HB1.out.cell 0
  have d1 := HB1.out.cell 1
  have d2 := HB1.out.cell 2
  simp at d0 d1 d2
  clear hb b1
  go_wp2_with fail
  refine (HNR.out _).mono ?_
  rintro en w2 ⟨rfl, b2⟩
  have HB2 := Lib.hid (HB1.out.below b2 HB1.out.lt)
  have B2 := Lib.hid (bthen B1.out b2)
  have e0 := HB2.out.cell 0
  simp at e0
  clear b2
  by_cases htop : n = 9218868437227405312
  · subst htop
    go_wp2_with fail
    go_ret2
    exact ⟨rfl, B2.out⟩
  · have t1 : ((n : Int) == 9218868437227405312) = false := by rw [beq_eq_false_iff_ne]; omega
    have HT := Lib.hid htop
    clear htop
    cases neg
    · have hr := HFR.out n
      go_wp2_with fail
      go_ret2
      exact ⟨by unfold ofV; rw [if_neg HT.out]; rfl, B2.out⟩
    · have hr := frombits_run' (9223372036854775808 + (n : Int)) (9223372036854775808 + n) (by omega)
      have hor := HP.out
      go_wp2_with fail
      go_ret2
      exact ⟨by unfold ofV; rw [if_neg HT.out]; rfl, B2.out⟩
set_option maxHeartbeats 4000000 in
set_option maxRecDepth 100000 in
theorem rof_no (neg : Bool) (s : ByteArray) (e : Int) (w : World) (hf : ¬ Form s.data.toList e) (hsm : s.size < 140737488355328) :
    Calls Tryd.prog 12 #[.agg #[.bool neg, .string s, .int .i64 e]] w (OfNo w) := by
  have HF := Lib.hid (fun W => rformed_w neg s e W hsm)
  have HN := Lib.hid hf
  clear hf
  go_enter Tryd.func12, Tryd.ntmps12
  go_wp2_with fail
  refine (HF.out _).mono ?_
  rintro en w1 ⟨b, rfl, hb, b1⟩
  obtain rfl : b = false := by
    cases b
    · rfl
    · exact absurd (hb.1 rfl) HN.out
  have B1 := Lib.hid (bthen ((Below.refl _ w).alloc (Nat.le_refl _) _) b1)
  clear hb b1
  go_wp2_with fail
  go_ret2
  exact ⟨rfl, B1.out⟩
theorem ref_52 (neg : Bool) (s : ByteArray) (e : Int) (w : World) (hf : Form s.data.toList e) (hsm : s.size < 140737488355328) :
    Calls Tryd.prog 32 #[.agg #[.int .i64 52, .int .i64 (-1074), .int .u64 9218868437227405312], .agg #[.bool neg, .string s, .int .i64 e]] w (NearPost w (near64 s.data.toList e)) := by
  obtain ⟨h, h1, h2⟩ := hf.canon
  exact rnear_w_52 neg s e w h.ok hsm h1 h2
set_option maxHeartbeats 4000000 in
set_option maxRecDepth 100000 in
theorem rof_yes (neg : Bool) (s : ByteArray) (e : Int) (w : World) (hf : Form s.data.toList e) (hsm : s.size < 140737488355328) :
    Calls Tryd.prog 12 #[.agg #[.bool neg, .string s, .int .i64 e]] w (OfPost w neg (near64 s.data.toList e)) := by
  have HF := Lib.hid (fun W => rformed_w neg s e W hsm)
  have HN := Lib.hid hf
  have HNR := Lib.hid (fun W => ref_52 neg s e W hf hsm)
  have hb0 := Blk.new w 23 #[.bool neg, .string s, .int .i64 e]
  have HB0 := Lib.hid hb0
  have hle : near64 s.data.toList e ≤ 9218868437227405312 := refF_le _ _ _ _ _
  obtain ⟨n, hn⟩ : ∃ n, n = near64 s.data.toList e := ⟨_, rfl⟩
  rw [← hn] at hle HNR ⊢
  clear hf hb0 hn
  go_enter Tryd.func12, Tryd.ntmps12
  go_wp2_with fail
  refine (HF.out _).mono ?_
  rintro en w1 ⟨b, rfl, hb, b1⟩
  obtain rfl : b = true := hb.2 HN.out
  have HB1 := Lib.hid (HB0.out.below b1 HB0.out.lt)
  have B1 := Lib.hid (bthen ((Below.refl _ w).alloc (Nat.le_refl _) _) b1)
  have d0 := HB1.out.cell 0
  have d1 := HB1.out.cell 1
  have d2 := HB1.out.cell 2
  simp at d0 d1 d2
  clear hb b1
  go_wp2_with fail
  go_region_held3 (fun w' => w'.cell? ⟨w.heap.size, 0, none⟩ = some (.bool neg) ∧ w'.cell? ⟨w.heap.size, 1, none⟩ = some (.string s) ∧ w'.cell? ⟨w.heap.size, 2, none⟩ = some (.int .i64 e)) (first | exact ⟨d0, d1, d2⟩ | exact ⟨e0, e1, e2⟩ | exact ⟨g0, g1, g2⟩)
    ((first
    | (go_at_call 25; refine (long_w _).mono ?_; rintro en w2 ⟨rfl, b2⟩; have HB2 := Lib.hid ((HB1.out.drewN 1).below b2 (HB1.out.drewN 1).lt); have B2 := Lib.hid (bthen (bdrewN B1.out 1) b2); have e0 : w2.cell? ⟨w.heap.size, 0, none⟩ = some (.bool neg) := HB2.out.cell 0; have e1 : w2.cell? ⟨w.heap.size, 1, none⟩ = some (.string s) := HB2.out.cell 1; have e2 : w2.cell? ⟨w.heap.size, 2, none⟩ = some (.int .i64 e) := HB2.out.cell 2; clear b2)
    | (go_at_call 32; refine (HNR.out _).mono ?_; rintro en w3 ⟨rfl, b3⟩; have HB3 := Lib.hid (HB2.out.below b3 HB2.out.lt); have B3 := Lib.hid (bthen B2.out b3); have g0 : w3.cell? ⟨w.heap.size, 0, none⟩ = some (.bool neg) := HB3.out.cell 0; have g1 : w3.cell? ⟨w.heap.size, 1, none⟩ = some (.string s) := HB3.out.cell 1; have g2 : w3.cell? ⟨w.heap.size, 2, none⟩ = some (.int .i64 e) := HB3.out.cell 2; clear b3)))
  all_goals
    go_wp2_with fail
    refine (long_w _).mono ?_
    rintro en w4 ⟨rfl, b4⟩
    have HB4 := Lib.hid (HB3.out.below b4 HB3.out.lt)
    have B4 := Lib.hid (bthen B3.out b4)
    have i0 : w4.cell? ⟨w.heap.size, 0, none⟩ = some (.bool neg) := HB4.out.cell 0
    clear b4
    by_cases htop : n = 9218868437227405312
    · subst htop
      go_wp2_with (simp only [over_field])
      go_ret2
      exact ⟨rfl, B4.out⟩
    · have t1 : ((n : Int) == 9218868437227405312) = false := by rw [beq_eq_false_iff_ne]; omega
      have HT := Lib.hid htop
      clear htop
      go_wp2_with (simp only [over_field])
      refine (float_w neg n _ (by rw [inf_num]; have := HT.out; omega)).mono ?_
      rintro en w5 ⟨rfl, b5⟩
      have B5 := Lib.hid (bthen B4.out b5)
      clear b5
      go_wp2_with fail
      go_ret2
      exact ⟨by unfold ofV; rw [if_neg HT.out]; rfl, B5.out⟩
end Go.Proofs.YtncglbnnpdppjaaDoor.Num
namespace Go.Proofs.YtncglbnnpdppjaaDoor.Num
set_option exponentiation.threshold 3000
set_option linter.unusedVariables false
set_option linter.unusedSimpArgs false
set_option exponentiation.threshold 3000
open Go.RowKit Go.Proofs.YtncglbnnpdppjaaDoor.Mem Go.Proofs.YtncglbnnpdppjaaDoor.Own Go.Proofs.YtncglbnnpdppjaaDoor.Big
open Ieee (double single)

def ofV32 (neg : Bool) (n : Nat) : Value := if n = 2139095040 then .tuple #[.float .f32 0, .int .i64 121] else .tuple #[.float .f32 (single.word neg n), .int .i64 0]
def OfPost32 (w : World) (neg : Bool) (n : Nat) (en : Ending) (w' : World) : Prop := en = .returned (ofV32 neg n) ∧ Below w.heap.size w w'
def OfNo32 (w : World) (en : Ending) (w' : World) : Prop := en = .returned (.tuple #[.float .f32 0, .int .i64 1]) ∧ Below w.heap.size w w'
theorem sgl_inf : single.infRung = 2139095040 := by decide
theorem wraps_u32 (n : Int) (h₀ : 0 ≤ n) (h₁ : n < 2 ^ 32) : IntKind.u32.wrap n = n := by rw [IntKind.wrap_u32]; omega
theorem or_sign32 {n : Nat} (h : n < 2147483648) : bits .or .u32 (n : Int) 2147483648 = ((2147483648 + n : Nat) : Int) := by
  have h2 := (bits_nat .u32 32 (by decide) (fun n a b => wraps_u32 n a b) n 2147483648 (by omega) (by omega)).2
  have h3 : n ||| 2147483648 = 2147483648 + n := by
    rw [Nat.or_comm]
    have := Nat.two_pow_add_eq_or_of_lt (i := 31) (b := n) (by omega) 1
    rw [Nat.mul_one] at this
    exact this.symm
  rw [h3] at h2
  exact h2
theorem frombits32_run (x : Nat) (w : World) : (callFunc 33 #[.int .u32 (x : Nat)]).run Tryd.prog w = .ok (.value (.float .f32 x)) w := by
  rw [run_callFunc_extern Tryd.func33 (by kernel_rfl) (by kernel_rfl) (by kernel_rfl) (e := Extern.MathFloatBits.float32frombits) (by kernel_rfl)]
  rfl
theorem frombits32_run' (z : Int) (x : Nat) (h : z = (x : Nat)) (w : World) : (callFunc 33 #[.int .u32 z]).run Tryd.prog w = .ok (.value (.float .f32 x)) w := by rw [h]; exact frombits32_run x w
theorem nearest_23 (neg : Bool) (s : ByteArray) (e : Int) (w : World) (hf : Form s.data.toList e) (hsm : s.size < 140737488355328) :
    Calls Tryd.prog 29 #[.agg #[.bool neg, .string s, .int .i64 e], .int .i64 23, .int .i64 (-149), .int .u64 2139095040] w (NearPost w (near32 s.data.toList e)) := by
  obtain ⟨h, h1, h2⟩ := hf.canon
  have := nearest_w 23 149 2139095040 neg s e w h.ok hsm h1 h2 (by decide) (by decide) (by decide) (by decide)
  rw [near_is (by decide) (by decide) (by decide) h] at this
  exact this
theorem ref_23 (neg : Bool) (s : ByteArray) (e : Int) (w : World) (hf : Form s.data.toList e) (hsm : s.size < 140737488355328) :
    Calls Tryd.prog 32 #[.agg #[.int .i64 23, .int .i64 (-149), .int .u64 2139095040], .agg #[.bool neg, .string s, .int .i64 e]] w (NearPost w (near32 s.data.toList e)) := by
  obtain ⟨h, h1, h2⟩ := hf.canon
  exact rnear_w_23 neg s e w h.ok hsm h1 h2
theorem mant_24 (n : Nat) : Rung.mant 23 n < 16777216 := Nat.lt_of_lt_of_le (Rung.mant_lt 23 n) (by decide)
theorem expo_23 {n : Nat} (h : n < single.infRung) : Rung.expo 23 n ≤ 253 := by
  rw [sgl_inf] at h
  unfold Rung.expo
  omega
/-- The float64 of a short float's worth. -/
theorem float_any32 (neg : Bool) (n n' : Nat) (v : Int) (w : World) (hn : n < single.infRung) (hn' : n' < double.infRung) (hW : Rung.W 52 n' = Rung.W 23 n * 2 ^ 925) (hv : v = -149 + (Rung.expo 23 n : Nat)) :
    Calls Tryd.prog 36 #[.bool neg, .int .u64 (Rung.mant 23 n : Nat), .int .i64 v] w (FPost w (double.word neg n')) := by
  have hx := expo_23 hn
  have hm := mant_24 n
  have hW2 : Rung.W 52 n' = Rung.mant 23 n * 2 ^ (Rung.expo 23 n + 925) := by rw [hW]; unfold Rung.W; rw [Nat.pow_add]; grind
  by_cases h : 149 ≤ Rung.expo 23 n
  · obtain ⟨e, he⟩ : ∃ e, Rung.expo 23 n = 149 + e := ⟨Rung.expo 23 n - 149, by omega⟩
    obtain rfl : v = (e : Nat) := by omega
    exact float_up neg _ e n' w (by omega) hn' (by rw [hW2, he, show 149 + e + 925 = 1074 + e by omega]) (by omega)
  · obtain ⟨e, he⟩ : ∃ e, Rung.expo 23 n + e = 149 := ⟨149 - Rung.expo 23 n, by omega⟩
    obtain rfl : v = -(e : Nat) := by omega
    exact float_down neg _ e n' w (by omega) hn' (by omega) (by omega) (by rw [hW2, show 1074 - e = Rung.expo 23 n + 925 by omega])
theorem narrow_run {neg : Bool} {n n' : Nat} (hn : n < single.infRung) (hn' : n' < double.infRung) (hW : Rung.W 52 n' = Rung.W 23 n * 2 ^ 925) (w : World) :
    (convert 24 31 (.float .f64 (double.word neg n'))).run Tryd.prog w = .ok (.float .f32 (single.word neg n)) w := by
  refine run_convert_float_float w 24 31 .f64 .f32 _ _ (by rw [Tryd.underlying24]; rfl) Tryd.underlying31 ?_
  have h1 := Rung.narrow (s := neg) hn hn' hW
  rw [Rung.read_word hn'] at h1
  unfold floatToFloatBits
  rw [if_neg (by decide)]
  show (match double.read (double.word neg n') with | .nan _ _ => none | .infinity s => _ | .number s m e => if (single.read (single.write (.number s m e))).isInfinity then none else some (single.write (.number s m e))) = _
  rw [Rung.read_word hn']
  simp only []
  rw [h1, Rung.read_word hn]
  rfl
theorem widen_run {neg : Bool} {n n' : Nat} (hn : n < single.infRung) (hn' : n' < double.infRung) (hW : Rung.W 52 n' = Rung.W 23 n * 2 ^ 925) (w : World) :
    (convert 31 24 (.float .f32 (single.word neg n))).run Tryd.prog w = .ok (.float .f64 (double.word neg n')) w := by
  refine run_convert_float_float w 31 24 .f32 .f64 _ _ (by rw [Tryd.underlying31]; rfl) Tryd.underlying24 ?_
  have h1 := Rung.widen (s := neg) hn hn' hW
  rw [Rung.read_word hn] at h1
  unfold floatToFloatBits
  rw [if_neg (by decide)]
  show (match single.read (single.word neg n) with | .nan _ _ => none | .infinity s => _ | .number s m e => if (double.read (double.write (.number s m e))).isInfinity then none else some (double.write (.number s m e))) = _
  rw [Rung.read_word hn]
  simp only []
  rw [h1, Rung.read_word hn']
  rfl
set_option maxHeartbeats 4000000 in
set_option maxRecDepth 100000 in
theorem of32_no (neg : Bool) (s : ByteArray) (e : Int) (w : World) (hf : ¬ Form s.data.toList e) (hsm : s.size < 140737488355328) :
    Calls Tryd.prog 15 #[.agg #[.bool neg, .string s, .int .i64 e]] w (OfNo32 w) := by
  have HF := Lib.hid (fun W => formed_w neg s e W hsm)
  have HN := Lib.hid hf
  clear hf
  go_enter Tryd.func15, Tryd.ntmps15
  go_wp2_with fail
  refine (HF.out _).mono ?_
  rintro en w1 ⟨b, rfl, hb, b1⟩
  obtain rfl : b = false := by
    cases b
    · rfl
    · exact absurd (hb.1 rfl) HN.out
  have B1 := Lib.hid (bthen ((Below.refl _ w).alloc (Nat.le_refl _) _) b1)
  clear hb b1
  go_wp2_with fail
  go_ret2
  exact ⟨rfl, B1.out⟩
set_option maxHeartbeats 4000000 in
set_option maxRecDepth 100000 in
theorem of32_yes (neg : Bool) (s : ByteArray) (e : Int) (w : World) (hf : Form s.data.toList e) (hsm : s.size < 140737488355328) :
    Calls Tryd.prog 15 #[.agg #[.bool neg, .string s, .int .i64 e]] w (OfPost32 w neg (near32 s.data.toList e)) := by
  have HF := Lib.hid (fun W => formed_w neg s e W hsm)
  have HN := Lib.hid hf
  have HNR := Lib.hid (fun W => nearest_23 neg s e W hf hsm)
  have hb0 := Blk.new w 23 #[.bool neg, .string s, .int .i64 e]
  have HB0 := Lib.hid hb0
  have hle : near32 s.data.toList e ≤ 2139095040 := refF_le _ _ _ _ _
  have hfr := frombits32_run
  have HFR := Lib.hid hfr
  obtain ⟨n, hn⟩ : ∃ n, n = near32 s.data.toList e := ⟨_, rfl⟩
  rw [← hn] at hle HNR ⊢
  have HP := Lib.hid (or_sign32 (n := n) (by omega))
  clear hf hb0 hn hfr
  go_enter Tryd.func15, Tryd.ntmps15
  go_wp2_with fail
  refine (HF.out _).mono ?_
  rintro en w1 ⟨b, rfl, hb, b1⟩
  obtain rfl : b = true := hb.2 HN.out
  have HB1 := Lib.hid (HB0.out.below b1 HB0.out.lt)
  have B1 := Lib.hid (bthen ((Below.refl _ w).alloc (Nat.le_refl _) _) b1)
  have d0 := HB1.out.cell 0
  have d1 := HB1.out.cell 1
  have d2 := HB1.out.cell 2
  simp at d0 d1 d2
  clear hb b1
  go_wp2_with fail
  refine (HNR.out _).mono ?_
  rintro en w2 ⟨rfl, b2⟩
  have HB2 := Lib.hid (HB1.out.below b2 HB1.out.lt)
  have B2 := Lib.hid (bthen B1.out b2)
  have e0 := HB2.out.cell 0
  simp at e0
  clear b2
  by_cases htop : n = 2139095040
  · subst htop
    go_wp2_with fail
    go_ret2
    exact ⟨rfl, B2.out⟩
  · have t1 : ((n : Int) == 2139095040) = false := by rw [beq_eq_false_iff_ne]; omega
    have HT := Lib.hid htop
    clear htop
    cases neg
    · have hr := HFR.out n
      go_wp2_with fail
      go_ret2
      exact ⟨by unfold ofV32; rw [if_neg HT.out]; rfl, B2.out⟩
    · have hr := frombits32_run' (2147483648 + (n : Int)) (2147483648 + n) (by omega)
      have hor := HP.out
      go_wp2_with fail
      go_ret2
      exact ⟨by unfold ofV32; rw [if_neg HT.out]; rfl, B2.out⟩
set_option maxHeartbeats 4000000 in
set_option maxRecDepth 100000 in
theorem rof32_no (neg : Bool) (s : ByteArray) (e : Int) (w : World) (hf : ¬ Form s.data.toList e) (hsm : s.size < 140737488355328) :
    Calls Tryd.prog 16 #[.agg #[.bool neg, .string s, .int .i64 e]] w (OfNo32 w) := by
  have HF := Lib.hid (fun W => rformed_w neg s e W hsm)
  have HN := Lib.hid hf
  clear hf
  go_enter Tryd.func16, Tryd.ntmps16
  go_wp2_with fail
  refine (HF.out _).mono ?_
  rintro en w1 ⟨b, rfl, hb, b1⟩
  obtain rfl : b = false := by
    cases b
    · rfl
    · exact absurd (hb.1 rfl) HN.out
  have B1 := Lib.hid (bthen ((Below.refl _ w).alloc (Nat.le_refl _) _) b1)
  clear hb b1
  go_wp2_with fail
  go_ret2
  exact ⟨rfl, B1.out⟩
set_option maxHeartbeats 4000000 in
set_option maxRecDepth 100000 in
theorem rof32_yes (neg : Bool) (s : ByteArray) (e : Int) (w : World) (hf : Form s.data.toList e) (hsm : s.size < 140737488355328) :
    Calls Tryd.prog 16 #[.agg #[.bool neg, .string s, .int .i64 e]] w (OfPost32 w neg (near32 s.data.toList e)) := by
  have HF := Lib.hid (fun W => rformed_w neg s e W hsm)
  have HN := Lib.hid hf
  have HNR := Lib.hid (fun W => ref_23 neg s e W hf hsm)
  have hb0 := Blk.new w 23 #[.bool neg, .string s, .int .i64 e]
  have HB0 := Lib.hid hb0
  have hle : near32 s.data.toList e ≤ 2139095040 := refF_le _ _ _ _ _
  obtain ⟨n, hn⟩ : ∃ n, n = near32 s.data.toList e := ⟨_, rfl⟩
  rw [← hn] at hle HNR ⊢
  clear hf hb0 hn
  go_enter Tryd.func16, Tryd.ntmps16
  go_wp2_with fail
  refine (HF.out _).mono ?_
  rintro en w1 ⟨b, rfl, hb, b1⟩
  obtain rfl : b = true := hb.2 HN.out
  have HB1 := Lib.hid (HB0.out.below b1 HB0.out.lt)
  have B1 := Lib.hid (bthen ((Below.refl _ w).alloc (Nat.le_refl _) _) b1)
  have d0 := HB1.out.cell 0
  have d1 := HB1.out.cell 1
  have d2 := HB1.out.cell 2
  simp at d0 d1 d2
  clear hb b1
  go_wp2_with fail
  go_region_held3 (fun w' => w'.cell? ⟨w.heap.size, 0, none⟩ = some (.bool neg) ∧ w'.cell? ⟨w.heap.size, 1, none⟩ = some (.string s) ∧ w'.cell? ⟨w.heap.size, 2, none⟩ = some (.int .i64 e)) (first | exact ⟨d0, d1, d2⟩ | exact ⟨e0, e1, e2⟩ | exact ⟨g0, g1, g2⟩)
    ((first
    | (go_at_call 34; refine (short_w _).mono ?_; rintro en w2 ⟨rfl, b2⟩; have HB2 := Lib.hid ((HB1.out.drewN 1).below b2 (HB1.out.drewN 1).lt); have B2 := Lib.hid (bthen (bdrewN B1.out 1) b2); have e0 : w2.cell? ⟨w.heap.size, 0, none⟩ = some (.bool neg) := HB2.out.cell 0; have e1 : w2.cell? ⟨w.heap.size, 1, none⟩ = some (.string s) := HB2.out.cell 1; have e2 : w2.cell? ⟨w.heap.size, 2, none⟩ = some (.int .i64 e) := HB2.out.cell 2; clear b2)
    | (go_at_call 32; refine (HNR.out _).mono ?_; rintro en w3 ⟨rfl, b3⟩; have HB3 := Lib.hid (HB2.out.below b3 HB2.out.lt); have B3 := Lib.hid (bthen B2.out b3); have g0 : w3.cell? ⟨w.heap.size, 0, none⟩ = some (.bool neg) := HB3.out.cell 0; have g1 : w3.cell? ⟨w.heap.size, 1, none⟩ = some (.string s) := HB3.out.cell 1; have g2 : w3.cell? ⟨w.heap.size, 2, none⟩ = some (.int .i64 e) := HB3.out.cell 2; clear b3)))
  all_goals
    go_wp2_with fail
    refine (short_w _).mono ?_
    rintro en w4 ⟨rfl, b4⟩
    have HB4 := Lib.hid (HB3.out.below b4 HB3.out.lt)
    have B4 := Lib.hid (bthen B3.out b4)
    have i0 : w4.cell? ⟨w.heap.size, 0, none⟩ = some (.bool neg) := HB4.out.cell 0
    clear b4
    by_cases htop : n = 2139095040
    · subst htop
      go_wp2_with (simp only [over_field_23])
      go_ret2
      exact ⟨rfl, B4.out⟩
    · have t1 : ((n : Int) == 2139095040) = false := by rw [beq_eq_false_iff_ne]; omega
      have HT := Lib.hid htop
      clear htop
      go_wp2_with (simp only [over_field_23])
      refine (short_w _).mono ?_
      rintro en w5 ⟨rfl, b5⟩
      have HB5 := Lib.hid (HB4.out.below b5 HB4.out.lt)
      have B5 := Lib.hid (bthen B4.out b5)
      clear b5
      go_wp2_with fail
      refine (at_23 2139095040 n _ (by omega)).mono ?_
      rintro en w6 ⟨rfl, b6⟩
      have HB6 := Lib.hid (HB5.out.below b6 HB5.out.lt)
      have B6 := Lib.hid (bthen B5.out b6)
      have j0 : w6.cell? ⟨w.heap.size, 0, none⟩ = some (.bool neg) := HB6.out.cell 0
      clear b6
      have hn : n < single.infRung := by rw [sgl_inf]; have := HT.out; omega
      obtain ⟨n', hn', hW⟩ := Rung.has_wide hn
      have HFA := Lib.hid (fun (v : Int) W (hv : v = -149 + (Rung.expo 23 n : Nat)) => float_any32 neg n n' v W hn hn' hW hv)
      have hcv := narrow_run (neg := neg) hn hn' hW
      have HCV := Lib.hid hcv
      clear hW hcv
      go_wp2_with fail
      refine (HFA.out _ _ (by first | rfl | simp)).mono ?_
      rintro en w7 ⟨rfl, hw7⟩
      subst hw7
      have hcv := HCV.out
      go_wp2_with (simp only [hcv])
      go_ret2
      exact ⟨by unfold ofV32; rw [if_neg HT.out]; rfl, B6.out⟩
end Go.Proofs.YtncglbnnpdppjaaDoor.Num
namespace Go.Proofs.YtncglbnnpdppjaaDoor.Num
set_option exponentiation.threshold 3000
set_option linter.unusedVariables false
set_option linter.unusedSimpArgs false
set_option exponentiation.threshold 3000
open Go.RowKit Go.Proofs.YtncglbnnpdppjaaDoor.Mem Go.Proofs.YtncglbnnpdppjaaDoor.Own Go.Proofs.YtncglbnnpdppjaaDoor.Big
open Ieee (double single)

theorem awk_64 : near64 [57, 48, 48, 55, 49, 57, 57, 50, 53, 52, 55, 52, 48, 57, 57, 51] 0 = 4845873199050653696 := by decide +kernel
theorem awk_32 : near32 [49, 54, 55, 55, 55, 50, 49, 55, 48, 48, 48, 48, 48, 48, 48, 48, 49] (-9) = 1266679809 := by decide +kernel
theorem awk_form1 : Form [57, 48, 48, 55, 49, 57, 57, 50, 53, 52, 55, 52, 48, 57, 57, 51] 0 :=
  .inr ⟨by decide, ⟨by unfold isDigs; decide, fun c hc => by cases hc; decide, fun c hc => by cases hc; decide⟩, by decide, by decide⟩
theorem awk_form2 : Form [49, 54, 55, 55, 55, 50, 49, 55, 48, 48, 48, 48, 48, 48, 48, 48, 49] (-9) :=
  .inr ⟨by decide, ⟨by unfold isDigs; decide, fun c hc => by cases hc; decide, fun c hc => by cases hc; decide⟩, by decide, by decide⟩
theorem awk_told : Told (xN (Rung.mant 52 4612811918334230528) (-1074 + (Rung.expo 52 4612811918334230528 : Nat))) [50, 53] 50 :=
  ⟨by unfold isDigs; decide, fun c hc => by cases hc; decide, fun c hc => by cases hc; decide, by decide +kernel⟩
theorem awk_tl : tl (xN (Rung.mant 52 4612811918334230528) (-1074 + (Rung.expo 52 4612811918334230528 : Nat))) = [50, 53] ∧ te (xN (Rung.mant 52 4612811918334230528) (-1074 + (Rung.expo 52 4612811918334230528 : Nat))) (xE (-1074 + (Rung.expo 52 4612811918334230528 : Nat))) = -1 := by
  obtain ⟨h1, h2⟩ := awk_told.tl
  refine ⟨h1.symm, ?_⟩
  rw [← h2, if_neg (by decide)]
  decide +kernel
def TruePost (w : World) (en : Ending) (w' : World) : Prop := en = .returned (.bool true) ∧ Below w.heap.size w w'
set_option maxHeartbeats 4000000 in
set_option maxRecDepth 100000 in
theorem awake_w (w : World) : Calls Tryd.prog 14 #[] w (TruePost w) := by
  have H1 := Lib.hid (fun W => of_yes false ⟨#[57, 48, 48, 55, 49, 57, 57, 50, 53, 52, 55, 52, 48, 57, 57, 51]⟩ 0 W awk_form1 (by decide))
  have H2 := Lib.hid (fun W => of32_yes false ⟨#[49, 54, 55, 55, 55, 50, 49, 55, 48, 48, 48, 48, 48, 48, 48, 48, 49]⟩ (-9) W awk_form2 (by decide))
  have H3 := Lib.hid (fun W => exact_yes true 4612811918334230528 W (by decide))
  go_enter Tryd.func14, Tryd.ntmps14
  go_wp2_with fail
  refine (H1.out _).mono ?_
  rintro en w1 ⟨rfl, b1⟩
  rw [show ofV false (near64 (⟨#[57, 48, 48, 55, 49, 57, 57, 50, 53, 52, 55, 52, 48, 57, 57, 51]⟩ : ByteArray).data.toList 0) = .tuple #[.float .f64 4845873199050653696, .int .i64 0] from by
    show ofV false (near64 [57, 48, 48, 55, 49, 57, 57, 50, 53, 52, 55, 52, 48, 57, 57, 51] 0) = _
    rw [awk_64]; rfl]
  have B1 := Lib.hid b1
  clear b1
  go_wp2_with fail
  refine (H2.out _).mono ?_
  rintro en w2 ⟨rfl, b2⟩
  rw [show ofV32 false (near32 (⟨#[49, 54, 55, 55, 55, 50, 49, 55, 48, 48, 48, 48, 48, 48, 48, 48, 49]⟩ : ByteArray).data.toList (-9)) = .tuple #[.float .f32 1266679809, .int .i64 0] from by
    show ofV32 false (near32 [49, 54, 55, 55, 55, 50, 49, 55, 48, 48, 48, 48, 48, 48, 48, 48, 49] (-9)) = _
    rw [awk_32]; rfl]
  have B2 := Lib.hid (bthen B1.out b2)
  clear b2
  go_wp2_with fail
  refine (show Calls Tryd.prog 17 #[.float .f64 13836183955189006336] w2 _ from H3.out w2).mono ?_
  rintro en w3 ⟨rfl, b3⟩
  rw [awk_tl.1, awk_tl.2]
  have B3 := Lib.hid (bthen B2.out b3)
  clear b3
  have o1 := (Ord.of (k := .f64) (x := 4845873199050653696) (y := 4845873199050653696) (o := some .eq) (by decide +kernel)).eq
  have o2 := (Ord.of (k := .f32) (x := 1266679809) (y := 1266679809) (o := some .eq) (by decide +kernel)).eq
  rw [eq_eq] at o1 o2
  unfold decV
  go_wp2_with fail
  go_ret
  exact ⟨rfl, B3.out.alloc B3.out.size _⟩
end Go.Proofs.YtncglbnnpdppjaaDoor.Num
