/- Chapters 13 and 14 (floats, shortest): contracts of the program's nearest and the reference's At, with the plain words on both. No conditions beside those that each contract names. -/
import Derived.Test.YtabmalnandbocaaGreatDoorMD
import Derived.Test.YtabmalnandbocaaGreatDoorMA
import Derived.Test.YtabmalnandbocaaGreatDoorME
namespace Go.Proofs.YtabmalnandbocaaGreatDoor.Num
set_option exponentiation.threshold 3000
set_option linter.unusedVariables false
set_option linter.unusedSimpArgs false
open Go.RowKit Go.Proofs.YtabmalnandbocaaGreatDoor.Mem Go.Proofs.YtabmalnandbocaaGreatDoor.Own Go.Proofs.YtabmalnandbocaaGreatDoor.Big

theorem pow_len {b n : Nat} (hb : b ≤ 4294967296) : (digs B (b ^ n)).length ≤ n + 1 := by
  refine digs_len_le hB ?_
  have h1 : b ^ n ≤ B ^ n := Nat.pow_le_pow_left (by rw [B_eq]; exact hb) n
  have h2 : 0 < B ^ n := Nat.pow_pos B_pos
  have h3 : B ^ n * 1 < B ^ n * B := Nat.mul_lt_mul_of_pos_left (by rw [B_eq]; decide) h2
  rw [Nat.pow_succ]
  omega
theorem small_len {x : Nat} (h : x < 18446744073709551616) : (digs B x).length ≤ 2 := digs_len_le hB (by
  rw [Nat.pow_two, B_eq]; omega)
set_option maxHeartbeats 4000000 in
theorem power_w (b n : Nat) (w : World) (hb0 : 0 < b) (hb : b ≤ 4294967296) (hn : n < 100000) :
    Calls Tryz.prog 79 #[.int .i64 (b : Nat), .int .i64 (n : Nat)] w (NewPost w (b ^ n)) := by
  have hb0' := Blk.new w 127 #[.bool false, .slice none 0 0]
  have HB0 := Lib.hid hb0'
  have HN1 := Lib.hid (newint_w b (w.alloc (.cells #[.bool false, .slice none 0 0] 127)) (by omega))
  clear hb0'
  go_enter Tryz.func79, Tryz.ntmps79
  go_wp2_with fail
  refine HN1.out.mono ?_
  rintro e w1 ⟨p, rfl, hp, h1, b1⟩
  have H1 := Lib.hid h1
  have B1 := Lib.hid b1
  have HN2 := Lib.hid (newint_w n w1 (by omega))
  clear h1 b1
  go_wp2_with fail
  refine HN2.out.mono ?_
  rintro e w2 ⟨q, rfl, hq, h2, b2⟩
  have hpl := pow_len (b := b) (n := n) hb
  have hA0 : IAny w2 w.heap.size := IAny.below (IAny.below ⟨_, _, _, _, HB0.out⟩ B1.out) b2
  have HE := Lib.hid (exp_w w.heap.size p q b n w2 hA0 (H1.out.below b2) h2 hb0 (by omega) (by have := small_len (x := b) (by omega); omega) (by have := small_len (x := n) (by omega); omega))
  have B2 := Lib.hid b2
  clear h2 b2 hA0 hpl
  go_wp2_with fail
  refine HE.out.mono ?_
  rintro e w3 ⟨rfl, h3, o3⟩
  have H3 := Lib.hid h3
  have O3 := Lib.hid o3
  clear h3 o3
  go_wp2_with fail
  go_ret
  exact ⟨w.heap.size, rfl, Nat.le_refl _, H3.out, only_new (bthen (bthen ((Below.refl _ w).alloc (Nat.le_refl _) _) B1.out) B2.out) (Nat.le_refl _) O3.out⟩
/-- A fraction divided by a power of two. -/
def DivdPost (w : World) (num den : Nat) (e : Int) (en : Ending) (w' : World) : Prop :=
  ∃ r u, en = .returned (.tuple #[.int .u64 (Rung.dQ num den e % 18446744073709551616 : Nat), .pointer (some ⟨r, 0, none⟩), .pointer (some ⟨u, 0, none⟩)]) ∧ IntAt w' r (Rung.dR num den e) ∧ IntAt w' u (Rung.dDen den e) ∧ w.heap.size ≤ r ∧ w.heap.size ≤ u ∧ r ≠ u ∧ Below w.heap.size w w'
theorem mul_pow_len {x n : Nat} : (digs B (x * 2 ^ n)).length ≤ (digs B x).length + n + 1 := by
  refine digs_len_le hB ?_
  have h1 := digs_lt hB x
  have h2 : 2 ^ n ≤ B ^ n := Nat.pow_le_pow_left hB n
  have h3 : 0 < B ^ n := Nat.pow_pos B_pos
  rw [Nat.pow_succ, Nat.pow_add]
  have h4 : x * 2 ^ n < B ^ (digs B x).length * B ^ n := Nat.lt_of_lt_of_le (Nat.mul_lt_mul_of_pos_right h1 (Nat.pow_pos (by decide))) (Nat.mul_le_mul_left _ h2)
  have h5 : B ^ (digs B x).length * B ^ n * 1 ≤ B ^ (digs B x).length * B ^ n * B := Nat.mul_le_mul_left _ B_pos
  omega
abbrev ZI : Obj := .cells #[.bool false, .slice none 0 0] 127
/-- Division by two new numbers. -/
theorem qr_new (w3 : World) (n0 u0 N D : Nat) (hn : IntAt w3 n0 N) (hu : IntAt w3 u0 D) (hD : D ≠ 0) (hm : (digs B N).length < 100000000) (hm' : (digs B D).length < 100000000) :
    Calls Tryz.prog 92 #[.pointer (some ⟨w3.heap.size, 0, none⟩), .pointer (some ⟨n0, 0, none⟩), .pointer (some ⟨u0, 0, none⟩), .pointer (some ⟨w3.heap.size + 1, 0, none⟩)] ((w3.alloc ZI).alloc ZI)
      fun e w' => e = .returned (.tuple #[.pointer (some ⟨w3.heap.size, 0, none⟩), .pointer (some ⟨w3.heap.size + 1, 0, none⟩)]) ∧ IntAt w' w3.heap.size (N / D) ∧ IntAt w' (w3.heap.size + 1) (N % D) ∧ IntAt w' u0 D ∧ Below w3.heap.size w3 w' := by
  have hbz := Blk.new w3 127 #[.bool false, .slice none 0 0]
  have hbr := Blk.new (w3.alloc ZI) 127 #[.bool false, .slice none 0 0]
  have hba : Below w3.heap.size w3 ((w3.alloc ZI).alloc ZI) := ((Below.refl _ w3).alloc (Nat.le_refl _) _).alloc (by simp) _
  rw [show (w3.alloc ZI).heap.size = w3.heap.size + 1 by simp] at hbr
  have hz : IAny ((w3.alloc ZI).alloc ZI) w3.heap.size := ⟨_, _, _, _, Blk.alloc hbz _⟩
  have hr : IAny ((w3.alloc ZI).alloc ZI) (w3.heap.size + 1) := ⟨_, _, _, _, hbr⟩
  have hn2 := hn.below hba
  have hu2 := hu.below hba
  have hul := hu.lt
  refine (quorem_w _ n0 u0 _ N D _ hz hn2 hu2 hr (by omega) hD hm hm').mono ?_
  rintro e w4 ⟨w5, rfl, h1, h2, o1, o2⟩
  have u1 := int_other hu2 hz (by omega) o1
  have r1 := any_other hr (by omega) o1
  have u2 := int_other u1 r1 (by omega) o2
  refine ⟨rfl, h1, h2, u2, hba.trans ?_⟩
  have b1 := o1.below (B := w3.heap.size) (Nat.le_refl _) hba.size
  exact b1.trans (o2.below (by omega) (Nat.le_trans hba.size o1.size))
set_option maxHeartbeats 8000000 in
set_option maxRecDepth 100000 in
theorem divided_w (p q num den : Nat) (e : Int) (w : World) (hp : IntAt w p num) (hq : IntAt w q den) (hd : den ≠ 0) (he1 : -100000 ≤ e) (he2 : e ≤ 100000) (hm : (digs B num).length < 1000000) (hm' : (digs B den).length < 1000000) :
    Calls Tryz.prog 59 #[.pointer (some ⟨p, 0, none⟩), .pointer (some ⟨q, 0, none⟩), .int .i64 e] w (DivdPost w num den e) := by
  have hb0 := Blk.new w 127 #[.bool false, .slice none 0 0]
  have HS1 := Lib.hid (iset_w w.heap.size p num _ ⟨_, _, _, _, hb0⟩ (hp.below ((Below.refl _ w).alloc (Nat.le_refl _) _)) (by omega))
  have HQ := Lib.hid hq
  clear hb0 hp hq
  go_enter Tryz.func59, Tryz.ntmps59
  go_wp2_with fail
  refine HS1.out.mono ?_
  rintro en w1 ⟨rfl, h1, o1⟩
  have b1 : Below w.heap.size w w1 := only_new ((Below.refl _ w).alloc (Nat.le_refl _) _) (Nat.le_refl _) o1
  have H1 := Lib.hid h1
  have B1 := Lib.hid b1
  have hb1 := Blk.new w1 127 #[.bool false, .slice none 0 0]
  have HS2 := Lib.hid (iset_w w1.heap.size q den _ ⟨_, _, _, _, hb1⟩ ((HQ.out.below b1).below ((Below.refl _ w1).alloc (Nat.le_refl _) _)) (by omega))
  clear h1 o1 b1 hb1
  go_wp2_with fail
  refine HS2.out.mono ?_
  rintro en w2 ⟨rfl, h2, o2⟩
  have b2 : Below w1.heap.size w1 w2 := only_new ((Below.refl _ w1).alloc (Nat.le_refl _) _) (Nat.le_refl _) o2
  have H2 := Lib.hid h2
  have H1' := Lib.hid (H1.out.below b2)
  have hne : w.heap.size ≠ w1.heap.size := by have := H1.out.lt; omega
  have B2 := Lib.hid (bthen B1.out b2)
  have hz1 := B1.out.size
  clear h2 o2 b2
  by_cases hpos : 0 ≤ e
  · obtain ⟨k, rfl⟩ := Int.eq_ofNat_of_zero_le hpos
    have t1 : decide ((0 : Int) ≤ (k : Int)) = true := by simp
    have hmp := mul_pow_len (x := den) (n := k)
    have HL := Lib.hid (lsh_w w1.heap.size w1.heap.size den k w2 H2.out.any H2.out (by omega) (by omega))
    have e1 : Rung.dDen den (k : Int) = den * 2 ^ k := rfl
    have e2 : Rung.dNum num (k : Int) = num := by unfold Rung.dNum; rw [show (-(k : Int)).toNat = 0 by omega, Nat.pow_zero, Nat.mul_one]
    have E1 := Lib.hid e1
    have E2 := Lib.hid e2
    clear e1 e2
    go_wp2_with fail
    refine HL.out.mono ?_
    rintro en w3 ⟨rfl, h3, o3⟩
    have hN := int_other H1'.out H2.out.any hne o3
    have hb3 := B2.out.trans (o3.below (by have := B1.out.size; omega) B2.out.size)
    have hd2 : den * 2 ^ k ≠ 0 := Nat.mul_ne_zero hd (Nat.ne_of_gt (Nat.pow_pos (by decide)))
    have HQR := Lib.hid (qr_new w3 w.heap.size w1.heap.size num (den * 2 ^ k) hN h3 hd2 (by omega) (by omega))
    have HB3 := Lib.hid hb3
    have HLT := Lib.hid h3.lt
    have HSZ := Lib.hid hb3.size
    clear h3 o3 hN hb3
    go_wp2_with fail
    refine HQR.out.mono ?_
    rintro en w4 ⟨rfl, hq4, hr4, hu4, hb4⟩
    have hql : (digs B (num / (den * 2 ^ k))).length < 10000000000 := by have := len_mono (Nat.div_le_self num (den * 2 ^ k)); omega
    have HU := Lib.hid (iu64_w w3.heap.size _ w4 hq4 hql)
    have HR4 := Lib.hid hr4
    have HU4 := Lib.hid hu4
    have HB4 := Lib.hid hb4
    clear hq4 hr4 hu4 hb4 hql hmp
    go_wp2_with fail
    refine HU.out.mono ?_
    rintro en w5 ⟨rfl, rfl⟩
    go_wp2_with fail
    refine bodyPost_ret (v := .tuple #[.int .u64 (num / (den * 2 ^ k) % 18446744073709551616 : Nat), .pointer (some ⟨w3.heap.size + 1, 0, none⟩), .pointer (some ⟨w1.heap.size, 0, none⟩)]) (by simp [results, Tryz.results59, go_sem]) rfl ?_
    have e3 : Rung.dQ num den (k : Int) = num / (den * 2 ^ k) := by unfold Rung.dQ; rw [E1.out, E2.out]
    have e4 : Rung.dR num den (k : Int) = num % (den * 2 ^ k) := by unfold Rung.dR; rw [E1.out, E2.out]
    refine ⟨_, _, by rw [e3], by rw [e4]; exact HR4.out, by rw [E1.out]; exact HU4.out, by have := HSZ.out; omega, hz1, by have := HLT.out; omega, HB3.out.trans (HB4.out.mono HSZ.out)⟩
  · obtain ⟨k, rfl⟩ : ∃ k : Nat, e = -(k : Int) := ⟨(-e).toNat, by omega⟩
    have t1 : decide ((0 : Int) ≤ -(k : Int)) = false := decide_eq_false hpos
    have hmp := mul_pow_len (x := num) (n := k)
    have HL := Lib.hid (lsh_w w.heap.size w.heap.size num k w2 H1'.out.any H1'.out (by omega) (by omega))
    have E1 := Lib.hid (show Rung.dDen den (-(k : Int)) = den by unfold Rung.dDen; rw [show (-(k : Int)).toNat = 0 by omega, Nat.pow_zero, Nat.mul_one])
    have E2 := Lib.hid (show Rung.dNum num (-(k : Int)) = num * 2 ^ k by unfold Rung.dNum; rw [show (- -(k : Int)).toNat = k by omega])
    have ek : - -(k : Int) = (k : Int) := by omega
    go_wp2_with fail
    refine HL.out.mono ?_
    rintro en w3 ⟨rfl, h3, o3⟩
    have hN := int_other H2.out H1'.out.any (fun e => hne e.symm) o3
    have hb3 := B2.out.trans (o3.below (Nat.le_refl _) B2.out.size)
    have hd2 : den ≠ 0 := hd
    have HQR := Lib.hid (qr_new w3 w.heap.size w1.heap.size (num * 2 ^ k) den h3 hN hd2 (by omega) (by omega))
    have HB3 := Lib.hid hb3
    have HLT := Lib.hid hN.lt
    have HSZ := Lib.hid hb3.size
    clear h3 o3 hN hb3
    go_wp2_with fail
    refine HQR.out.mono ?_
    rintro en w4 ⟨rfl, hq4, hr4, hu4, hb4⟩
    have hql : (digs B (num * 2 ^ k / den)).length < 10000000000 := by have := len_mono (Nat.div_le_self (num * 2 ^ k) den); omega
    have HU := Lib.hid (iu64_w w3.heap.size _ w4 hq4 hql)
    have HR4 := Lib.hid hr4
    have HU4 := Lib.hid hu4
    have HB4 := Lib.hid hb4
    clear hq4 hr4 hu4 hb4 hql hmp
    go_wp2_with fail
    refine HU.out.mono ?_
    rintro en w5 ⟨rfl, rfl⟩
    go_wp2_with fail
    refine bodyPost_ret (v := .tuple #[.int .u64 (num * 2 ^ k / den % 18446744073709551616 : Nat), .pointer (some ⟨w3.heap.size + 1, 0, none⟩), .pointer (some ⟨w1.heap.size, 0, none⟩)]) (by simp [results, Tryz.results59, go_sem]) rfl ?_
    have e3 : Rung.dQ num den (-(k : Int)) = num * 2 ^ k / den := by unfold Rung.dQ; rw [E1.out, E2.out]
    have e4 : Rung.dR num den (-(k : Int)) = num * 2 ^ k % den := by unfold Rung.dR; rw [E1.out, E2.out]
    refine ⟨_, _, by rw [e3], by rw [e4]; exact HR4.out, by rw [E1.out]; exact HU4.out, by have := HSZ.out; omega, hz1, by have := HLT.out; omega, HB3.out.trans (HB4.out.mono HSZ.out)⟩
end Go.Proofs.YtabmalnandbocaaGreatDoor.Num
namespace Go.Proofs.YtabmalnandbocaaGreatDoor.Num
set_option exponentiation.threshold 3000
set_option linter.unusedVariables false
set_option linter.unusedSimpArgs false
open Go.RowKit Go.Proofs.YtabmalnandbocaaGreatDoor.Mem Go.Proofs.YtabmalnandbocaaGreatDoor.Own Go.Proofs.YtabmalnandbocaaGreatDoor.Big

/-- A decimal's digits and exponent, cut. -/
def cutL (l : List UInt8) : List UInt8 := if 1200 < l.length then l.take 1200 ++ [49] else l
def cutE (l : List UInt8) (e : Int) : Int := if 1200 < l.length then e + ((l.length : Int) - 1201) else e
def FracPost (w : World) (l : List UInt8) (e : Int) (en : Ending) (w' : World) : Prop :=
  ∃ p q, en = .returned (.tuple #[.pointer (some ⟨p, 0, none⟩), .pointer (some ⟨q, 0, none⟩)]) ∧ IntAt w' p (dval (cutL l) * 10 ^ (cutE l e).toNat) ∧ IntAt w' q (10 ^ (-(cutE l e)).toNat) ∧ Below w.heap.size w w'
theorem cut_digs {l : List UInt8} (h : isDigs l) : isDigs (cutL l) := by
  unfold cutL
  split
  · intro c hc
    rcases List.mem_append.1 hc with h1 | h1
    · exact h.take 1200 c h1
    · rw [List.mem_singleton.1 h1]; decide
  · exact h
set_option maxHeartbeats 8000000 in
set_option maxRecDepth 100000 in
theorem fraction_long (s : ByteArray) (e : Int) (w : World) (hs : isDigs s.data.toList) (hl : 1200 < s.size) (hm : s.size < 2000000000) (he1 : -10000 ≤ cutE s.data.toList e) (he2 : cutE s.data.toList e ≤ 10000) :
    Calls Tryz.prog 57 #[.string s, .int .i64 e] w (FracPost w s.data.toList e) := by
  have t1 : decide ((1200 : Int) < (s.size : Int)) = true := by simp; omega
  have hll : 1200 < s.data.toList.length := by simpa using hl
  have hE : cutE s.data.toList e = e + ((s.size : Int) - 1200 - 1) := by unfold cutE; rw [if_pos hll]; simp; omega
  have hP : (s.extract 0 1200 ++ (⟨#[49]⟩ : ByteArray)).data.toList = cutL s.data.toList := by unfold cutL; rw [if_pos hll]; simp
  have hds := cut_digs hs
  have hPs : (s.extract 0 1200 ++ (⟨#[49]⟩ : ByteArray)).size = 1201 := by
    show (s.extract 0 1200 ++ (⟨#[49]⟩ : ByteArray)).data.size = 1201
    rw [← Array.length_toList, hP, cutL, if_pos hll, List.length_append, List.length_take, Nat.min_eq_left (by omega)]
    rfl
  rw [hE] at he1 he2
  obtain ⟨E, hEE⟩ : ∃ E, E = e + ((s.size : Int) - 1200 - 1) := ⟨_, rfl⟩
  rw [← hEE] at hE
  rw [← hP] at hds
  have hb0 := Blk.new w 127 #[.bool false, .slice none 0 0]
  have HSS := Lib.hid (setstr_w w.heap.size (s.extract 0 1200 ++ (⟨#[49]⟩ : ByteArray)) _ ⟨_, _, _, _, hb0⟩ hds (by omega) (by omega))
  have HE := Lib.hid hE.symm
  have HL := Lib.hid (congrArg dval hP)
  have HLEN := Lib.hid (show (digs B (dval (s.extract 0 1200 ++ (⟨#[49]⟩ : ByteArray)).data.toList)).length ≤ 10000 by have := dval_len hds; simp at this ⊢; omega)
  have HEE := Lib.hid hEE
  clear hb0 hE hP hds hEE hll
  go_enter Tryz.func57, Tryz.ntmps57
  go_wp2_with fail
  rw [← HEE.out] at he1 he2 ⊢
  refine HSS.out.mono ?_
  rintro en w1 ⟨rfl, h1, o1⟩
  have b1 : Below w.heap.size w w1 := only_new ((Below.refl _ w).alloc (Nat.le_refl _) _) (Nat.le_refl _) o1
  have H1 := Lib.hid h1
  have B1 := Lib.hid b1
  have hz1 := b1.size
  clear h1 o1 b1
  by_cases hpos : 0 ≤ E
  · obtain ⟨k, rfl⟩ := Int.eq_ofNat_of_zero_le hpos
    have t2 : decide ((0 : Int) ≤ (k : Int)) = true := by simp
    have HP := Lib.hid (power_w 10 k w1 (by decide) (by decide) (by omega))
    go_wp2_with fail
    refine HP.out.mono ?_
    rintro en w2 ⟨q, rfl, hq, h2, b2⟩
    have hpl := pow_len (b := 10) (n := k) (by decide)
    have HM := Lib.hid (imul_w w.heap.size w.heap.size q _ _ w2 (H1.out.below b2).any (H1.out.below b2) h2 (by have := HLEN.out; omega) (by omega))
    have B2 := Lib.hid (bthen B1.out b2)
    clear h2 b2 hpl
    go_wp2_with fail
    refine HM.out.mono ?_
    rintro en w3 ⟨rfl, h3, o3⟩
    have hb3 := B2.out.trans (o3.below (Nat.le_refl _) B2.out.size)
    have HN := Lib.hid (newint_w 1 w3 (by decide))
    have H3 := Lib.hid h3
    have HB3 := Lib.hid hb3
    clear h3 o3 hb3
    go_wp2_with fail
    refine HN.out.mono ?_
    rintro en w4 ⟨r, rfl, hr, h4, b4⟩
    have H4 := Lib.hid h4
    have H3' := Lib.hid (H3.out.below b4)
    have HB4 := Lib.hid (bthen HB3.out b4)
    clear h4 b4
    go_wp2_with fail
    go_ret2
    refine ⟨w.heap.size, r, rfl, ?_, ?_, HB4.out⟩
    · rw [← HL.out, ← HE.out]; exact H3'.out
    · rw [← HE.out, show (-(k : Int)).toNat = 0 by omega]; exact H4.out
  · obtain ⟨k, rfl⟩ : ∃ k : Nat, E = -(k : Int) := ⟨(-E).toNat, by omega⟩
    have t2 : decide ((0 : Int) ≤ -(k : Int)) = false := decide_eq_false hpos
    have ek : - -(k : Int) = (k : Int) := by omega
    have HP := Lib.hid (power_w 10 k w1 (by decide) (by decide) (by omega))
    go_wp2_with fail
    refine HP.out.mono ?_
    rintro en w2 ⟨q, rfl, hq, h2, b2⟩
    have H2 := Lib.hid h2
    have H1' := Lib.hid (H1.out.below b2)
    have B2 := Lib.hid (bthen B1.out b2)
    clear h2 b2
    go_wp2_with fail
    go_ret2
    refine ⟨w.heap.size, q, rfl, ?_, ?_, B2.out⟩
    · rw [← HL.out, ← HE.out, show (-(k : Int)).toNat = 0 by omega, Nat.pow_zero, Nat.mul_one]; exact H1'.out
    · rw [← HE.out, ek]; exact H2.out
set_option maxHeartbeats 8000000 in
set_option maxRecDepth 100000 in
theorem fraction_short (s : ByteArray) (E : Int) (w : World) (hs : isDigs s.data.toList) (h0 : 0 < s.size) (hl : s.size ≤ 1200) (he1 : -10000 ≤ E) (he2 : E ≤ 10000) :
    Calls Tryz.prog 57 #[.string s, .int .i64 E] w (FracPost w s.data.toList E) := by
  have t1 : decide ((1200 : Int) < (s.size : Int)) = false := by simp; omega
  have hll : ¬ 1200 < s.data.toList.length := by simp; omega
  have hb0 := Blk.new w 127 #[.bool false, .slice none 0 0]
  have HSS := Lib.hid (setstr_w w.heap.size s _ ⟨_, _, _, _, hb0⟩ hs h0 (by omega))
  have HE := Lib.hid (show E = cutE s.data.toList E by unfold cutE; rw [if_neg hll])
  have HL := Lib.hid (show dval s.data.toList = dval (cutL s.data.toList) by unfold cutL; rw [if_neg hll])
  have HLEN := Lib.hid (show (digs B (dval s.data.toList)).length ≤ 10000 by have := dval_len hs; simp at this ⊢; omega)
  clear hb0 hll
  go_enter Tryz.func57, Tryz.ntmps57
  go_wp2_with fail
  refine HSS.out.mono ?_
  rintro en w1 ⟨rfl, h1, o1⟩
  have b1 : Below w.heap.size w w1 := only_new ((Below.refl _ w).alloc (Nat.le_refl _) _) (Nat.le_refl _) o1
  have H1 := Lib.hid h1
  have B1 := Lib.hid b1
  have hz1 := b1.size
  clear h1 o1 b1
  by_cases hpos : 0 ≤ E
  · obtain ⟨k, rfl⟩ := Int.eq_ofNat_of_zero_le hpos
    have t2 : decide ((0 : Int) ≤ (k : Int)) = true := by simp
    have HP := Lib.hid (power_w 10 k w1 (by decide) (by decide) (by omega))
    go_wp2_with fail
    refine HP.out.mono ?_
    rintro en w2 ⟨q, rfl, hq, h2, b2⟩
    have hpl := pow_len (b := 10) (n := k) (by decide)
    have HM := Lib.hid (imul_w w.heap.size w.heap.size q _ _ w2 (H1.out.below b2).any (H1.out.below b2) h2 (by have := HLEN.out; omega) (by omega))
    have B2 := Lib.hid (bthen B1.out b2)
    clear h2 b2 hpl
    go_wp2_with fail
    refine HM.out.mono ?_
    rintro en w3 ⟨rfl, h3, o3⟩
    have hb3 := B2.out.trans (o3.below (Nat.le_refl _) B2.out.size)
    have HN := Lib.hid (newint_w 1 w3 (by decide))
    have H3 := Lib.hid h3
    have HB3 := Lib.hid hb3
    clear h3 o3 hb3
    go_wp2_with fail
    refine HN.out.mono ?_
    rintro en w4 ⟨r, rfl, hr, h4, b4⟩
    have H4 := Lib.hid h4
    have H3' := Lib.hid (H3.out.below b4)
    have HB4 := Lib.hid (bthen HB3.out b4)
    clear h4 b4
    go_wp2_with fail
    go_ret2
    refine ⟨w.heap.size, r, rfl, ?_, ?_, HB4.out⟩
    · rw [← HL.out, ← HE.out]; exact H3'.out
    · rw [← HE.out, show (-(k : Int)).toNat = 0 by omega]; exact H4.out
  · obtain ⟨k, rfl⟩ : ∃ k : Nat, E = -(k : Int) := ⟨(-E).toNat, by omega⟩
    have t2 : decide ((0 : Int) ≤ -(k : Int)) = false := decide_eq_false hpos
    have ek : - -(k : Int) = (k : Int) := by omega
    have HP := Lib.hid (power_w 10 k w1 (by decide) (by decide) (by omega))
    go_wp2_with fail
    refine HP.out.mono ?_
    rintro en w2 ⟨q, rfl, hq, h2, b2⟩
    have H2 := Lib.hid h2
    have H1' := Lib.hid (H1.out.below b2)
    have B2 := Lib.hid (bthen B1.out b2)
    clear h2 b2
    go_wp2_with fail
    go_ret2
    refine ⟨w.heap.size, q, rfl, ?_, ?_, B2.out⟩
    · rw [← HL.out, ← HE.out, show (-(k : Int)).toNat = 0 by omega, Nat.pow_zero, Nat.mul_one]; exact H1'.out
    · rw [← HE.out, ek]; exact H2.out
theorem fraction_w (s : ByteArray) (e : Int) (w : World) (hs : isDigs s.data.toList) (h0 : 0 < s.size) (hm : s.size < 2000000000) (he1 : -10000 ≤ cutE s.data.toList e) (he2 : cutE s.data.toList e ≤ 10000) :
    Calls Tryz.prog 57 #[.string s, .int .i64 e] w (FracPost w s.data.toList e) := by
  by_cases hl : 1200 < s.size
  · exact fraction_long s e w hs hl hm he1 he2
  · have hll : ¬ 1200 < s.data.toList.length := by simp; omega
    have hE : cutE s.data.toList e = e := by unfold cutE; rw [if_neg hll]
    rw [hE] at he1 he2
    exact fraction_short s e w hs h0 (by omega) he1 he2
end Go.Proofs.YtabmalnandbocaaGreatDoor.Num
namespace Go.Proofs.YtabmalnandbocaaGreatDoor.Num
set_option exponentiation.threshold 3000
set_option linter.unusedVariables false
set_option linter.unusedSimpArgs false
open Go.RowKit Go.Proofs.YtabmalnandbocaaGreatDoor.Mem Go.Proofs.YtabmalnandbocaaGreatDoor.Own Go.Proofs.YtabmalnandbocaaGreatDoor.Big

def numF (l : List UInt8) (e : Int) : Nat := dval (cutL l) * 10 ^ (cutE l e).toNat
def denF (l : List UInt8) (e : Int) : Nat := 10 ^ (-(cutE l e)).toNat
/-- The rung that the program finds. -/
def nearF (b K over : Nat) (l : List UInt8) (e : Int) : Nat :=
  if l = [] ∨ (l.length : Int) + e < -400 then 0 else if 400 < (l.length : Int) + e then over else min (Rung.rungF b K (numF l e) (denF l e)) over
theorem denF_pos (l : List UInt8) (e : Int) : denF l e ≠ 0 := Nat.ne_of_gt (Nat.pow_pos (by decide))
theorem dval_ge {l : List UInt8} {c : UInt8} (hl : isDigs (c :: l)) (hc : c.toNat ≠ 48) : 10 ^ l.length ≤ dval (c :: l) := by
  have h1 := hl c (by simp)
  have key : ∀ (l : List UInt8) (a : Nat), 1 ≤ a → 10 ^ l.length * a ≤ l.foldl (fun a c => a * 10 + (c.toNat - 48)) a := by
    intro l
    induction l with
    | nil => intro a _; simp
    | cons d l ih =>
      intro a ha
      have := ih (a * 10 + (d.toNat - 48)) (by omega)
      simp only [List.foldl_cons, List.length_cons, Nat.pow_succ]
      refine Nat.le_trans ?_ this
      rw [Nat.mul_assoc]
      exact Nat.mul_le_mul_left _ (by omega)
  have := key l (0 * 10 + (c.toNat - 48)) (by omega)
  show _ ≤ l.foldl _ _
  refine Nat.le_trans ?_ this
  exact Nat.le_mul_of_pos_right _ (by omega)
/-- A decimal's digits: the first one is no nought. -/
structure HeadOk (l : List UInt8) : Prop where
  digs : isDigs l
  head : ∀ c, l.head? = some c → c.toNat ≠ 48
theorem cutL_head {l : List UInt8} (h : HeadOk l) : HeadOk (cutL l) := by
  refine ⟨cut_digs h.digs, fun c hc => ?_⟩
  unfold cutL at hc
  split at hc
  · rename_i hl
    cases l with
    | nil => simp at hl
    | cons d l => exact h.head c (by simpa using hc)
  · exact h.head c hc
theorem dval_pos {l : List UInt8} (h : HeadOk l) (h0 : l ≠ []) : dval l ≠ 0 := by
  cases l with
  | nil => exact absurd rfl h0
  | cons c l =>
    have h1 := dval_ge h.digs (h.head c rfl)
    have h2 : 0 < 10 ^ l.length := Nat.pow_pos (by decide)
    omega
theorem cutL_ne {l : List UInt8} (h0 : l ≠ []) : cutL l ≠ [] := by
  unfold cutL; split
  · simp
  · exact h0
theorem numF_pos {l : List UInt8} (h : HeadOk l) (h0 : l ≠ []) (e : Int) : numF l e ≠ 0 :=
  Nat.mul_ne_zero (dval_pos (cutL_head h) (cutL_ne h0)) (Nat.ne_of_gt (Nat.pow_pos (by decide)))
theorem blen_le {n k : Nat} (h : n < 2 ^ k) : Rung.blen n ≤ k := by
  unfold Rung.blen
  split
  · omega
  · rename_i h0
    have := (Nat.log2_lt h0).2 h
    omega
theorem pow_B (k : Nat) : B ^ k = 2 ^ (32 * k) := by rw [Nat.pow_mul, show (2 : Nat) ^ 32 = B from rfl]
theorem blen_digs' {x k : Nat} (h : (digs B x).length ≤ k) : Rung.blen x ≤ 32 * k := by
  refine blen_le ?_
  have h1 := digs_lt hB x
  have h2 : B ^ (digs B x).length ≤ B ^ k := Nat.pow_le_pow_right B_pos h
  rw [pow_B k] at h2
  exact Nat.lt_of_lt_of_le h1 h2
theorem blen_digs {x : Nat} (h : (digs B x).length ≤ 20000) : Rung.blen x ≤ 640000 := blen_digs' h
/-- What is cut stands at the same places. -/
theorem cut_places (l : List UInt8) (e : Int) : ((cutL l).length : Int) + cutE l e = (l.length : Int) + e ∧ (cutL l).length ≤ 1201 := by
  unfold cutL cutE
  split
  · rw [List.length_append, List.length_take, Nat.min_eq_left (by omega)]
    simp
    omega
  · omega
theorem num_lt {l : List UInt8} (h : isDigs l) (e : Int) (hp : (l.length : Int) + e ≤ 400) : numF l e < denF l e * 10 ^ 400 := by
  have h1 := dval_lt (cut_digs h)
  obtain ⟨h2, -⟩ := cut_places l e
  unfold numF denF
  calc dval (cutL l) * 10 ^ (cutE l e).toNat < 10 ^ (cutL l).length * 10 ^ (cutE l e).toNat := Nat.mul_lt_mul_of_pos_right h1 (Nat.pow_pos (by decide))
    _ = 10 ^ ((cutL l).length + (cutE l e).toNat) := (Nat.pow_add ..).symm
    _ ≤ 10 ^ ((-(cutE l e)).toNat + 400) := Nat.pow_le_pow_right (by decide) (by omega)
    _ = 10 ^ (-(cutE l e)).toNat * 10 ^ 400 := Nat.pow_add ..
theorem ten_400 : (10 : Nat) ^ 400 ≤ 2 ^ 1330 := by decide +kernel
theorem blen_num {l : List UInt8} (h : isDigs l) (e : Int) (hp : (l.length : Int) + e ≤ 400) : Rung.blen (numF l e) ≤ Rung.blen (denF l e) + 1330 := by
  refine blen_le (Nat.lt_of_lt_of_le (num_lt h e hp) ?_)
  rw [Nat.pow_add]
  exact Nat.mul_le_mul (Nat.le_of_lt (Rung.blen_lt _)) ten_400
theorem num_len {l : List UInt8} (h : isDigs l) (e : Int) (he : cutE l e ≤ 10000) : (digs B (numF l e)).length ≤ 20000 := by
  refine digs_len_le hB ?_
  have h1 := dval_lt (cut_digs h)
  obtain ⟨-, h2⟩ := cut_places l e
  unfold numF
  calc dval (cutL l) * 10 ^ (cutE l e).toNat < 10 ^ (cutL l).length * 10 ^ (cutE l e).toNat := Nat.mul_lt_mul_of_pos_right h1 (Nat.pow_pos (by decide))
    _ = 10 ^ ((cutL l).length + (cutE l e).toNat) := (Nat.pow_add ..).symm
    _ ≤ B ^ ((cutL l).length + (cutE l e).toNat) := Nat.pow_le_pow_left (by rw [B_eq]; decide) _
    _ ≤ B ^ 20000 := Nat.pow_le_pow_right B_pos (by omega)
theorem den_len {l : List UInt8} (e : Int) (he : -10000 ≤ cutE l e) : (digs B (denF l e)).length ≤ 20000 := by
  have := pow_len (b := 10) (n := (-(cutE l e)).toNat) (by decide)
  unfold denF; omega
theorem str_ne0 {s : ByteArray} (h : s.data.toList ≠ []) : s.toList.isEmpty = false := by
  rw [List.isEmpty_eq_false_iff]
  intro e
  apply h
  rw [← ByteArray.toList_eq s, e]
theorem two53 {b : Nat} (h : b ≤ 52) : 2 ^ (b + 1) ≤ 9007199254740992 := Nat.pow_le_pow_right (n := 2) (by decide) (show b + 1 ≤ 53 by omega)
theorem dden_len {D : Nat} {E : Int} (h : (digs B D).length ≤ 20000) (hE : E ≤ 1330) : (digs B (Rung.dDen D E)).length ≤ 30000 := by
  have := mul_pow_len (x := D) (n := E.toNat)
  unfold Rung.dDen; omega
theorem dr_len {N D : Nat} {E : Int} (hD : D ≠ 0) (h : (digs B D).length ≤ 20000) (hE : E ≤ 1330) : (digs B (Rung.dR N D E)).length ≤ 30000 := by
  have h1 := dden_len h hE
  have h2 : Rung.dR N D E < Rung.dDen D E := Nat.mod_lt _ (Rung.dDen_pos (by omega) E)
  have := len_mono (Nat.le_of_lt h2)
  omega
theorem rung_top {b K q : Nat} {E : Int} (hb : b ≤ 52) (hK : K ≤ 1074) (h0 : -(K : Int) ≤ E) (h1 : E ≤ 1330) (hq : q ≤ 9007199254740992) : ∃ k : Nat, E + K = (k : Int) ∧ Rung.rung b K q E = k * 2 ^ b + q ∧ k * 2 ^ b < 11000000000000000000 ∧ k ≤ 2404 := by
  refine ⟨(E + K).toNat, by omega, rfl, ?_, by omega⟩
  have h2 : (E + K).toNat ≤ 2404 := by omega
  have h3 : 2 ^ b ≤ 4503599627370496 := Nat.pow_le_pow_right (n := 2) (by decide) hb
  have := Nat.mul_le_mul h2 h3
  omega
theorem wrap_rung {b k q : Nat} (h1 : k * 2 ^ b < 11000000000000000000) (h2 : q ≤ 9007199254740992) : IntKind.u64.wrap (IntKind.u64.wrap ((k : Int) * 2 ^ b) + (q : Int)) = ((k * 2 ^ b + q : Nat) : Int) := by
  have e : (k : Int) * 2 ^ b = ((k * 2 ^ b : Nat) : Int) := by simp
  have h3 := wraps_u64 ((k * 2 ^ b : Nat) : Int) (by omega) (by omega)
  rw [e, h3, wraps_u64 _ (by omega) (by omega)]
  simp
theorem wrap_rung1 {b k q : Nat} (h1 : k * 2 ^ b < 11000000000000000000) (h2 : q ≤ 9007199254740991) : IntKind.u64.wrap (IntKind.u64.wrap ((k : Int) * 2 ^ b) + ((q : Int) + 1)) = ((k * 2 ^ b + q + 1 : Nat) : Int) := by
  have := wrap_rung (b := b) (k := k) (q := q + 1) h1 (by omega)
  rw [Int.natCast_add, Int.natCast_one] at this
  rw [this, Nat.add_assoc]
theorem rung_up {b K q : Nat} {E : Int} : Rung.rung b K (q + 1) E = Rung.rung b K q E + 1 := rfl
theorem near_val {n : Nat} (m : Nat) (h : m = n) : Ending.returned (.int .u64 (m : Nat)) = .returned (.int .u64 (n : Nat)) := by rw [h]
theorem q_small {q b : Nat} (h : (q : Int) / 2 ^ b = 0) : q < 2 ^ b := by
  have e : (q : Int) / 2 ^ b = ((q / 2 ^ b : Nat) : Int) := by simp
  rw [e] at h
  exact (Nat.div_eq_zero_iff_lt (Nat.pow_pos (by decide))).1 (by omega)
theorem q_great {q b : Nat} (h : ¬ (q : Int) / 2 ^ b = 0) : ¬ q < 2 ^ b := by
  intro h2
  apply h
  have e : (q : Int) / 2 ^ b = ((q / 2 ^ b : Nat) : Int) := by simp
  rw [e, Nat.div_eq_of_lt h2]
  rfl
def NearPost (w : World) (x : Nat) (e : Ending) (w' : World) : Prop := e = .returned (.int .u64 (x : Nat)) ∧ Below w.heap.size w w'
set_option maxHeartbeats 8000000 in
set_option maxRecDepth 100000 in
theorem nearest_out (b K over : Nat) (neg : Bool) (s : ByteArray) (e : Int) (w : World) (hsm : s.size < 140737488355328) (he1 : -1073741824 ≤ e) (he2 : e ≤ 1073741824) (hx : s.data.toList = [] ∨ (s.data.toList.length : Int) + e < -400 ∨ 400 < (s.data.toList.length : Int) + e) :
    Calls Tryz.prog 35 #[.agg #[.bool neg, .string s, .int .i64 e], .int .i64 (b : Nat), .int .i64 (-(K : Int)), .int .u64 (over : Nat)] w (NearPost w (nearF b K over s.data.toList e)) := by
  have hlen : s.data.toList.length = s.size := by simp
  by_cases h0 : s.data.toList = []
  · obtain rfl : s = ⟨#[]⟩ := by
      rcases s with ⟨⟨l⟩⟩
      simp at h0
      rw [h0]
    have HF := Lib.hid (show nearF b K over (⟨#[]⟩ : ByteArray).data.toList e = 0 by unfold nearF; rw [if_pos (.inl rfl)])
    clear hx h0 hlen
    go_enter Tryz.func35, Tryz.ntmps35
    go_wp2_with fail
    go_ret
    rw [HF.out]
    exact ⟨rfl, (Below.refl _ w).alloc (Nat.le_refl _) _⟩
  · have hne : s.toList.isEmpty = false := str_ne0 h0
    by_cases h1 : (s.data.toList.length : Int) + e < -400
    · have HF := Lib.hid (show nearF b K over s.data.toList e = 0 by unfold nearF; rw [if_pos (.inr h1)])
      rw [hlen] at h1
      have t1 : decide ((s.size : Int) + e < -400) = true := decide_eq_true h1
      clear hx h0 hlen
      go_enter Tryz.func35, Tryz.ntmps35
      go_wp2_with fail
      go_ret
      rw [HF.out]
      exact ⟨rfl, (Below.refl _ w).alloc (Nat.le_refl _) _⟩
    · have h2 : 400 < (s.data.toList.length : Int) + e := by
        rcases hx with h | h | h
        · exact absurd h h0
        · exact absurd h h1
        · exact h
      have HF := Lib.hid (show nearF b K over s.data.toList e = over by unfold nearF; rw [if_neg (by intro h; rcases h with h | h; exact h0 h; exact h1 h), if_pos h2])
      rw [hlen] at h1 h2
      have t1 : decide ((s.size : Int) + e < -400) = false := decide_eq_false h1
      have t2 : decide (400 < (s.size : Int) + e) = true := decide_eq_true h2
      clear hx h0 hlen
      go_enter Tryz.func35, Tryz.ntmps35
      go_wp2_with fail
      go_ret
      rw [HF.out]
      exact ⟨rfl, (Below.refl _ w).alloc (Nat.le_refl _) _⟩
theorem rungF_of {b K N D : Nat} {E : Int} (h : Rung.pow1 b K N D = E) : Rung.rungF b K N D = Rung.rung b K (if Rung.dDen D E < 2 * Rung.dR N D E ∨ Rung.dDen D E = 2 * Rung.dR N D E ∧ Rung.dQ N D E % 2 = 1 then Rung.dQ N D E + 1 else Rung.dQ N D E) E := by
  unfold Rung.rungF; rw [h]
set_option maxHeartbeats 8000000 in
set_option maxRecDepth 100000 in
theorem nearest_in (b K over : Nat) (neg : Bool) (s : ByteArray) (e : Int) (w : World) (hs : HeadOk s.data.toList) (he1 : -1073741824 ≤ e) (he2 : e ≤ 1073741824) (h0 : s.data.toList ≠ []) (h1 : ¬ (s.data.toList.length : Int) + e < -400) (h2 : ¬ 400 < (s.data.toList.length : Int) + e)
    (hb1 : 1 ≤ b) (hb : b ≤ 52) (hK : K ≤ 1074) (hov : over < 18446744073709551616) :
    Calls Tryz.prog 35 #[.agg #[.bool neg, .string s, .int .i64 e], .int .i64 (b : Nat), .int .i64 (-(K : Int)), .int .u64 (over : Nat)] w (NearPost w (nearF b K over s.data.toList e)) := by
  have hlen : s.data.toList.length = s.size := by simp
  have hne : s.toList.isEmpty = false := str_ne0 h0
  have hs0 : 0 < s.size := by rw [← hlen]; exact List.length_pos_iff.2 h0
  have hcp := cut_places s.data.toList e
  have HF := Lib.hid (show nearF b K over s.data.toList e = min (Rung.rungF b K (numF s.data.toList e) (denF s.data.toList e)) over by unfold nearF; rw [if_neg (by intro h; rcases h with h | h; exact h0 h; exact h1 h), if_neg h2])
  have hN := numF_pos hs h0 e
  have hD := denF_pos s.data.toList e
  have hbn := blen_num hs.digs e (by omega)
  have hce1 : -10000 ≤ cutE s.data.toList e := by omega
  have hce2 : cutE s.data.toList e ≤ 10000 := by omega
  have hnl := num_len hs.digs e hce2
  have hdl := den_len (l := s.data.toList) e hce1
  have HFR := Lib.hid (fraction_w s e (w.alloc (.cells #[.bool neg, .string s, .int .i64 e] 32)) hs.digs hs0 (by omega) hce1 hce2)
  rw [hlen] at h1 h2
  have t1 : decide ((s.size : Int) + e < -400) = false := decide_eq_false h1
  have t2 : decide (400 < (s.size : Int) + e) = false := decide_eq_false h2
  have HP1 := Lib.hid (Rung.pow1_ok (b := b) (K := K) hN hD)
  change Hid (Calls _ _ _ _ (fun en w' => FracPost _ s.data.toList e en w')) at HFR
  unfold FracPost at HFR
  change Hid (Calls _ _ _ _ (fun en w' => ∃ p q, en = .returned (.tuple #[.pointer (some ⟨p, 0, none⟩), .pointer (some ⟨q, 0, none⟩)]) ∧ IntAt w' p (numF s.data.toList e) ∧ IntAt w' q (denF s.data.toList e) ∧ Below _ _ w')) at HFR
  generalize numF s.data.toList e = N at *
  generalize denF s.data.toList e = D at *
  clear hcp hce1 hce2 h0 hlen
  go_enter Tryz.func35, Tryz.ntmps35
  go_wp2_with fail
  refine HFR.out.mono ?_
  rintro en w1 ⟨p, q, rfl, hp, hq, b1⟩
  have HBN := Lib.hid (bitlen_w p N w1 hp (by omega))
  have HBD := Lib.hid (bitlen_w q D w1 hq (by omega))
  have HP := Lib.hid hp
  have HQ := Lib.hid hq
  have B1 := Lib.hid (bthen ((Below.refl _ w).alloc (Nat.le_refl _) _) b1)
  clear hp hq b1
  have hbN := blen_digs (x := N) hnl
  have hbD := blen_digs (x := D) hdl
  go_wp2_with fail
  refine HBN.out.mono ?_
  rintro en w2 ⟨rfl, rfl⟩
  go_wp2_with fail
  refine HBD.out.mono ?_
  rintro en w2 ⟨rfl, rfl⟩
  have hql : Rung.dQ N D (Rung.pow0 b K N D) < 18446744073709551616 := by
    have := Rung.guess_q (b := b) (e := Rung.pow0 b K N D) hN hD (by unfold Rung.pow0; omega)
    have := two53 hb
    omega
  have HQL := Lib.hid hql
  clear hql
  by_cases hc : -(K : Int) ≤ ((Rung.blen N : Nat) : Int) - ((Rung.blen D : Nat) : Int) - (b : Nat)
  · have hP : Rung.pow0 b K N D = ((Rung.blen N : Nat) : Int) - ((Rung.blen D : Nat) : Int) - (b : Nat) := by unfold Rung.pow0; omega
    have hX1 : ((Rung.blen N : Nat) : Int) - ((Rung.blen D : Nat) : Int) - (b : Nat) ≤ 1330 := by omega
    have t3 : decide (-(K : Int) ≤ ((Rung.blen N : Nat) : Int) - ((Rung.blen D : Nat) : Int) - (b : Nat)) = true := decide_eq_true hc
    go_wp2_with fail
    generalize ((Rung.blen N : Nat) : Int) - ((Rung.blen D : Nat) : Int) - (b : Nat) = X at hP hX1 hc ⊢
    rw [hP] at HQL
    have HD := Lib.hid (divided_w p q N D X w2 HP.out HQ.out hD (by omega) (by omega) (by omega) (by omega))
    refine HD.out.mono ?_
    rintro en w3 ⟨r, u, rfl, hr, hu, hrl, hul, hru, hb3⟩
    rw [Nat.mod_eq_of_lt HQL.out]
    clear t3
    go_wp2_with fail
    · rename_i k1 f1 k2 f2 k3 f3
      have hq2 := q_small (by assumption)
      have hk0 : -(K : Int) < X := by omega
      have hE : Rung.pow1 b K N D = X - 1 := by
        unfold Rung.pow1
        rw [hP, if_pos ⟨hq2, hk0⟩]
      have hE1 : -(K : Int) ≤ X - 1 := by omega
      have hE2 : X - 1 ≤ 1330 := by omega
      have HRLT := Lib.hid hr.lt
      have HD2 := Lib.hid (divided_w p q N D (X - 1) w3 (HP.out.below hb3) (HQ.out.below hb3) hD (by omega) (by omega) (by omega) (by omega))
      have hql2 : Rung.dQ N D (X - 1) < 18446744073709551616 := by
        have h1 := HP1.out.2.2
        rw [hE] at h1
        have := two53 hb
        omega
      refine HD2.out.mono ?_
      rintro en w5 ⟨r, u, rfl, hr, hu, hrl', hul', hru, hb5⟩
      rw [Nat.mod_eq_of_lt hql2]
      have hb3 := bthen hb3 hb5
      have hrl := Nat.le_trans hrl (Nat.le_trans (Nat.le_of_lt HRLT.out) hrl')
      go_wp2_with fail
      have hq53 : Rung.dQ N D (X - 1) ≤ 9007199254740991 := by
        have h1 := HP1.out.2.2
        rw [hE] at h1
        have := two53 hb
        omega
      have HL := Lib.hid (lsh_w r r (Rung.dR N D (X - 1)) 1 w5 hr.any hr (by have := dr_len (N := N) hD hdl hE2; omega) (by decide))
      have HU := Lib.hid hu
      have HR := Lib.hid hr.any
      have HB3 := Lib.hid hb3
      clear hr hu hb3
      refine HL.out.mono ?_
      rintro en w6 ⟨rfl, h6, o6⟩
      have hu6 := int_other HU.out HR.out (fun e => hru e.symm) o6
      have hl6 : (digs B (Rung.dR N D (X - 1) * 2 ^ 1)).length < 10000000000 := by
        have := dr_len (N := N) hD hdl hE2
        have := mul_pow_len (x := Rung.dR N D (X - 1)) (n := 1)
        omega
      have HC := Lib.hid (icmp_w r u _ _ w6 h6 hu6 hl6 (by have := dden_len hdl hE2; omega))
      have HFI := Lib.hid (HF.out.trans (congrArg (min · over) (rungF_of (b := b) (K := K) hE)))
      have hbw : Below w.heap.size w w6 := bthen B1.out (HB3.out.trans (o6.below hrl HB3.out.size))
      have HBW := Lib.hid hbw
      clear h6 hu6 o6 hl6 hbw
      go_wp2_with fail
      refine HC.out.mono ?_
      rintro en w7 ⟨rfl, kd, rfl⟩
      have h2p : Rung.dR N D (X - 1) * 2 ^ 1 = 2 * Rung.dR N D (X - 1) := by rw [Nat.pow_one, Nat.mul_comm]
      rw [h2p]
      obtain ⟨k, hk1, hk2, hk3, hk4⟩ := rung_top (b := b) (q := Rung.dQ N D (X - 1)) hb hK hE1 hE2 (by omega)
      obtain rfl : X = (k : Int) - K + 1 := by omega
      have e1 : (k : Int) - K + 1 - 1 = (k : Int) - K := by omega
      simp only [e1] at *
      have ek : (k : Int) - K - -K = k := by omega
      rcases Nat.lt_trichotomy (2 * Rung.dR N D ((k : Int) - K)) (Rung.dDen D ((k : Int) - K)) with hcmp | hcmp | hcmp
      · rw [← cmpI_lt hcmp]
        have hR := HFI.out
        rw [if_neg (by omega), hk2] at hR
        have HW := Lib.hid (wrap_rung (b := b) (k := k) (q := Rung.dQ N D ((k : Int) - K)) hk3 (by omega))
        have HR2 := Lib.hid hR
        clear hR
        go_wp2_with fail
        all_goals
          have hw := HW.out
          simp only [hw] at *
          go_ret
          first
            | exact ⟨near_val (over : Nat) (by rw [HR2.out]; omega), bdrewN HBW.out kd⟩
            | exact ⟨near_val (k * 2 ^ b + Rung.dQ N D ((k : Int) - K)) (by rw [HR2.out]; omega), bdrewN HBW.out kd⟩
      · rw [← cmpI_eq hcmp]
        by_cases hodd : Rung.dQ N D ((k : Int) - K) % 2 = 1
        · have t5 : decide (Rung.dQ N D ((k : Int) - K) % 2 = 1) = true := decide_eq_true hodd
          have hR := HFI.out
          rw [if_pos (by omega), rung_up, hk2] at hR
          have HW := Lib.hid (wrap_rung1 (b := b) (k := k) (q := Rung.dQ N D ((k : Int) - K)) hk3 (by omega))
          have HR2 := Lib.hid hR
          clear hR
          go_wp2_with fail
          all_goals
            have hw := HW.out
            simp only [hw] at *
            go_ret
            first
              | exact ⟨near_val (over : Nat) (by rw [HR2.out]; omega), bdrewN HBW.out kd⟩
              | exact ⟨near_val (k * 2 ^ b + Rung.dQ N D ((k : Int) - K) + 1) (by rw [HR2.out]; omega), bdrewN HBW.out kd⟩
        · have t5 : decide (Rung.dQ N D ((k : Int) - K) % 2 = 1) = false := decide_eq_false hodd
          have hR := HFI.out
          rw [if_neg (by omega), hk2] at hR
          have HW := Lib.hid (wrap_rung (b := b) (k := k) (q := Rung.dQ N D ((k : Int) - K)) hk3 (by omega))
          have HR2 := Lib.hid hR
          clear hR
          go_wp2_with fail
          all_goals
            have hw := HW.out
            simp only [hw] at *
            go_ret
            first
              | exact ⟨near_val (over : Nat) (by rw [HR2.out]; omega), bdrewN HBW.out kd⟩
              | exact ⟨near_val (k * 2 ^ b + Rung.dQ N D ((k : Int) - K)) (by rw [HR2.out]; omega), bdrewN HBW.out kd⟩
      · rw [← cmpI_gt hcmp]
        have hR := HFI.out
        rw [if_pos (by omega), rung_up, hk2] at hR
        have HW := Lib.hid (wrap_rung1 (b := b) (k := k) (q := Rung.dQ N D ((k : Int) - K)) hk3 (by omega))
        have HR2 := Lib.hid hR
        clear hR
        go_wp2_with fail
        all_goals
          have hw := HW.out
          simp only [hw] at *
          go_ret
          first
            | exact ⟨near_val (over : Nat) (by rw [HR2.out]; omega), bdrewN HBW.out kd⟩
            | exact ⟨near_val (k * 2 ^ b + Rung.dQ N D ((k : Int) - K) + 1) (by rw [HR2.out]; omega), bdrewN HBW.out kd⟩
    · have hE : Rung.pow1 b K N D = X := by
        unfold Rung.pow1
        rw [hP, if_neg (by omega)]
      have hE1 := hc
      have hE2 := hX1
      have hq53 : Rung.dQ N D X ≤ 9007199254740991 := by
        have h1 := HP1.out.2.2
        rw [hE] at h1
        have := two53 hb
        omega
      have HL := Lib.hid (lsh_w r r (Rung.dR N D X) 1 w3 hr.any hr (by have := dr_len (N := N) hD hdl hE2; omega) (by decide))
      have HU := Lib.hid hu
      have HR := Lib.hid hr.any
      have HB3 := Lib.hid hb3
      clear hr hu hb3
      refine HL.out.mono ?_
      rintro en w6 ⟨rfl, h6, o6⟩
      have hu6 := int_other HU.out HR.out (fun e => hru e.symm) o6
      have hl6 : (digs B (Rung.dR N D X * 2 ^ 1)).length < 10000000000 := by
        have := dr_len (N := N) hD hdl hE2
        have := mul_pow_len (x := Rung.dR N D X) (n := 1)
        omega
      have HC := Lib.hid (icmp_w r u _ _ w6 h6 hu6 hl6 (by have := dden_len hdl hE2; omega))
      have HFI := Lib.hid (HF.out.trans (congrArg (min · over) (rungF_of (b := b) (K := K) hE)))
      have hbw : Below w.heap.size w w6 := bthen B1.out (HB3.out.trans (o6.below hrl HB3.out.size))
      have HBW := Lib.hid hbw
      clear h6 hu6 o6 hl6 hbw
      go_wp2_with fail
      refine HC.out.mono ?_
      rintro en w7 ⟨rfl, kd, rfl⟩
      have h2p : Rung.dR N D X * 2 ^ 1 = 2 * Rung.dR N D X := by rw [Nat.pow_one, Nat.mul_comm]
      rw [h2p]
      obtain ⟨k, hk1, hk2, hk3, hk4⟩ := rung_top (b := b) (q := Rung.dQ N D X) hb hK hE1 hE2 (by omega)
      obtain rfl : X = (k : Int) - K := by omega
      have ek : (k : Int) - K - -K = k := by omega
      rcases Nat.lt_trichotomy (2 * Rung.dR N D ((k : Int) - K)) (Rung.dDen D ((k : Int) - K)) with hcmp | hcmp | hcmp
      · rw [← cmpI_lt hcmp]
        have hR := HFI.out
        rw [if_neg (by omega), hk2] at hR
        have HW := Lib.hid (wrap_rung (b := b) (k := k) (q := Rung.dQ N D ((k : Int) - K)) hk3 (by omega))
        have HR2 := Lib.hid hR
        clear hR
        go_wp2_with fail
        all_goals
          have hw := HW.out
          simp only [hw] at *
          go_ret
          first
            | exact ⟨near_val (over : Nat) (by rw [HR2.out]; omega), bdrewN HBW.out kd⟩
            | exact ⟨near_val (k * 2 ^ b + Rung.dQ N D ((k : Int) - K)) (by rw [HR2.out]; omega), bdrewN HBW.out kd⟩
      · rw [← cmpI_eq hcmp]
        by_cases hodd : Rung.dQ N D ((k : Int) - K) % 2 = 1
        · have t5 : decide (Rung.dQ N D ((k : Int) - K) % 2 = 1) = true := decide_eq_true hodd
          have hR := HFI.out
          rw [if_pos (by omega), rung_up, hk2] at hR
          have HW := Lib.hid (wrap_rung1 (b := b) (k := k) (q := Rung.dQ N D ((k : Int) - K)) hk3 (by omega))
          have HR2 := Lib.hid hR
          clear hR
          go_wp2_with fail
          all_goals
            have hw := HW.out
            simp only [hw] at *
            go_ret
            first
              | exact ⟨near_val (over : Nat) (by rw [HR2.out]; omega), bdrewN HBW.out kd⟩
              | exact ⟨near_val (k * 2 ^ b + Rung.dQ N D ((k : Int) - K) + 1) (by rw [HR2.out]; omega), bdrewN HBW.out kd⟩
        · have t5 : decide (Rung.dQ N D ((k : Int) - K) % 2 = 1) = false := decide_eq_false hodd
          have hR := HFI.out
          rw [if_neg (by omega), hk2] at hR
          have HW := Lib.hid (wrap_rung (b := b) (k := k) (q := Rung.dQ N D ((k : Int) - K)) hk3 (by omega))
          have HR2 := Lib.hid hR
          clear hR
          go_wp2_with fail
          all_goals
            have hw := HW.out
            simp only [hw] at *
            go_ret
            first
              | exact ⟨near_val (over : Nat) (by rw [HR2.out]; omega), bdrewN HBW.out kd⟩
              | exact ⟨near_val (k * 2 ^ b + Rung.dQ N D ((k : Int) - K)) (by rw [HR2.out]; omega), bdrewN HBW.out kd⟩
      · rw [← cmpI_gt hcmp]
        have hR := HFI.out
        rw [if_pos (by omega), rung_up, hk2] at hR
        have HW := Lib.hid (wrap_rung1 (b := b) (k := k) (q := Rung.dQ N D ((k : Int) - K)) hk3 (by omega))
        have HR2 := Lib.hid hR
        clear hR
        go_wp2_with fail
        all_goals
          have hw := HW.out
          simp only [hw] at *
          go_ret
          first
            | exact ⟨near_val (over : Nat) (by rw [HR2.out]; omega), bdrewN HBW.out kd⟩
            | exact ⟨near_val (k * 2 ^ b + Rung.dQ N D ((k : Int) - K) + 1) (by rw [HR2.out]; omega), bdrewN HBW.out kd⟩
    · have hq2 := q_great (b := b) (q := Rung.dQ N D X) (by assumption)
      have hE : Rung.pow1 b K N D = X := by
        unfold Rung.pow1
        rw [hP, if_neg (by omega)]
      have hE1 := hc
      have hE2 := hX1
      have hq53 : Rung.dQ N D X ≤ 9007199254740991 := by
        have h1 := HP1.out.2.2
        rw [hE] at h1
        have := two53 hb
        omega
      have HL := Lib.hid (lsh_w r r (Rung.dR N D X) 1 w3 hr.any hr (by have := dr_len (N := N) hD hdl hE2; omega) (by decide))
      have HU := Lib.hid hu
      have HR := Lib.hid hr.any
      have HB3 := Lib.hid hb3
      clear hr hu hb3
      refine HL.out.mono ?_
      rintro en w6 ⟨rfl, h6, o6⟩
      have hu6 := int_other HU.out HR.out (fun e => hru e.symm) o6
      have hl6 : (digs B (Rung.dR N D X * 2 ^ 1)).length < 10000000000 := by
        have := dr_len (N := N) hD hdl hE2
        have := mul_pow_len (x := Rung.dR N D X) (n := 1)
        omega
      have HC := Lib.hid (icmp_w r u _ _ w6 h6 hu6 hl6 (by have := dden_len hdl hE2; omega))
      have HFI := Lib.hid (HF.out.trans (congrArg (min · over) (rungF_of (b := b) (K := K) hE)))
      have hbw : Below w.heap.size w w6 := bthen B1.out (HB3.out.trans (o6.below hrl HB3.out.size))
      have HBW := Lib.hid hbw
      clear h6 hu6 o6 hl6 hbw
      go_wp2_with fail
      refine HC.out.mono ?_
      rintro en w7 ⟨rfl, kd, rfl⟩
      have h2p : Rung.dR N D X * 2 ^ 1 = 2 * Rung.dR N D X := by rw [Nat.pow_one, Nat.mul_comm]
      rw [h2p]
      obtain ⟨k, hk1, hk2, hk3, hk4⟩ := rung_top (b := b) (q := Rung.dQ N D X) hb hK hE1 hE2 (by omega)
      obtain rfl : X = (k : Int) - K := by omega
      have ek : (k : Int) - K - -K = k := by omega
      rcases Nat.lt_trichotomy (2 * Rung.dR N D ((k : Int) - K)) (Rung.dDen D ((k : Int) - K)) with hcmp | hcmp | hcmp
      · rw [← cmpI_lt hcmp]
        have hR := HFI.out
        rw [if_neg (by omega), hk2] at hR
        have HW := Lib.hid (wrap_rung (b := b) (k := k) (q := Rung.dQ N D ((k : Int) - K)) hk3 (by omega))
        have HR2 := Lib.hid hR
        clear hR
        go_wp2_with fail
        all_goals
          have hw := HW.out
          simp only [hw] at *
          go_ret
          first
            | exact ⟨near_val (over : Nat) (by rw [HR2.out]; omega), bdrewN HBW.out kd⟩
            | exact ⟨near_val (k * 2 ^ b + Rung.dQ N D ((k : Int) - K)) (by rw [HR2.out]; omega), bdrewN HBW.out kd⟩
      · rw [← cmpI_eq hcmp]
        by_cases hodd : Rung.dQ N D ((k : Int) - K) % 2 = 1
        · have t5 : decide (Rung.dQ N D ((k : Int) - K) % 2 = 1) = true := decide_eq_true hodd
          have hR := HFI.out
          rw [if_pos (by omega), rung_up, hk2] at hR
          have HW := Lib.hid (wrap_rung1 (b := b) (k := k) (q := Rung.dQ N D ((k : Int) - K)) hk3 (by omega))
          have HR2 := Lib.hid hR
          clear hR
          go_wp2_with fail
          all_goals
            have hw := HW.out
            simp only [hw] at *
            go_ret
            first
              | exact ⟨near_val (over : Nat) (by rw [HR2.out]; omega), bdrewN HBW.out kd⟩
              | exact ⟨near_val (k * 2 ^ b + Rung.dQ N D ((k : Int) - K) + 1) (by rw [HR2.out]; omega), bdrewN HBW.out kd⟩
        · have t5 : decide (Rung.dQ N D ((k : Int) - K) % 2 = 1) = false := decide_eq_false hodd
          have hR := HFI.out
          rw [if_neg (by omega), hk2] at hR
          have HW := Lib.hid (wrap_rung (b := b) (k := k) (q := Rung.dQ N D ((k : Int) - K)) hk3 (by omega))
          have HR2 := Lib.hid hR
          clear hR
          go_wp2_with fail
          all_goals
            have hw := HW.out
            simp only [hw] at *
            go_ret
            first
              | exact ⟨near_val (over : Nat) (by rw [HR2.out]; omega), bdrewN HBW.out kd⟩
              | exact ⟨near_val (k * 2 ^ b + Rung.dQ N D ((k : Int) - K)) (by rw [HR2.out]; omega), bdrewN HBW.out kd⟩
      · rw [← cmpI_gt hcmp]
        have hR := HFI.out
        rw [if_pos (by omega), rung_up, hk2] at hR
        have HW := Lib.hid (wrap_rung1 (b := b) (k := k) (q := Rung.dQ N D ((k : Int) - K)) hk3 (by omega))
        have HR2 := Lib.hid hR
        clear hR
        go_wp2_with fail
        all_goals
          have hw := HW.out
          simp only [hw] at *
          go_ret
          first
            | exact ⟨near_val (over : Nat) (by rw [HR2.out]; omega), bdrewN HBW.out kd⟩
            | exact ⟨near_val (k * 2 ^ b + Rung.dQ N D ((k : Int) - K) + 1) (by rw [HR2.out]; omega), bdrewN HBW.out kd⟩
  · have hP : Rung.pow0 b K N D = -(K : Int) := by unfold Rung.pow0; omega
    have t3 : decide (-(K : Int) ≤ ((Rung.blen N : Nat) : Int) - ((Rung.blen D : Nat) : Int) - (b : Nat)) = false := decide_eq_false hc
    have hE : Rung.pow1 b K N D = -(K : Int) := by
      unfold Rung.pow1
      rw [hP, if_neg (by omega)]
    have hE1 : -(K : Int) ≤ -(K : Int) := Int.le_refl _
    have hE2 : -(K : Int) ≤ 1330 := by omega
    rw [hP] at HQL
    go_wp2_with fail
    have HD := Lib.hid (divided_w p q N D (-(K : Int)) w2 HP.out HQ.out hD (by omega) (by omega) (by omega) (by omega))
    refine HD.out.mono ?_
    rintro en w3 ⟨r, u, rfl, hr, hu, hrl, hul, hru, hb3⟩
    rw [Nat.mod_eq_of_lt HQL.out]
    clear t3
    go_wp2_with fail
    all_goals
      have hq53 : Rung.dQ N D (-(K : Int)) ≤ 9007199254740991 := by
        have h1 := HP1.out.2.2
        rw [hE] at h1
        have := two53 hb
        omega
      have HL := Lib.hid (lsh_w r r (Rung.dR N D (-(K : Int))) 1 w3 hr.any hr (by have := dr_len (N := N) hD hdl hE2; omega) (by decide))
      have HU := Lib.hid hu
      have HR := Lib.hid hr.any
      have HB3 := Lib.hid hb3
      clear hr hu hb3
      refine HL.out.mono ?_
      rintro en w6 ⟨rfl, h6, o6⟩
      have hu6 := int_other HU.out HR.out (fun e => hru e.symm) o6
      have hl6 : (digs B (Rung.dR N D (-(K : Int)) * 2 ^ 1)).length < 10000000000 := by
        have := dr_len (N := N) hD hdl hE2
        have := mul_pow_len (x := Rung.dR N D (-(K : Int))) (n := 1)
        omega
      have HC := Lib.hid (icmp_w r u _ _ w6 h6 hu6 hl6 (by have := dden_len hdl hE2; omega))
      have HFI := Lib.hid (HF.out.trans (congrArg (min · over) (rungF_of (b := b) (K := K) hE)))
      have hbw : Below w.heap.size w w6 := bthen B1.out (HB3.out.trans (o6.below hrl HB3.out.size))
      have HBW := Lib.hid hbw
      clear h6 hu6 o6 hl6 hbw
      go_wp2_with fail
      refine HC.out.mono ?_
      rintro en w7 ⟨rfl, kd, rfl⟩
      have h2p : Rung.dR N D (-(K : Int)) * 2 ^ 1 = 2 * Rung.dR N D (-(K : Int)) := by rw [Nat.pow_one, Nat.mul_comm]
      rw [h2p]
      obtain ⟨k, hk1, hk2, hk3, hk4⟩ := rung_top (b := b) (q := Rung.dQ N D (-(K : Int))) hb hK hE1 hE2 (by omega)
      obtain rfl : k = 0 := by omega
      rw [Nat.zero_mul, Nat.zero_add] at hk2
      rcases Nat.lt_trichotomy (2 * Rung.dR N D (-(K : Int))) (Rung.dDen D (-(K : Int))) with hcmp | hcmp | hcmp
      · rw [← cmpI_lt hcmp]
        have hR := HFI.out
        rw [if_neg (by omega), hk2] at hR
        have HR2 := Lib.hid hR
        clear hR
        go_wp2_with fail
        all_goals
          go_ret
          first
            | exact ⟨near_val (over : Nat) (by rw [HR2.out]; omega), bdrewN HBW.out kd⟩
            | exact ⟨near_val (Rung.dQ N D (-(K : Int))) (by rw [HR2.out]; omega), bdrewN HBW.out kd⟩
      · rw [← cmpI_eq hcmp]
        by_cases hodd : Rung.dQ N D (-(K : Int)) % 2 = 1
        · have t5 : decide (Rung.dQ N D (-(K : Int)) % 2 = 1) = true := decide_eq_true hodd
          have hR := HFI.out
          rw [if_pos (by omega), rung_up, hk2] at hR
          have HR2 := Lib.hid hR
          clear hR
          go_wp2_with fail
          all_goals
            go_ret
            first
              | exact ⟨near_val (over : Nat) (by rw [HR2.out]; omega), bdrewN HBW.out kd⟩
              | exact ⟨near_val (Rung.dQ N D (-(K : Int)) + 1) (by rw [HR2.out]; omega), bdrewN HBW.out kd⟩
        · have t5 : decide (Rung.dQ N D (-(K : Int)) % 2 = 1) = false := decide_eq_false hodd
          have hR := HFI.out
          rw [if_neg (by omega), hk2] at hR
          have HR2 := Lib.hid hR
          clear hR
          go_wp2_with fail
          all_goals
            go_ret
            first
              | exact ⟨near_val (over : Nat) (by rw [HR2.out]; omega), bdrewN HBW.out kd⟩
              | exact ⟨near_val (Rung.dQ N D (-(K : Int))) (by rw [HR2.out]; omega), bdrewN HBW.out kd⟩
      · rw [← cmpI_gt hcmp]
        have hR := HFI.out
        rw [if_pos (by omega), rung_up, hk2] at hR
        have HR2 := Lib.hid hR
        clear hR
        go_wp2_with fail
        all_goals
          go_ret
          first
            | exact ⟨near_val (over : Nat) (by rw [HR2.out]; omega), bdrewN HBW.out kd⟩
            | exact ⟨near_val (Rung.dQ N D (-(K : Int)) + 1) (by rw [HR2.out]; omega), bdrewN HBW.out kd⟩
theorem nearest_w (b K over : Nat) (neg : Bool) (s : ByteArray) (e : Int) (w : World) (hs : HeadOk s.data.toList) (hsm : s.size < 140737488355328) (he1 : -1073741824 ≤ e) (he2 : e ≤ 1073741824)
    (hb1 : 1 ≤ b) (hb : b ≤ 52) (hK : K ≤ 1074) (hov : over < 18446744073709551616) :
    Calls Tryz.prog 35 #[.agg #[.bool neg, .string s, .int .i64 e], .int .i64 (b : Nat), .int .i64 (-(K : Int)), .int .u64 (over : Nat)] w (NearPost w (nearF b K over s.data.toList e)) := by
  by_cases hx : s.data.toList = [] ∨ (s.data.toList.length : Int) + e < -400 ∨ 400 < (s.data.toList.length : Int) + e
  · exact nearest_out b K over neg s e w hsm he1 he2 hx
  · exact nearest_in b K over neg s e w hs he1 he2 (fun h => hx (.inl h)) (fun h => hx (.inr (.inl h))) (fun h => hx (.inr (.inr h))) hb1 hb hK hov
end Go.Proofs.YtabmalnandbocaaGreatDoor.Num
namespace Go.Proofs.YtabmalnandbocaaGreatDoor.Num
set_option exponentiation.threshold 3000
set_option linter.unusedVariables false
set_option linter.unusedSimpArgs false
open Go.RowKit Go.Proofs.YtabmalnandbocaaGreatDoor.Mem Go.Proofs.YtabmalnandbocaaGreatDoor.Own Go.Proofs.YtabmalnandbocaaGreatDoor.Big

def AtPost (w : World) (b K n : Nat) (e : Ending) (w' : World) : Prop := e = .returned (.tuple #[.int .u64 (Rung.mant b n : Nat), .int .i64 (-(K : Int) + (Rung.expo b n : Nat))]) ∧ Below w.heap.size w w'
theorem at_low {w w' : World} {b K n : Nat} (h : n < 2 ^ b) (hb : Below w.heap.size w w') : AtPost w b K n (.returned (.tuple #[.int .u64 (n : Nat), .int .i64 (-(K : Int))])) w' := by
  obtain ⟨h1, h2⟩ := Rung.parts_low h
  exact ⟨by rw [h1, h2]; simp, hb⟩
theorem at_high {w w' : World} {b K n : Nat} {z v : Int} (h : ¬ n < 2 ^ b) (hz : z = ((2 ^ b + n % 2 ^ b : Nat) : Int)) (hv : v = -(K : Int) + ((n / 2 ^ b - 1 : Nat) : Int)) (hb : Below w.heap.size w w') : AtPost w b K n (.returned (.tuple #[.int .u64 z, .int .i64 v])) w' := by
  refine ⟨?_, hb⟩
  rw [hz, hv]
  unfold Rung.mant Rung.expo
  rw [if_neg h]
set_option maxHeartbeats 2000000 in
set_option maxRecDepth 100000 in
theorem at_52 (over n : Nat) (w : World) (hn : n < 18446744073709551616) :
    Calls Tryz.prog 69 #[.agg #[.int .i64 52, .int .i64 (-1074), .int .u64 (over : Nat)], .int .u64 (n : Nat)] w (AtPost w 52 1074 n) := by
  by_cases h : n < 4503599627370496
  · have t1 : decide ((n : Int) < 4503599627370496) = true := by simp; omega
    have HL := Lib.hid (fun (w' : World) (hb : Below w.heap.size w w') => at_low (K := 1074) (show n < 2 ^ 52 from h) hb)
    go_enter Tryz.func69, Tryz.ntmps69
    go_wp2_with fail
    go_quiet (fail)
    go_wp2_with fail
    refine bodyPost_ret (v := .tuple #[.int .u64 (n : Nat), .int .i64 (-1074)]) (by simp [results, Tryz.results69, go_sem]) rfl ?_
    exact HL.out _ (bdrewN ((Below.refl _ w).alloc (Nat.le_refl _) _) _)
  · have t1 : decide ((n : Int) < 4503599627370496) = false := by simp; omega
    have HH := Lib.hid (fun (w' : World) (z : Int) (v : Int) (hz : z = ((2 ^ 52 + n % 2 ^ 52 : Nat) : Int)) (hv : v = -1074 + ((n / 2 ^ 52 - 1 : Nat) : Int)) (hb : Below w.heap.size w w') => at_high (K := 1074) (b := 52) (show ¬ n < 2 ^ 52 from h) hz hv hb)
    go_enter Tryz.func69, Tryz.ntmps69
    go_wp2_with fail
    go_quiet (fail)
    go_wp2_with fail
    refine bodyPost_ret (v := .tuple #[.int .u64 (4503599627370496 + (n : Int) % 4503599627370496), .int .i64 (-1074 + (n : Int) / 4503599627370496 - 1)]) (by simp [results, Tryz.results69, go_sem]) rfl ?_
    exact HH.out _ _ _ (by omega) (by omega) (bdrewN ((Below.refl _ w).alloc (Nat.le_refl _) _) _)
set_option maxHeartbeats 2000000 in
set_option maxRecDepth 100000 in
theorem at_23 (over n : Nat) (w : World) (hn : n < 18446744073709551616) :
    Calls Tryz.prog 69 #[.agg #[.int .i64 23, .int .i64 (-149), .int .u64 (over : Nat)], .int .u64 (n : Nat)] w (AtPost w 23 149 n) := by
  by_cases h : n < 8388608
  · have t1 : decide ((n : Int) < 8388608) = true := by simp; omega
    have HL := Lib.hid (fun (w' : World) (hb : Below w.heap.size w w') => at_low (K := 149) (show n < 2 ^ 23 from h) hb)
    go_enter Tryz.func69, Tryz.ntmps69
    go_wp2_with fail
    go_quiet (fail)
    go_wp2_with fail
    refine bodyPost_ret (v := .tuple #[.int .u64 (n : Nat), .int .i64 (-149)]) (by simp [results, Tryz.results69, go_sem]) rfl ?_
    exact HL.out _ (bdrewN ((Below.refl _ w).alloc (Nat.le_refl _) _) _)
  · have t1 : decide ((n : Int) < 8388608) = false := by simp; omega
    have HH := Lib.hid (fun (w' : World) (z : Int) (v : Int) (hz : z = ((2 ^ 23 + n % 2 ^ 23 : Nat) : Int)) (hv : v = -149 + ((n / 2 ^ 23 - 1 : Nat) : Int)) (hb : Below w.heap.size w w') => at_high (K := 149) (b := 23) (show ¬ n < 2 ^ 23 from h) hz hv hb)
    go_enter Tryz.func69, Tryz.ntmps69
    go_wp2_with fail
    go_quiet (fail)
    go_wp2_with fail
    refine bodyPost_ret (v := .tuple #[.int .u64 (8388608 + (n : Int) % 8388608), .int .i64 (-149 + (n : Int) / 8388608 - 1)]) (by simp [results, Tryz.results69, go_sem]) rfl ?_
    exact HH.out _ _ _ (by omega) (by omega) (bdrewN ((Below.refl _ w).alloc (Nat.le_refl _) _) _)
end Go.Proofs.YtabmalnandbocaaGreatDoor.Num
namespace Go.Proofs.YtabmalnandbocaaGreatDoor.Num
set_option exponentiation.threshold 3000
set_option linter.unusedVariables false
open Go.Proofs.YtabmalnandbocaaGreatDoor.Mem Go.Proofs.YtabmalnandbocaaGreatDoor.Own Go.Proofs.YtabmalnandbocaaGreatDoor.Big
/-- The decimal as a fraction. -/
def rN (l : List UInt8) (e : Int) : Nat := dval l * 10 ^ e.toNat
def rD (e : Int) : Nat := 10 ^ (-e).toNat
theorem rD_pos (e : Int) : 0 < rD e := Nat.pow_pos (by decide)
theorem scale {x a K : Nat} {e2 : Int} (h : e2 = -(K : Int) + (a : Int)) : (x * 2 ^ (-e2).toNat) * 2 ^ a = x * 2 ^ K * 2 ^ e2.toNat := by
  rw [Nat.mul_assoc, Nat.mul_assoc, ← Nat.pow_add, ← Nat.pow_add]
  congr 2
  omega
theorem cmpI_mul {x y c : Nat} (h : 0 < c) : cmpI (x * c) (y * c) = cmpI x y := by
  unfold cmpI
  have h1 : x * c < y * c ↔ x < y := ⟨fun k => Nat.lt_of_mul_lt_mul_right k, fun k => Nat.mul_lt_mul_of_pos_right k h⟩
  have h2 : x * c = y * c ↔ x = y := ⟨fun k => Nat.eq_of_mul_eq_mul_right h k, fun k => by rw [k]⟩
  simp only [h1, h2]
theorem agn_cmp (l : List UInt8) (e : Int) {e2 : Int} {a K m : Nat} (h : e2 = -(K : Int) + (a : Int)) : cmpI (ANum l e e2) (ADen m e e2) = cmpI (rN l e * 2 ^ K) (m * 2 ^ a * rD e) := by
  have h1 : ANum l e e2 * 2 ^ a = rN l e * 2 ^ K * 2 ^ e2.toNat := scale (x := rN l e) h
  have h2 : ADen m e e2 * 2 ^ a = m * 2 ^ a * rD e * 2 ^ e2.toNat := by unfold ADen rD; grind
  rw [← cmpI_mul (c := 2 ^ a) (Nat.pow_pos (by decide)), h1, h2, cmpI_mul (Nat.pow_pos (by decide))]
theorem ref_near {b N Q R low over : Nat} (hQ : 0 < Q) (hR : Rung.Near b N Q R) (h1 : Rung.W b low * Q ≤ N) (h2 : low = over ∨ N < Rung.W b (low + 1) * Q) (hlo : low ≤ over) :
    (if low = over then low else Rung.up b N Q low) = min R over := by
  by_cases h : low = over
  · have := Rung.near_ge hQ hR h1
    rw [if_pos h]; omega
  · have h3 := Rung.near_of hQ h1 (h2.resolve_left h)
    have h4 := hR.one h3
    rw [if_neg h, h4]
    have : Rung.up b N Q low ≤ low + 1 := by unfold Rung.up; split <;> omega
    omega
end Go.Proofs.YtabmalnandbocaaGreatDoor.Num
namespace Go.Proofs.YtabmalnandbocaaGreatDoor.Num
set_option exponentiation.threshold 3000
set_option linter.unusedVariables false
set_option linter.unusedSimpArgs false
open Go.Proofs.YtabmalnandbocaaGreatDoor.Mem Go.Proofs.YtabmalnandbocaaGreatDoor.Own Go.Proofs.YtabmalnandbocaaGreatDoor.Big
/-- A number's digits without noughts at either end, and how many noughts went at the right. -/
structure Told (N : Nat) (l : List UInt8) (z : Nat) : Prop where
  digs : isDigs l
  head : ∀ c, l.head? = some c → c.toNat ≠ 48
  last : ∀ c, l.getLast? = some c → c.toNat ≠ 48
  val : dval l * 10 ^ z = N
theorem Told.ok {N z : Nat} {l : List UInt8} (h : Told N l z) : HeadOk l := ⟨h.digs, h.head⟩
theorem Told.zero {z : Nat} {l : List UInt8} (h : Told 0 l z) : l = [] := by
  by_cases h0 : l = []
  · exact h0
  · have h1 := dval_pos h.ok h0
    have h2 := h.val
    have h3 : 0 < 10 ^ z := Nat.pow_pos (by decide)
    rw [Nat.mul_eq_zero] at h2
    omega
theorem Told.ne {N z : Nat} {l : List UInt8} (h : Told N l z) (hN : N ≠ 0) : l ≠ [] := by
  rintro rfl
  have h2 := h.val
  rw [show dval [] = 0 from rfl, Nat.zero_mul] at h2
  omega
theorem snoc_of {α : Type} {l : List α} (h : l ≠ []) : ∃ m c, l = m ++ [c] := ⟨l.dropLast, l.getLast h, (List.dropLast_concat_getLast h).symm⟩
theorem last_mod {m : List UInt8} {c : UInt8} (hd : isDigs (m ++ [c])) (hc : c.toNat ≠ 48) : dval (m ++ [c]) % 10 ≠ 0 := by
  have := hd c (by simp)
  rw [dval_snoc]; omega
theorem tens_le {x y a b : Nat} (hx : x % 10 ≠ 0) (h : x * 10 ^ a = y * 10 ^ b) : b ≤ a := by
  apply Nat.le_of_not_lt
  intro hlt
  obtain ⟨k, rfl⟩ : ∃ k, b = a + (k + 1) := ⟨b - a - 1, by omega⟩
  rw [Nat.pow_add, Nat.mul_comm (10 ^ a), ← Nat.mul_assoc] at h
  have h2 := Nat.eq_of_mul_eq_mul_right (Nat.pow_pos (by decide)) h
  rw [Nat.pow_succ, ← Nat.mul_assoc] at h2
  omega
theorem tens_one {x y a b : Nat} (hx : x % 10 ≠ 0) (hy : y % 10 ≠ 0) (h : x * 10 ^ a = y * 10 ^ b) : a = b ∧ x = y := by
  have h1 := tens_le hx h
  have h2 := tens_le hy h.symm
  obtain rfl : a = b := by omega
  exact ⟨rfl, Nat.eq_of_mul_eq_mul_right (Nat.pow_pos (by decide)) h⟩
theorem dval_inj : ∀ {l l' : List UInt8}, isDigs l → isDigs l' → l.length = l'.length → dval l = dval l' → l = l' := by
  intro l
  induction h : l.length generalizing l with
  | zero =>
    intro l' _ _ hl _
    obtain rfl : l = [] := List.eq_nil_of_length_eq_zero h
    exact (List.eq_nil_of_length_eq_zero (by omega)).symm
  | succ n ih =>
    intro l' hd hd' hl hv
    obtain ⟨m, c, rfl⟩ := snoc_of (l := l) (by rintro rfl; simp at h)
    obtain ⟨m', c', rfl⟩ := snoc_of (l := l') (by rintro rfl; simp at hl)
    have hc := hd c (by simp)
    have hc' := hd' c' (by simp)
    rw [dval_snoc, dval_snoc] at hv
    simp at h hl
    have e1 : c.toNat = c'.toNat := by omega
    have e2 : m = m' := ih h (fun x hx => hd x (by simp [hx])) (fun x hx => hd' x (by simp [hx])) (by omega) (by omega)
    rw [e2, UInt8.toNat_inj.1 e1]
theorem head_len {l l' : List UInt8} (h : HeadOk l) (h' : HeadOk l') (h0 : l ≠ []) (hv : dval l = dval l') : l.length ≤ l'.length := by
  rcases l with _ | ⟨c, l⟩
  · exact absurd rfl h0
  · have h1 := dval_ge h.digs (h.head c rfl)
    have h2 := dval_lt h'.digs
    have h3 : 10 ^ l.length < 10 ^ l'.length := by omega
    have := (Nat.pow_lt_pow_iff_right (by decide)).1 h3
    simp; omega
theorem Told.one {N z z' : Nat} {l l' : List UInt8} (h : Told N l z) (h' : Told N l' z') (hN : N ≠ 0) : l = l' ∧ z = z' := by
  have n1 := h.ne hN
  have n2 := h'.ne hN
  obtain ⟨m, c, hm⟩ := snoc_of n1
  obtain ⟨m', c', hm'⟩ := snoc_of n2
  have m1 : dval l % 10 ≠ 0 := by
    have := h.last c (by rw [hm]; simp)
    have hd := h.digs
    rw [hm] at hd ⊢
    exact last_mod hd this
  have m2 : dval l' % 10 ≠ 0 := by
    have := h'.last c' (by rw [hm']; simp)
    have hd := h'.digs
    rw [hm'] at hd ⊢
    exact last_mod hd this
  obtain ⟨e1, e2⟩ := tens_one m1 m2 (h.val.trans h'.val.symm)
  refine ⟨dval_inj h.digs h'.digs ?_ e2, e1⟩
  have a1 := head_len h.ok h'.ok n1 e2
  have a2 := head_len h'.ok h.ok n2 e2.symm
  omega
/-- Digits with noughts at both ends. -/
theorem Told.of {N : Nat} {s l : List UInt8} {a z : Nat} (hs : isDigs s) (hv : dval s = N) (he : s = List.replicate a 48 ++ l ++ List.replicate z 48)
    (hh : ∀ c, l.head? = some c → c.toNat ≠ 48) (hl : ∀ c, l.getLast? = some c → c.toNat ≠ 48) : Told N l z := by
  subst he
  refine ⟨fun c hc => hs c (by simp [hc]), hh, hl, ?_⟩
  have hr : ∀ n, dval (List.replicate n 48) = 0 := by
    intro n
    induction n with
    | zero => rfl
    | succ n ih => rw [List.replicate_succ', dval_snoc, ih]; rfl
  rw [dval_app, dval_app, hr, hr, List.length_replicate, Nat.zero_mul, Nat.zero_add, Nat.add_zero] at hv
  exact hv
theorem decN_dval : ∀ x : Nat, dval ((decN x).reverse.map UInt8.ofNat) = x := by
  intro x
  induction x using Nat.strongRecOn with
  | ind x ih =>
    by_cases h : x = 0
    · subst h
      have : decN 0 = [] := by unfold decN; rw [digs_zero]; rfl
      rw [this]; rfl
    · rw [decN_pos h, List.reverse_cons, List.map_append, List.map_cons, List.map_nil, dval_snoc, ih (x / 10) (by omega)]
      have : (UInt8.ofNat (48 + x % 10)).toNat = 48 + x % 10 := by
        rw [UInt8.toNat_ofNat']; omega
      rw [this]; omega
theorem decL_dval (x : Nat) : dval (decL x) = x := by
  unfold decL
  split
  · rename_i h; rw [h]; rfl
  · exact decN_dval x
theorem decL_digs (x : Nat) : isDigs (decL x) := by
  unfold decL
  split
  · intro c hc; simp at hc; subst hc; decide
  · intro c hc
    simp only [List.mem_map, List.mem_reverse] at hc
    obtain ⟨d, hd, rfl⟩ := hc
    unfold decN at hd
    obtain ⟨e, he, rfl⟩ := List.mem_map.1 hd
    have := digs_dig (b := 10) (by decide) x e he
    rw [UInt8.toNat_ofNat']; omega
theorem decL_head {x : Nat} (h : x ≠ 0) : ∀ c, (decL x).head? = some c → c.toNat ≠ 48 := by
  intro c hc
  unfold decL at hc
  rw [if_neg h, List.head?_map, List.head?_reverse] at hc
  have h1 := digs_top (b := 10) (by decide) h
  have h2 := digs_pos_len (b := 10) (by decide) h
  unfold decN at hc
  rw [List.getLast?_map, List.getLast?_eq_getElem?, List.getElem?_eq_getElem (by omega)] at hc
  simp only [Option.map_some, Option.some.injEq] at hc
  rw [List.getD_eq_getElem?_getD, List.getElem?_eq_getElem (by omega), Option.getD_some] at h1
  have h3 := digs_dig (b := 10) (by decide) x _ (List.getElem_mem (l := digs 10 x) (n := (digs 10 x).length - 1) (by omega))
  rw [← hc, UInt8.toNat_ofNat']
  omega
theorem last_zeros (s : List UInt8) : ∃ l z, s = l ++ List.replicate z 48 ∧ ∀ c, l.getLast? = some c → c.toNat ≠ 48 := by
  induction h : s.length generalizing s with
  | zero =>
    obtain rfl : s = [] := List.eq_nil_of_length_eq_zero h
    exact ⟨[], 0, rfl, fun c hc => by simp at hc⟩
  | succ n ih =>
    obtain ⟨m, c, rfl⟩ := snoc_of (l := s) (by rintro rfl; simp at h)
    simp at h
    by_cases hc : c = 48
    · obtain ⟨l, z, e, hl⟩ := ih m h
      exact ⟨l, z + 1, by rw [e, hc, List.append_assoc, ← List.replicate_succ'], hl⟩
    · refine ⟨m ++ [c], 0, by simp, fun d hd => ?_⟩
      simp at hd
      subst hd
      exact fun e => hc (UInt8.toNat_inj.1 e)
theorem told_ex (N : Nat) : ∃ l z, Told N l z := by
  by_cases h : N = 0
  · subst h
    exact ⟨[], 0, fun c hc => by simp at hc, fun c hc => by simp at hc, fun c hc => by simp at hc, rfl⟩
  · obtain ⟨l, z, e, hl⟩ := last_zeros (decL N)
    refine ⟨l, z, Told.of (a := 0) (decL_digs N) (decL_dval N) (by simpa using e) (fun c hc => ?_) hl⟩
    refine decL_head h c ?_
    rw [e]
    cases l with
    | nil => simp at hc
    | cons d l => simpa using hc
/-- The digits and the noughts of a number. -/
noncomputable def tl (N : Nat) : List UInt8 := Classical.choose (told_ex N)
noncomputable def tz (N : Nat) : Nat := Classical.choose (Classical.choose_spec (told_ex N))
theorem told_tl (N : Nat) : Told N (tl N) (tz N) := Classical.choose_spec (Classical.choose_spec (told_ex N))
/-- The exponent with the digits of a number by ten to a power. -/
noncomputable def te (N : Nat) (e : Int) : Int := if N = 0 then 0 else e + (tz N : Nat)
theorem Told.tl {N z : Nat} {l : List UInt8} (h : Told N l z) : l = tl N ∧ ∀ e : Int, (if l = [] then 0 else e + (z : Nat)) = te N e := by
  by_cases hN : N = 0
  · subst hN
    have h1 := h.zero
    have h2 := (told_tl 0).zero
    refine ⟨h1.trans h2.symm, fun e => ?_⟩
    unfold te
    rw [if_pos h1, if_pos rfl]
  · obtain ⟨h1, h2⟩ := h.one (told_tl N) hN
    refine ⟨h1, fun e => ?_⟩
    unfold te
    rw [if_neg (h.ne hN), if_neg hN, h2]
end Go.Proofs.YtabmalnandbocaaGreatDoor.Num
namespace Go.Proofs.YtabmalnandbocaaGreatDoor.Num
set_option exponentiation.threshold 3000
set_option linter.unusedVariables false
set_option linter.unusedSimpArgs false
open Go.Proofs.YtabmalnandbocaaGreatDoor.Mem Go.Proofs.YtabmalnandbocaaGreatDoor.Own Go.Proofs.YtabmalnandbocaaGreatDoor.Big
/-- Digits without noughts at either end. -/
structure Canon (l : List UInt8) : Prop where
  digs : isDigs l
  head : ∀ c, l.head? = some c → c.toNat ≠ 48
  last : ∀ c, l.getLast? = some c → c.toNat ≠ 48
theorem Canon.ok {l : List UInt8} (h : Canon l) : HeadOk l := ⟨h.digs, h.head⟩
/-- The number of the nearest float. -/
def refF (b K over : Nat) (l : List UInt8) (e : Int) : Nat :=
  if l = [] ∨ (l.length : Int) + e < -400 then 0 else if 400 < (l.length : Int) + e then over else min (Rung.rungF b K (rN l e) (rD e)) over
theorem rN_pos {l : List UInt8} (h : HeadOk l) (h0 : l ≠ []) (e : Int) : rN l e ≠ 0 := by
  unfold rN
  have := dval_pos h h0
  have h3 : 0 < 10 ^ e.toNat := Nat.pow_pos (by decide)
  exact Nat.ne_of_gt (Nat.mul_pos (by omega) h3)
theorem ref_is {b K over n : Nat} {l : List UInt8} {e : Int} (hb : 1 ≤ b) (h : HeadOk l) (h1 : l = [] ∨ (l.length : Int) + e < -400 → n = 0) (h2 : l ≠ [] → 400 < (l.length : Int) + e → n = over)
    (h3 : l ≠ [] → -400 ≤ (l.length : Int) + e → (l.length : Int) + e ≤ 400 → ∀ R, Rung.Near b (rN l e * 2 ^ K) (rD e) R → n = min R over) : n = refF b K over l e := by
  unfold refF
  by_cases c1 : l = [] ∨ (l.length : Int) + e < -400
  · rw [if_pos c1]; exact h1 c1
  · rw [if_neg c1]
    have c3 : l ≠ [] := fun h => c1 (.inl h)
    by_cases c2 : 400 < (l.length : Int) + e
    · rw [if_pos c2]; exact h2 c3 c2
    · rw [if_neg c2]
      exact h3 c3 (by omega) (by omega) _ (Rung.rungF_near hb (rN_pos h c3 e) (Nat.ne_of_gt (rD_pos e)))
theorem near_is {b K over : Nat} {l : List UInt8} {e : Int} (hb : 1 ≤ b) (hb2 : b ≤ 52) (hK : K ≤ 1074) (h : Canon l) : nearF b K over l e = refF b K over l e := by
  unfold nearF refF
  by_cases c1 : l = [] ∨ (l.length : Int) + e < -400
  · rw [if_pos c1, if_pos c1]
  · rw [if_neg c1, if_neg c1]
    have c3 : l ≠ [] := fun h => c1 (.inl h)
    by_cases c2 : 400 < (l.length : Int) + e
    · rw [if_pos c2, if_pos c2]
    · rw [if_neg c2, if_neg c2]
      congr 1
      have hnear := Rung.rungF_near (K := K) hb (numF_pos h.ok c3 e) (denF_pos l e)
      refine Rung.Near.one ?_ (Rung.rungF_near hb (rN_pos h.ok c3 e) (Nat.ne_of_gt (rD_pos e)))
      by_cases hl : 1200 < l.length
      · generalize Rung.rungF b K (numF l e) (denF l e) = R at *
        unfold numF denF cutL cutE at hnear
        rw [if_pos hl, if_pos hl, dval_snoc] at hnear
        have hsplit := dval_app (l.take 1200) (l.drop 1200)
        rw [List.take_append_drop, List.length_drop] at hsplit
        have hdl : dval (l.drop 1200) < 10 ^ (l.length - 1200) := by
          have := dval_lt (l := l.drop 1200) (fun c hc => h.digs c (List.mem_of_mem_drop hc))
          rwa [List.length_drop] at this
        have hd0 : 0 < dval (l.drop 1200) := by
          obtain ⟨m, c, hm⟩ := snoc_of (l := l.drop 1200) (fun e => by have := congrArg List.length e; rw [List.length_drop] at this; simp at this; omega)
          have hc : l.getLast? = some c := by
            rw [← List.take_append_drop 1200 l, hm, ← List.append_assoc]; simp
          have h1 := h.last c hc
          have h2 := h.digs c (List.mem_of_mem_drop (by rw [hm]; simp : c ∈ l.drop 1200))
          rw [hm, dval_snoc]; omega
        have hT : 10 ^ 1199 ≤ dval (l.take 1200) := by
          rcases hl2 : l with _ | ⟨c, l'⟩
          · exact absurd hl2 c3
          · have h1 := h.digs
            rw [hl2] at h1 hl
            have h3 := dval_ge (c := c) (l := l'.take 1199) (fun d hd => h1 d (by
              rcases List.mem_cons.1 hd with rfl | hd
              · exact List.mem_cons_self
              · exact List.mem_cons_of_mem _ (List.mem_of_mem_take hd))) (h.head c (by rw [hl2]; rfl))
            rw [List.length_take, Nat.min_eq_left (by simp at hl; omega)] at h3
            exact h3
        unfold rN rD
        generalize dval (l.take 1200) = T at *
        generalize hr : l.length - 1200 = r at *
        generalize dval (l.drop 1200) = D0 at *
        refine Rung.cut_near (r := r) (T := T) (e' := e + ((l.length : Int) - 1201)) hb2 hK (by omega) (by rw [Nat.add_mul]; omega) hT (by omega) (by omega) (by omega) ?_
        have e9 : T * 10 + ((49 : UInt8).toNat - 48) = 10 * T + 1 := by
          rw [show (49 : UInt8).toNat - 48 = 1 from rfl]; omega
        rw [e9] at hnear
        exact hnear
      · unfold numF denF cutL cutE at hnear ⊢
        rw [if_neg hl, if_neg hl] at hnear ⊢
        exact hnear
end Go.Proofs.YtabmalnandbocaaGreatDoor.Num
namespace Go.Proofs.YtabmalnandbocaaGreatDoor.Num
set_option exponentiation.threshold 3000
set_option linter.unusedVariables false
set_option linter.unusedSimpArgs false
open Go.Proofs.YtabmalnandbocaaGreatDoor.Mem Go.Proofs.YtabmalnandbocaaGreatDoor.Own Go.Proofs.YtabmalnandbocaaGreatDoor.Big
/-- Digits written so far. -/
structure BI (l : List Nat) (v : Nat) : Prop where
  small : ∀ d ∈ l, 48 ≤ d ∧ d ≤ 57
  val : dval (l.map UInt8.ofNat) = v
theorem BI.nil : BI [] 0 := ⟨fun d hd => by simp at hd, rfl⟩
theorem BI.snoc {l : List Nat} {v d : Nat} (h : BI l v) (hd : d < 10) : BI (l ++ [48 + d]) (v * 10 + d) := by
  refine ⟨fun x hx => ?_, ?_⟩
  · rcases List.mem_append.1 hx with hx | hx
    · exact h.small x hx
    · simp at hx; omega
  · rw [List.map_append, List.map_singleton, dval_snoc, h.val]
    have : (UInt8.ofNat (48 + d)).toNat = 48 + d := by rw [UInt8.toNat_ofNat']; omega
    rw [this]; omega
theorem BI.digs {l : List Nat} {v : Nat} (h : BI l v) : isDigs (l.map UInt8.ofNat) := by
  intro c hc
  obtain ⟨d, hd, rfl⟩ := List.mem_map.1 hc
  have := h.small d hd
  rw [UInt8.toNat_ofNat']; omega
theorem byte_step (N j q : Nat) (hq : q ≤ 8) : N / (M ^ j * 10 ^ q) = N / (M ^ j * 10 ^ (q + 1)) * 10 + N / M ^ j % M / 10 ^ q % 10 := by
  rw [← Nat.div_div_eq_div_mul, ← Nat.div_div_eq_div_mul, Nat.pow_succ, ← Nat.div_div_eq_div_mul]
  generalize N / M ^ j = y
  have e1 : M = 10 ^ q * 10 ^ (9 - q) := by rw [← Nat.pow_add, show q + (9 - q) = 9 by omega, ten_M]
  rw [e1, Nat.mod_mul_right_div_self, Nat.mod_mod_of_dvd _ (Nat.pow_dvd_pow 10 (show 1 ≤ 9 - q by omega) : 10 ^ 1 ∣ 10 ^ (9 - q))]
  omega
theorem M_ten9 (j : Nat) : M ^ j * 10 ^ 9 = M ^ (j + 1) := by rw [ten_M, Nat.pow_succ]
theorem rep_of {l : List UInt8} (h : ∀ i, i < l.length → l[i]? = some 48) : l = List.replicate l.length 48 := by
  rw [List.eq_replicate_iff]
  refine ⟨rfl, fun b hb => ?_⟩
  obtain ⟨i, hi, rfl⟩ := List.mem_iff_getElem.1 hb
  have := h i hi
  rw [List.getElem?_eq_getElem hi] at this
  injection this
theorem ofNat_48 {d : Nat} (h : d < 256) : (UInt8.ofNat d).toNat = d := by rw [UInt8.toNat_ofNat']; omega
/-- The written digits cut at both ends are the number's. -/
theorem BI.told {l : List Nat} {N f t : Nat} (h : BI l N) (hft : f ≤ t) (ht : t ≤ l.length) (h1 : ∀ i, i < f → l.getD i 0 = 48) (h2 : ∀ i, t ≤ i → i < l.length → l.getD i 0 = 48)
    (h3 : f < t → l.getD f 0 ≠ 48) (h4 : f < t → l.getD (t - 1) 0 ≠ 48) : Told N (((l.take t).drop f).map UInt8.ofNat) (l.length - t) := by
  have hlt : (l.take t).length = t := by rw [List.length_take]; omega
  refine Told.of (a := f) h.digs h.val ?_ (fun c hc => ?_) (fun c hc => ?_)
  · have e1 : (l.take f).map UInt8.ofNat = List.replicate f 48 := by
      have := rep_of (l := (l.take f).map UInt8.ofNat) (fun i hi => by
        rw [List.length_map, List.length_take] at hi
        have hd := h1 i (by omega)
        rw [List.getD_eq_getElem?_getD, List.getElem?_eq_getElem (by omega), Option.getD_some] at hd
        rw [List.getElem?_map, List.getElem?_take, if_pos (by omega), List.getElem?_eq_getElem (by omega), hd]; rfl)
      rwa [List.length_map, List.length_take, Nat.min_eq_left (by omega)] at this
    have e2 : (l.drop t).map UInt8.ofNat = List.replicate (l.length - t) 48 := by
      have := rep_of (l := (l.drop t).map UInt8.ofNat) (fun i hi => by
        rw [List.length_map, List.length_drop] at hi
        have hd := h2 (t + i) (by omega) (by omega)
        rw [List.getD_eq_getElem?_getD, List.getElem?_eq_getElem (by omega), Option.getD_some] at hd
        rw [List.getElem?_map, List.getElem?_drop, List.getElem?_eq_getElem (by omega), hd]; rfl)
      rwa [List.length_map, List.length_drop] at this
    rw [← e1, ← e2, ← List.map_append, ← List.map_append]
    congr 1
    have e3 : l.take f = (l.take t).take f := by rw [List.take_take, Nat.min_eq_left hft]
    rw [e3, List.take_append_drop, List.take_append_drop]
  · rw [List.head?_map, List.head?_drop] at hc
    by_cases hf : f < t
    · have hd := h3 hf
      rw [List.getD_eq_getElem?_getD, List.getElem?_eq_getElem (by omega), Option.getD_some] at hd
      rw [List.getElem?_take, if_pos hf, List.getElem?_eq_getElem (by omega)] at hc
      simp only [Option.map_some, Option.some.injEq] at hc
      have := h.small _ (List.getElem_mem (l := l) (n := f) (by omega))
      rw [← hc, ofNat_48 (by omega)]
      exact hd
    · rw [List.getElem?_eq_none (by omega)] at hc
      simp at hc
  · rw [List.getLast?_map, List.getLast?_drop] at hc
    by_cases hf : f < t
    · rw [if_neg (by omega), List.getLast?_eq_getElem?, hlt, List.getElem?_take, if_pos (by omega), List.getElem?_eq_getElem (by omega)] at hc
      simp only [Option.map_some, Option.some.injEq] at hc
      have hd := h4 hf
      rw [List.getD_eq_getElem?_getD, List.getElem?_eq_getElem (by omega), Option.getD_some] at hd
      have := h.small _ (List.getElem_mem (l := l) (n := t - 1) (by omega))
      rw [← hc, ofNat_48 (by omega)]
      exact hd
    · rw [if_pos (by omega)] at hc
      simp at hc
end Go.Proofs.YtabmalnandbocaaGreatDoor.Num
