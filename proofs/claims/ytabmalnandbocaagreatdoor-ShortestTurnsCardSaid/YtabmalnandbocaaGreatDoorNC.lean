/- Chapters 13 and 14 (floats, shortest): awake and finite; ShortestBack, ShortestTurns. No conditions beside those that each contract names. -/
import Derived.Test.YtabmalnandbocaaGreatDoorMX
import Derived.Test.YtabmalnandbocaaGreatDoorMH
import Derived.Test.YtabmalnandbocaaGreatDoorNA
import Derived.Deep.DeepCutAuto
import Derived.Laws.BitsAllLaws
namespace Go.Proofs.YtabmalnandbocaaGreatDoor.Num
set_option exponentiation.threshold 3000
set_option linter.unusedVariables false
set_option linter.unusedSimpArgs false
set_option exponentiation.threshold 3000
open Go.RowKit Go.Proofs.YtabmalnandbocaaGreatDoor.Mem Go.Proofs.YtabmalnandbocaaGreatDoor.Own Go.Proofs.YtabmalnandbocaaGreatDoor.Big Go.Proofs.YtabmalnandbocaaGreatDoor.Str
open Ieee (double single)
theorem isnan_w (x : Nat) (b : Bool) (w : World) (h : (FloatKind.f64.format.order x x != some .eq) = b) :
    Calls Tryz.prog 31 #[.float .f64 x] w fun e w' => e = .returned (.bool b) ∧ w = w' := by
  go_enter Tryz.func31, Tryz.ntmps31
  go_wp2_with fail
  go_ret
  exact ⟨rfl, rfl⟩
theorem abs_w (s : Bool) (n : Nat) (w : World) (h : n < 9223372036854775808) :
    Calls Tryz.prog 54 #[.float .f64 (double.word s n)] w fun e w' => e = .returned (.float .f64 n) ∧ w = w' := by
  have hb := bits_run
  have hx : double.word s n = (if s then 9223372036854775808 + n else n) := rfl
  have h2 := andnot_sign (x := double.word s n) (by rw [hx]; split <;> omega)
  have h4 : double.word s n % 9223372036854775808 = n := by rw [hx]; split <;> omega
  rw [h4] at h2
  have hf := frombits_run n
  clear h4 hx
  go_enter Tryz.func54, Tryz.ntmps54
  go_wp2_with fail
  go_ret
  exact ⟨rfl, rfl⟩
theorem isinf_w (s : Bool) (n : Nat) (b : Bool) (w : World) (h : n < 9223372036854775808) (hb : (FloatKind.f64.format.order n 9218868437227405311 == some .gt) = b) :
    Calls Tryz.prog 32 #[.float .f64 (double.word s n), .int .i64 0] w fun e w' => e = .returned (.bool b) ∧ w = w' := by
  have HA := Lib.hid (abs_w s n · h)
  go_enter Tryz.func32, Tryz.ntmps32
  go_wp2_with fail
  refine (HA.out _).mono ?_
  rintro en w1 ⟨rfl, hw1⟩
  subst hw1
  go_wp2_with fail
  go_ret
  exact ⟨rfl, rfl⟩
theorem gt_no {n m : Nat} (hn : n < double.infRung) (hm : m < double.infRung) (hle : n ≤ m) : (FloatKind.f64.format.order n m == some .gt) = false := by
  have h1 := (ord_sgn (s := false) (t := false) hn hm (o := compare (Rung.sgn false n) (Rung.sgn false m)) rfl).gt
  have e : ∀ k, double.word false k = k := fun k => rfl
  rw [e, e] at h1
  rw [h1]
  rcases Nat.lt_or_eq_of_le hle with h | h
  · rw [cmp_lt (by unfold Rung.sgn; simp; exact h)]; rfl
  · rw [cmp_eq (by rw [h])]; rfl
theorem finite_yes (s : Bool) (n : Nat) (w : World) (h : n < double.infRung) :
    Calls Tryz.prog 14 #[.float .f64 (double.word s n)] w fun e w' => e = .returned (.bool true) ∧ w = w' := by
  have h' := h
  rw [inf_num] at h'
  have HN := Lib.hid (fun W => isnan_w (double.word s n) false W ((ord_sgn (s := s) (t := s) h h (cmp_eq rfl)).ne.trans rfl))
  have HI := Lib.hid (fun W => isinf_w s n false W (by omega) (gt_no h (by rw [inf_num]; omega) (by omega)))
  clear h h'
  go_enter Tryz.func14, Tryz.ntmps14
  go_wp2_with fail
  refine (HN.out _).mono ?_
  rintro en w1 ⟨rfl, hw1⟩
  subst hw1
  go_wp2_with fail
  refine (HI.out _).mono ?_
  rintro en w1 ⟨rfl, hw1⟩
  subst hw1
  go_wp2_with fail
  go_ret
  exact ⟨rfl, rfl⟩
theorem finite_no (s : Bool) (n : Nat) (w : World) (h : double.infRung ≤ n) (h' : n < double.signWeight) :
    Calls Tryz.prog 14 #[.float .f64 (double.word s n)] w fun e w' => e = .returned (.bool false) ∧ w = w' := by
  rcases Nat.lt_or_ge double.infRung n with hlt | hge
  · have HN := Lib.hid (fun W => isnan_w (double.word s n) true W (by
      have := Rung.order_nan_l (f := double) (s := s) (n := n) (x := double.word s n) Rung.dbl_bin hlt h'
      show (double.order (double.word s n) (double.word s n) != some .eq) = true
      rw [this]; rfl))
    clear h h' hlt
    go_enter Tryz.func14, Tryz.ntmps14
    go_wp2_with fail
    refine (HN.out _).mono ?_
    rintro en w1 ⟨rfl, hw1⟩
    subst hw1
    go_wp2_with fail
    go_ret
    exact ⟨rfl, rfl⟩
  · obtain rfl : n = double.infRung := by omega
    have HN := Lib.hid (fun W => isnan_w (double.word s double.infRung) false W (by
      show (double.order (double.word s double.infRung) (double.word s double.infRung) != some .eq) = false
      rw [Rung.order_inf Rung.dbl_bin]; cases s <;> rfl))
    have HI := Lib.hid (fun W => isinf_w s double.infRung true W (by rw [inf_num]; omega) (by
      have := Rung.order_inf_l (f := double) (s := false) (t := false) (n := 9218868437227405311) Rung.dbl_bin (by rw [inf_num]; omega)
      rw [show double.word false double.infRung = double.infRung from rfl, show double.word false 9218868437227405311 = 9218868437227405311 from rfl] at this
      show (double.order double.infRung 9218868437227405311 == some .gt) = true
      rw [this]; rfl))
    clear h h' hge
    generalize double.infRung = n at *
    go_enter Tryz.func14, Tryz.ntmps14
    go_wp2_with fail
    refine (HN.out _).mono ?_
    rintro en w1 ⟨rfl, hw1⟩
    subst hw1
    go_wp2_with fail
    refine (HI.out _).mono ?_
    rintro en w1 ⟨rfl, hw1⟩
    subst hw1
    go_wp2_with fail
    go_ret
    exact ⟨rfl, rfl⟩
theorem nan_w (w : World) : Calls Tryz.prog 23 #[] w fun e w' => e = .returned (.float .f64 9221120237041090561) ∧ w = w' := by
  have hf := frombits_run' 9221120237041090561 9221120237041090561 rfl
  go_enter Tryz.func23, Tryz.ntmps23
  go_wp2_with fail
  go_ret
  exact ⟨rfl, rfl⟩
set_option maxHeartbeats 4000000 in
set_option maxRecDepth 100000 in
theorem awake_w (w : World) (ht : Tens w) : Calls Tryz.prog 11 #[] w (LwPost w) := by
  have H1 := Lib.hid (text_half w ht)
  have H2 := Lib.hid (fun W => text_bad 9221120237041090561 W (fun W' => digits_no false 9221120237041090561 W' (by rw [inf_num]; omega) (by decide)))
  have H3 := Lib.hid (fun W => nan_w W)
  clear ht
  go_enter Tryz.func11, Tryz.ntmps11
  go_wp2_with fail
  refine H1.out.mono ?_
  rintro en w1 ⟨rfl, b1⟩
  have B1 := Lib.hid b1
  clear b1
  go_wp2_with fail
  refine (H3.out _).mono ?_
  rintro en w2 ⟨rfl, hw2⟩
  subst hw2
  go_wp2_with fail
  refine (H2.out _).mono ?_
  rintro en w2 ⟨rfl, b2⟩
  have B2 := Lib.hid (bthen B1.out b2)
  clear b2
  go_wp2_with fail
  go_ret
  exact ⟨rfl, B2.out⟩
end Go.Proofs.YtabmalnandbocaaGreatDoor.Num
namespace Go.Proofs.YtabmalnandbocaaGreatDoor.Num
set_option exponentiation.threshold 3000
set_option linter.unusedVariables false
set_option linter.unusedSimpArgs false
set_option exponentiation.threshold 3000
open Go.RowKit Go.Proofs.YtabmalnandbocaaGreatDoor.Mem Go.Proofs.YtabmalnandbocaaGreatDoor.Own Go.Proofs.YtabmalnandbocaaGreatDoor.Big Go.Proofs.YtabmalnandbocaaGreatDoor.Str Go.Proofs.YtabmalnandbocaaGreatDoor.Rdr
open Ieee (double single)
theorem fin_t {x : Nat} {b : Bool} {w : World} (h : Calls Tryz.prog 14 #[.float .f64 x] w fun e w' => e = .returned (.bool b) ∧ w = w') : Calls Tryz.prog 14 #[.float .f64 x] w fun e w' => e = .returned (.bool b) ∧ w = w' := h
set_option maxHeartbeats 8000000 in
set_option maxRecDepth 100000 in
theorem back_good (x : Nat) (s : Bool) (l dl : List UInt8) (ex : Int) (w : World) (hx : x < 18446744073709551616)
    (h0 : ∀ W, Below w.heap.size w W → Calls Tryz.prog 11 #[] W (LwPost W))
    (h1 : ∀ W, Below w.heap.size w W → Calls Tryz.prog 9 #[.float .f64 x] W (TePost W l 0))
    (h2 : ∀ W, Calls Tryz.prog 13 #[.float .f64 x] W (DxPost W (.agg #[.bool s, .string ⟨dl.toArray⟩, .int .i64 ex]) 0))
    (h3 : ∀ W, Calls Tryz.prog 14 #[.float .f64 x] W fun e w' => e = .returned (.bool true) ∧ W = w')
    (h4 : ∀ W, Calls Tryz.prog 15 #[.string ⟨l.toArray⟩] W (FlPost W x 0))
    (h5 : ∀ W, Calls Tryz.prog 16 #[.string ⟨l.toArray⟩] W (D2Post W s dl ex 0))
    (h6 : ∀ W, Calls Tryz.prog 17 #[.agg #[.bool s, .string ⟨dl.toArray⟩, .int .i64 ex]] W (FlPost W x 0)) :
    Calls Tryz.prog 6 #[.int .u64 (x : Nat)] w (LwPost w) := by
  have hfb := frombits_run x
  have hbr := bits_run x
  have H0 := Lib.hid h0
  have H1 := Lib.hid h1
  have H2 := Lib.hid h2
  have H3 := Lib.hid h3
  have H4 := Lib.hid h4
  have H5 := Lib.hid h5
  have H6 := Lib.hid h6
  clear h0 h1 h2 h3 h4 h5 h6
  go_enter Tryz.func6, Tryz.ntmps6
  go_wp2_with fail
  refine (H0.out _ (Below.refl _ _)).mono ?_
  rintro en w1 ⟨rfl, b1⟩
  have B1 := Lib.hid (bthen (Below.refl _ w) b1)
  clear b1
  go_wp2_with fail
  refine (H1.out _ B1.out).mono ?_
  rintro en w2 ⟨rfl, b2⟩
  have B2 := Lib.hid (bthen B1.out b2)
  clear b2
  go_wp2_with fail
  refine (H2.out _).mono ?_
  rintro en w3 ⟨rfl, b3⟩
  have B3 := Lib.hid (bthen B2.out b3)
  clear b3
  go_wp2_with fail
  refine (H3.out _).mono ?_
  rintro en wf ⟨rfl, hwf⟩
  subst hwf
  go_wp2_with fail
  refine (H4.out _).mono ?_
  rintro en w4 ⟨rfl, b4⟩
  have hx := (Blk.new w3 32 #[.bool s, .string ⟨dl.toArray⟩, .int .i64 ex])
  have HD4 := Lib.hid (hx.below b4 hx.lt)
  clear hx
  have B4 := Lib.hid (bthen (B3.out.alloc B3.out.size (.cells #[.bool s, .string ⟨dl.toArray⟩, .int .i64 ex] 32)) b4)
  have D_0 : w4.cell? ⟨w3.heap.size, 0, none⟩ = some (.bool s) := HD4.out.cell 0
  have D_1 : w4.cell? ⟨w3.heap.size, 1, none⟩ = some (.string ⟨dl.toArray⟩) := HD4.out.cell 1
  have D_2 : w4.cell? ⟨w3.heap.size, 2, none⟩ = some (.int .i64 ex) := HD4.out.cell 2
  have D_z : w3.heap.size < w4.heap.size := HD4.out.lt
  clear b4
  go_wp2_with fail
  refine (H5.out _).mono ?_
  rintro en w5 ⟨rfl, b5⟩
  have hx := HD4.out
  have HD5 := Lib.hid (hx.below b5 hx.lt)
  clear hx
  have B5 := Lib.hid (bthen B4.out b5)
  clear D_0 D_1 D_2 D_z
  have D_0 : w5.cell? ⟨w3.heap.size, 0, none⟩ = some (.bool s) := HD5.out.cell 0
  have D_1 : w5.cell? ⟨w3.heap.size, 1, none⟩ = some (.string ⟨dl.toArray⟩) := HD5.out.cell 1
  have D_2 : w5.cell? ⟨w3.heap.size, 2, none⟩ = some (.int .i64 ex) := HD5.out.cell 2
  have D_z : w3.heap.size < w5.heap.size := HD5.out.lt
  clear b5
  go_wp2_with fail
  refine (H6.out _).mono ?_
  rintro en w6 ⟨rfl, b6⟩
  have hx := (HD5.out.alloc (.cells #[.bool s, .string ⟨dl.toArray⟩, .int .i64 ex] 32))
  have HD6 := Lib.hid (hx.below b6 hx.lt)
  clear hx
  have hx := (Blk.new w5 32 #[.bool s, .string ⟨dl.toArray⟩, .int .i64 ex])
  have HO6 := Lib.hid (hx.below b6 hx.lt)
  clear hx
  have B6 := Lib.hid (bthen (B5.out.alloc B5.out.size (.cells #[.bool s, .string ⟨dl.toArray⟩, .int .i64 ex] 32)) b6)
  clear D_0 D_1 D_2 D_z
  have D_0 : w6.cell? ⟨w3.heap.size, 0, none⟩ = some (.bool s) := HD6.out.cell 0
  have D_1 : w6.cell? ⟨w3.heap.size, 1, none⟩ = some (.string ⟨dl.toArray⟩) := HD6.out.cell 1
  have D_2 : w6.cell? ⟨w3.heap.size, 2, none⟩ = some (.int .i64 ex) := HD6.out.cell 2
  have D_z : w3.heap.size < w6.heap.size := HD6.out.lt
  have O_0 : w6.cell? ⟨w5.heap.size, 0, none⟩ = some (.bool s) := HO6.out.cell 0
  have O_1 : w6.cell? ⟨w5.heap.size, 1, none⟩ = some (.string ⟨dl.toArray⟩) := HO6.out.cell 1
  have O_2 : w6.cell? ⟨w5.heap.size, 2, none⟩ = some (.int .i64 ex) := HO6.out.cell 2
  have O_z : w5.heap.size < w6.heap.size := HO6.out.lt
  clear b6
  go_wp2_with fail
  go_ret
  exact ⟨rfl, B6.out⟩
set_option maxHeartbeats 8000000 in
set_option maxRecDepth 100000 in
theorem back_bad (x : Nat) (w : World) (hx : x < 18446744073709551616)
    (h0 : ∀ W, Below w.heap.size w W → Calls Tryz.prog 11 #[] W (LwPost W))
    (h1 : ∀ W, Below w.heap.size w W → Calls Tryz.prog 9 #[.float .f64 x] W (TePost W [] 130))
    (h2 : ∀ W, Calls Tryz.prog 13 #[.float .f64 x] W (DxPost W (.agg #[.bool false, .string ⟨([] : List UInt8).toArray⟩, .int .i64 0]) 130))
    (h3 : ∀ W, Calls Tryz.prog 14 #[.float .f64 x] W fun e w' => e = .returned (.bool false) ∧ W = w') :
    Calls Tryz.prog 6 #[.int .u64 (x : Nat)] w (LwPost w) := by
  have hfb := frombits_run x
  have H0 := Lib.hid h0
  have H1 := Lib.hid h1
  have H2 := Lib.hid h2
  have H3 := Lib.hid h3
  clear h0 h1 h2 h3
  go_enter Tryz.func6, Tryz.ntmps6
  go_wp2_with fail
  refine (H0.out _ (Below.refl _ _)).mono ?_
  rintro en w1 ⟨rfl, b1⟩
  have B1 := Lib.hid (bthen (Below.refl _ w) b1)
  clear b1
  go_wp2_with fail
  refine (H1.out _ B1.out).mono ?_
  rintro en w2 ⟨rfl, b2⟩
  have B2 := Lib.hid (bthen B1.out b2)
  clear b2
  go_wp2_with fail
  refine (H2.out _).mono ?_
  rintro en w3 ⟨rfl, b3⟩
  have B3 := Lib.hid (bthen B2.out b3)
  clear b3
  go_wp2_with fail
  refine (H3.out _).mono ?_
  rintro en wf ⟨rfl, hwf⟩
  subst hwf
  go_wp2_with fail
  go_ret
  exact ⟨rfl, (B3.out.alloc B3.out.size (.cells #[.bool false, .string ⟨#[]⟩, .int .i64 0] 32))⟩
theorem form_len {k : Nat} (hk : k < double.infRung) : (dL k).length < 140737488355328 := by have := dig_17 hk; omega
theorem itoa_few (v : Int) (h1 : -10000 ≤ v) (h2 : v ≤ 10000) : (itoaF v).length ≤ 7 := by
  have hd : ∀ x : Nat, x ≤ 10000 → (decL x).length ≤ 6 := fun x hx => by
    have h3 := decL_len x
    have h4 := digs_len_le (b := 10) (by decide) (n := x) (k := 5) (by omega)
    omega
  unfold itoaF
  split
  · have := hd (-v).toNat (by omega); rw [List.length_cons]; omega
  · have := hd v.toNat (by omega); omega
theorem body_len {l : List UInt8} {e : Int} (hl : l.length ≤ 17) (h1 : -9000 ≤ e) (h2 : e ≤ 9000) : (bodyF l e).length ≤ 100 := by
  have hi := itoa_few (e + l.length - 1) (by omega) (by omega)
  unfold bodyF
  split
  · simp
  · split
    · rw [List.length_append, List.length_replicate]; omega
    · split
      · rw [List.length_append, List.length_cons, List.length_take, List.length_drop]; omega
      · split
        · rw [List.length_cons, List.length_cons, List.length_append, List.length_replicate]; omega
        · rw [List.length_append, List.length_append, List.length_cons, List.length_take]
          split
          · rw [List.length_cons, List.length_drop]; omega
          · simp; omega
theorem write_len {k : Nat} (hk : k < double.infRung) (s : Bool) : (writeF s (dL k) (dE k)).length < 140737488355328 := by
  have h17 := dig_17 hk
  obtain ⟨b1, b2⟩ := dE_bd hk
  have := body_len h17 b1 b2
  unfold writeF
  rw [List.length_append]
  cases s <;> simp <;> omega
theorem shortestBack_w (x : Nat) (w : World) (hx : x < 18446744073709551616) (ht : Tens w) : Calls Tryz.prog 6 #[.int .u64 (x : Nat)] w (LwPost w) := by
  obtain ⟨s, n, hn, rfl⟩ := Rung.word_of (f := double) (x := x) (Nat.lt_of_lt_of_le hx (by decide))
  have hT : ∀ W, Below w.heap.size w W → Tens W := fun W hb => ht.below hb
  by_cases h : n < double.infRung
  · have hsz : (⟨(writeF s (dL n) (dE n)).toArray⟩ : ByteArray).size < 140737488355328 := by
      have : (⟨(writeF s (dL n) (dE n)).toArray⟩ : ByteArray).size = (writeF s (dL n) (dE n)).length := by simp [ByteArray.size]
      rw [this]; exact write_len h s
    have hb : textF ((⟨(writeF s (dL n) (dE n)).toArray⟩ : ByteArray).data.toList) = .ok (s, dL n, dE n) := text_back s (dig_form h)
    have hnr := dig_near h
    have hni : near64 (dL n) (dE n) ≠ 9218868437227405312 := by rw [hnr]; rw [inf_num] at h; omega
    have hfl : flF ((⟨(writeF s (dL n) (dE n)).toArray⟩ : ByteArray).data.toList) = (double.word s n, 0) := by
      unfold flF
      rw [hb]
      simp only
      rw [if_neg hni, hnr]
    refine back_good _ s (writeF s (dL n) (dE n)) (dL n) (dE n) w hx (fun W hb => awake_w W (hT W hb)) (fun W hb => text_yes s n W h (hT W hb)) (fun W => digits_yes s n W h) (fun W => finite_yes s n W h) (fun W => ?_) (fun W => dof_good W hsz hb) (fun W => ?_)
    · have := sread_w ⟨(writeF s (dL n) (dE n)).toArray⟩ W hsz
      rw [hfl] at this
      exact this
    · have := flo_w s (dL n) (dE n) W (dig_form h) (form_len h)
      rw [if_neg hni, if_neg hni, hnr] at this
      exact this
  · exact back_bad _ w hx (fun W hb => awake_w W (hT W hb)) (fun W hb => text_bad _ W (fun W' => digits_no s n W' (by omega) hn)) (fun W => digits_no s n W (by omega) hn) (fun W => finite_no s n W (by omega) hn)
end Go.Proofs.YtabmalnandbocaaGreatDoor.Num
namespace Go.Proofs.YtabmalnandbocaaGreatDoor.Num
set_option exponentiation.threshold 3000
set_option linter.unusedVariables false
set_option linter.unusedSimpArgs false
set_option exponentiation.threshold 3000
open Go.RowKit Go.Proofs.YtabmalnandbocaaGreatDoor.Mem Go.Proofs.YtabmalnandbocaaGreatDoor.Own Go.Proofs.YtabmalnandbocaaGreatDoor.Big Go.Proofs.YtabmalnandbocaaGreatDoor.Str Go.Proofs.YtabmalnandbocaaGreatDoor.Rdr
open Ieee (double single)
theorem xor_sign {s : Bool} {n : Nat} (h : n < double.signWeight) : bits .xor .u64 ((double.word s n : Nat) : Int) 9223372036854775808 = ((double.word (!s) n : Nat) : Int) := by
  rw [show double.signWeight = 9223372036854775808 by decide] at h
  have hx : double.word s n = (if s then 9223372036854775808 + n else n) := rfl
  have h1 := u64_xor_nat (double.word s n) 9223372036854775808 (by rw [hx]; split <;> omega) (by omega)
  have h2 := Rung.neg_word (f := double) (s := s) (n := n) (by rw [show double.signWeight = 9223372036854775808 by decide]; exact h)
  rw [show 2 ^ (double.exponentBits + double.fractionBits) = 9223372036854775808 by decide] at h2
  rw [h2] at h1
  exact h1
/-- Is it finite, and what are its digits then? -/
def Fin1 (x : Nat) : Prop := (∃ s n, n < double.infRung ∧ x = double.word s n) ∨ (∃ s n, double.infRung ≤ n ∧ n < double.signWeight ∧ x = double.word s n)
set_option maxHeartbeats 8000000 in
set_option maxRecDepth 100000 in
theorem turns_err (x : Nat) (sr : ByteArray) (w : World) (hx : x < 18446744073709551616) (hfin : Fin1 x)
    (h0 : ∀ W, Below w.heap.size w W → Calls Tryz.prog 11 #[] W (LwPost W))
    (c : Int) (hc : c ≠ 0) (hr : ∀ W, Calls Tryz.prog 15 #[.string sr] W (FlPost W 0 c)) (hd : ∀ W, Calls Tryz.prog 16 #[.string sr] W (D2Post W false [] 0 c)) :
    Calls Tryz.prog 7 #[.int .u64 (x : Nat), .string sr] w (LwPost w) := by
  have hfb := frombits_run x
  have HF := Lib.hid hfin
  have H0 := Lib.hid h0
  have HR := Lib.hid hr
  have HD := Lib.hid hd
  have t1 : (c != 0) = true := by rw [bne_iff_ne]; exact hc
  have t2 : (c == c) = true := beq_self_eq_true c
  have t3 := (ord_sgn (s := false) (t := false) zero_inf zero_inf (o := .eq) (cmp_eq rfl)).eq
  rw [eq_eq, show double.word false 0 = 0 from rfl] at t3
  clear hc hfin h0 hr hd
  go_enter Tryz.func7, Tryz.ntmps7
  go_wp2_with fail
  refine (H0.out _ (Below.refl _ _)).mono ?_
  rintro en w1 ⟨rfl, b1⟩
  have B1 := Lib.hid b1
  clear b1
  rcases HF.out with ⟨s, n, hn, rfl⟩ | ⟨s, n, hn, hn2, rfl⟩
  · have hsw : n < double.signWeight := Nat.lt_trans hn (Rung.inf_lt double)
    have hxr := xor_sign (s := s) hsw
    have H3 := Lib.hid (fun W => finite_yes s n W hn)
    have HD1 := Lib.hid (fun W => digits_yes s n W hn)
    have HD2 := Lib.hid (fun W => digits_yes (!s) n W hn)
    have h7 : (((double.word s n : Nat) : Int) / 9223372036854775808 == 1) = s := by
      rw [show double.signWeight = 9223372036854775808 by decide] at hsw
      have hx2 : double.word s n = (if s then 9223372036854775808 + n else n) := rfl
      have h3 : ((double.word s n : Nat) : Int) / 9223372036854775808 = if s then 1 else 0 := by rw [hx2]; split <;> omega
      rw [h3]; cases s <;> rfl
    have hfb2 := frombits_run (double.word (!s) n)
    skip
    skip
    generalize double.word s n = x at *
    generalize double.word (!s) n = y at *
    clear hn hsw
    go_wp2_with fail
    refine (H3.out _).mono ?_
    rintro en wf ⟨rfl, hwf⟩
    subst hwf
    go_upto_if 21 with fail
    go_cut [] (fun wx => Hid (Below w.heap.size w wx))
    case first =>
      go_wp2_with fail
      refine (HD1.out _).mono ?_
      rintro en w2 ⟨rfl, b2⟩
      have hk := (Blk.new w2 32 #[.bool s, .string ⟨(dL n).toArray⟩, .int .i64 (dE n)])
      have HK := Lib.hid hk
      have B2 := Lib.hid ((bthen B1.out b2).alloc (bthen B1.out b2).size (.cells #[.bool s, .string ⟨(dL n).toArray⟩, .int .i64 (dE n)] 32))
      clear b2 hk
      go_wp2_with fail
      refine (HD2.out _).mono ?_
      rintro en w3 ⟨rfl, b3⟩
      have hk3 := HK.out.below b3 HK.out.lt
      have m0 : w3.cell? ⟨w2.heap.size, 0, none⟩ = some (.bool s) := hk3.cell 0
      have m1 : w3.cell? ⟨w2.heap.size, 1, none⟩ = some (.string ⟨(dL n).toArray⟩) := hk3.cell 1
      have m2 : w3.cell? ⟨w2.heap.size, 2, none⟩ = some (.int .i64 (dE n)) := hk3.cell 2
      have hlt := hk3.lt
      have B3 := Lib.hid ((bthen B2.out b3).alloc (bthen B2.out b3).size (.cells #[.bool (!s), .string ⟨(dL n).toArray⟩, .int .i64 (dE n)] 32))
      clear b3 hk3
      cases s
      all_goals
        go_wp2_with fail
        go_meet
        exact B3
    case rest =>
      have B1 := hcut
      clear hxr h7 hfb2 HD1 HD2
      go_wp2_with fail
      refine (HR.out _).mono ?_
      rintro en v1 ⟨rfl, b1⟩
      have C1 := Lib.hid (bthen B1.out b1)
      clear b1
      go_wp2_with fail
      refine (HD.out _).mono ?_
      rintro en v2 ⟨rfl, b2⟩
      have C2 := Lib.hid ((bthen C1.out b2).alloc (bthen C1.out b2).size (.cells #[.bool false, .string ⟨([] : List UInt8).toArray⟩, .int .i64 0] 32))
      clear b2
      go_wp2_with fail
      go_ret
      exact ⟨rfl, C2.out⟩
  · have H3 := Lib.hid (fun W => finite_no s n W hn hn2)
    generalize double.word s n = x at *
    clear hn hn2
    go_wp2_with fail
    refine (H3.out _).mono ?_
    rintro en wf ⟨rfl, hwf⟩
    subst hwf
    go_wp2_with fail
    refine (HR.out _).mono ?_
    rintro en v1 ⟨rfl, b1⟩
    have C1 := Lib.hid (bthen B1.out b1)
    clear b1
    go_wp2_with fail
    refine (HD.out _).mono ?_
    rintro en v2 ⟨rfl, b2⟩
    have C2 := Lib.hid ((bthen C1.out b2).alloc (bthen C1.out b2).size (.cells #[.bool false, .string ⟨([] : List UInt8).toArray⟩, .int .i64 0] 32))
    clear b2
    go_wp2_with fail
    go_ret
    exact ⟨rfl, C2.out⟩
set_option maxHeartbeats 8000000 in
set_option maxRecDepth 100000 in
theorem turns_over (x : Nat) (sr : ByteArray) (w : World) (hx : x < 18446744073709551616) (hfin : Fin1 x)
    (h0 : ∀ W, Below w.heap.size w W → Calls Tryz.prog 11 #[] W (LwPost W))
    (nn : Bool) (l : List UInt8) (e : Int) (hr : ∀ W, Calls Tryz.prog 15 #[.string sr] W (FlPost W 0 121)) (hd : ∀ W, Calls Tryz.prog 16 #[.string sr] W (D2Post W nn l e 0)) :
    Calls Tryz.prog 7 #[.int .u64 (x : Nat), .string sr] w (LwPost w) := by
  have hfb := frombits_run x
  have HF := Lib.hid hfin
  have H0 := Lib.hid h0
  have HR := Lib.hid hr
  have HD := Lib.hid hd
  have t3 := (ord_sgn (s := false) (t := false) zero_inf zero_inf (o := .eq) (cmp_eq rfl)).eq
  rw [eq_eq, show double.word false 0 = 0 from rfl] at t3
  clear hfin h0 hr hd
  go_enter Tryz.func7, Tryz.ntmps7
  go_wp2_with fail
  refine (H0.out _ (Below.refl _ _)).mono ?_
  rintro en w1 ⟨rfl, b1⟩
  have B1 := Lib.hid b1
  clear b1
  rcases HF.out with ⟨s, n, hn, rfl⟩ | ⟨s, n, hn, hn2, rfl⟩
  · have hsw : n < double.signWeight := Nat.lt_trans hn (Rung.inf_lt double)
    have hxr := xor_sign (s := s) hsw
    have H3 := Lib.hid (fun W => finite_yes s n W hn)
    have HD1 := Lib.hid (fun W => digits_yes s n W hn)
    have HD2 := Lib.hid (fun W => digits_yes (!s) n W hn)
    have h7 : (((double.word s n : Nat) : Int) / 9223372036854775808 == 1) = s := by
      rw [show double.signWeight = 9223372036854775808 by decide] at hsw
      have hx2 : double.word s n = (if s then 9223372036854775808 + n else n) := rfl
      have h3 : ((double.word s n : Nat) : Int) / 9223372036854775808 = if s then 1 else 0 := by rw [hx2]; split <;> omega
      rw [h3]; cases s <;> rfl
    have hfb2 := frombits_run (double.word (!s) n)
    skip
    skip
    generalize double.word s n = x at *
    generalize double.word (!s) n = y at *
    clear hn hsw
    go_wp2_with fail
    refine (H3.out _).mono ?_
    rintro en wf ⟨rfl, hwf⟩
    subst hwf
    go_upto_if 21 with fail
    go_cut [] (fun wx => Hid (Below w.heap.size w wx))
    case first =>
      go_wp2_with fail
      refine (HD1.out _).mono ?_
      rintro en w2 ⟨rfl, b2⟩
      have hk := (Blk.new w2 32 #[.bool s, .string ⟨(dL n).toArray⟩, .int .i64 (dE n)])
      have HK := Lib.hid hk
      have B2 := Lib.hid ((bthen B1.out b2).alloc (bthen B1.out b2).size (.cells #[.bool s, .string ⟨(dL n).toArray⟩, .int .i64 (dE n)] 32))
      clear b2 hk
      go_wp2_with fail
      refine (HD2.out _).mono ?_
      rintro en w3 ⟨rfl, b3⟩
      have hk3 := HK.out.below b3 HK.out.lt
      have m0 : w3.cell? ⟨w2.heap.size, 0, none⟩ = some (.bool s) := hk3.cell 0
      have m1 : w3.cell? ⟨w2.heap.size, 1, none⟩ = some (.string ⟨(dL n).toArray⟩) := hk3.cell 1
      have m2 : w3.cell? ⟨w2.heap.size, 2, none⟩ = some (.int .i64 (dE n)) := hk3.cell 2
      have hlt := hk3.lt
      have B3 := Lib.hid ((bthen B2.out b3).alloc (bthen B2.out b3).size (.cells #[.bool (!s), .string ⟨(dL n).toArray⟩, .int .i64 (dE n)] 32))
      clear b3 hk3
      cases s
      all_goals
        go_wp2_with fail
        go_meet
        exact B3
    case rest =>
      have B1 := hcut
      clear hxr h7 hfb2 HD1 HD2
      go_wp2_with fail
      refine (HR.out _).mono ?_
      rintro en v1 ⟨rfl, b1⟩
      have C1 := Lib.hid (bthen B1.out b1)
      clear b1
      go_wp2_with fail
      refine (HD.out _).mono ?_
      rintro en v2 ⟨rfl, b2⟩
      have C2 := Lib.hid ((bthen C1.out b2).alloc (bthen C1.out b2).size (.cells #[.bool nn, .string ⟨l.toArray⟩, .int .i64 e] 32))
      clear b2
      go_wp2_with fail
      go_ret
      exact ⟨rfl, C2.out⟩
  · have H3 := Lib.hid (fun W => finite_no s n W hn hn2)
    generalize double.word s n = x at *
    clear hn hn2
    go_wp2_with fail
    refine (H3.out _).mono ?_
    rintro en wf ⟨rfl, hwf⟩
    subst hwf
    go_wp2_with fail
    refine (HR.out _).mono ?_
    rintro en v1 ⟨rfl, b1⟩
    have C1 := Lib.hid (bthen B1.out b1)
    clear b1
    go_wp2_with fail
    refine (HD.out _).mono ?_
    rintro en v2 ⟨rfl, b2⟩
    have C2 := Lib.hid ((bthen C1.out b2).alloc (bthen C1.out b2).size (.cells #[.bool nn, .string ⟨l.toArray⟩, .int .i64 e] 32))
    clear b2
    go_wp2_with fail
    go_ret
    exact ⟨rfl, C2.out⟩
set_option maxHeartbeats 8000000 in
set_option maxRecDepth 100000 in
theorem turns_ok (x : Nat) (sr : ByteArray) (w : World) (hx : x < 18446744073709551616) (hfin : Fin1 x)
    (h0 : ∀ W, Below w.heap.size w W → Calls Tryz.prog 11 #[] W (LwPost W))
    (nn : Bool) (l : List UInt8) (e : Int) (z : Nat) (dm : List UInt8) (em : Int) (hle : dm.length ≤ l.length) (hr : ∀ W, Calls Tryz.prog 15 #[.string sr] W (FlPost W z 0)) (hd : ∀ W, Calls Tryz.prog 16 #[.string sr] W (D2Post W nn l e 0))
    (hm : ∀ W, Calls Tryz.prog 13 #[.float .f64 z] W (DxPost W (.agg #[.bool nn, .string ⟨dm.toArray⟩, .int .i64 em]) 0)) :
    Calls Tryz.prog 7 #[.int .u64 (x : Nat), .string sr] w (LwPost w) := by
  have hfb := frombits_run x
  have HF := Lib.hid hfin
  have H0 := Lib.hid h0
  have HR := Lib.hid hr
  have HD := Lib.hid hd
  have HM := Lib.hid hm
  have t1 : (⟨dm.toArray⟩ : ByteArray).size = dm.length := by simp [ByteArray.size]
  have t2 : (⟨l.toArray⟩ : ByteArray).size = l.length := by simp [ByteArray.size]
  have t4 : decide ((dm.length : Int) ≤ (l.length : Int)) = true := decide_eq_true (by omega)
  clear hfin h0 hr hd hm
  go_enter Tryz.func7, Tryz.ntmps7
  go_wp2_with fail
  refine (H0.out _ (Below.refl _ _)).mono ?_
  rintro en w1 ⟨rfl, b1⟩
  have B1 := Lib.hid b1
  clear b1
  rcases HF.out with ⟨s, n, hn, rfl⟩ | ⟨s, n, hn, hn2, rfl⟩
  · have hsw : n < double.signWeight := Nat.lt_trans hn (Rung.inf_lt double)
    have hxr := xor_sign (s := s) hsw
    have H3 := Lib.hid (fun W => finite_yes s n W hn)
    have HD1 := Lib.hid (fun W => digits_yes s n W hn)
    have HD2 := Lib.hid (fun W => digits_yes (!s) n W hn)
    have h7 : (((double.word s n : Nat) : Int) / 9223372036854775808 == 1) = s := by
      rw [show double.signWeight = 9223372036854775808 by decide] at hsw
      have hx2 : double.word s n = (if s then 9223372036854775808 + n else n) := rfl
      have h3 : ((double.word s n : Nat) : Int) / 9223372036854775808 = if s then 1 else 0 := by rw [hx2]; split <;> omega
      rw [h3]; cases s <;> rfl
    have hfb2 := frombits_run (double.word (!s) n)
    skip
    skip
    generalize double.word s n = x at *
    generalize double.word (!s) n = y at *
    clear hn hsw
    go_wp2_with fail
    refine (H3.out _).mono ?_
    rintro en wf ⟨rfl, hwf⟩
    subst hwf
    go_upto_if 21 with fail
    go_cut [] (fun wx => Hid (Below w.heap.size w wx))
    case first =>
      go_wp2_with fail
      refine (HD1.out _).mono ?_
      rintro en w2 ⟨rfl, b2⟩
      have hk := (Blk.new w2 32 #[.bool s, .string ⟨(dL n).toArray⟩, .int .i64 (dE n)])
      have HK := Lib.hid hk
      have B2 := Lib.hid ((bthen B1.out b2).alloc (bthen B1.out b2).size (.cells #[.bool s, .string ⟨(dL n).toArray⟩, .int .i64 (dE n)] 32))
      clear b2 hk
      go_wp2_with fail
      refine (HD2.out _).mono ?_
      rintro en w3 ⟨rfl, b3⟩
      have hk3 := HK.out.below b3 HK.out.lt
      have m0 : w3.cell? ⟨w2.heap.size, 0, none⟩ = some (.bool s) := hk3.cell 0
      have m1 : w3.cell? ⟨w2.heap.size, 1, none⟩ = some (.string ⟨(dL n).toArray⟩) := hk3.cell 1
      have m2 : w3.cell? ⟨w2.heap.size, 2, none⟩ = some (.int .i64 (dE n)) := hk3.cell 2
      have hlt := hk3.lt
      have B3 := Lib.hid ((bthen B2.out b3).alloc (bthen B2.out b3).size (.cells #[.bool (!s), .string ⟨(dL n).toArray⟩, .int .i64 (dE n)] 32))
      clear b3 hk3
      cases s
      all_goals
        go_wp2_with fail
        go_meet
        exact B3
    case rest =>
      have B1 := hcut
      clear hxr h7 hfb2 HD1 HD2
      go_wp2_with fail
      refine (HR.out _).mono ?_
      rintro en v1 ⟨rfl, b1⟩
      have C1 := Lib.hid (bthen B1.out b1)
      clear b1
      go_wp2_with fail
      refine (HD.out _).mono ?_
      rintro en v2 ⟨rfl, b2⟩
      have hk := (Blk.new v2 32 #[.bool nn, .string ⟨l.toArray⟩, .int .i64 e])
      have HK := Lib.hid hk
      have C2 := Lib.hid ((bthen C1.out b2).alloc (bthen C1.out b2).size (.cells #[.bool nn, .string ⟨l.toArray⟩, .int .i64 e] 32))
      clear b2 hk
      go_wp2_with fail
      refine (HM.out _).mono ?_
      rintro en v3 ⟨rfl, b3⟩
      have hk3 := HK.out.below b3 HK.out.lt
      have p0 : v3.cell? ⟨v2.heap.size, 0, none⟩ = some (.bool nn) := hk3.cell 0
      have p1 : v3.cell? ⟨v2.heap.size, 1, none⟩ = some (.string ⟨l.toArray⟩) := hk3.cell 1
      have p2 : v3.cell? ⟨v2.heap.size, 2, none⟩ = some (.int .i64 e) := hk3.cell 2
      have hlt3 := hk3.lt
      have C3 := Lib.hid ((bthen C2.out b3).alloc (bthen C2.out b3).size (.cells #[.bool nn, .string ⟨dm.toArray⟩, .int .i64 em] 32))
      clear b3 hk3
      go_wp2_with fail
      go_ret
      exact ⟨rfl, C3.out⟩
  · have H3 := Lib.hid (fun W => finite_no s n W hn hn2)
    generalize double.word s n = x at *
    clear hn hn2
    go_wp2_with fail
    refine (H3.out _).mono ?_
    rintro en wf ⟨rfl, hwf⟩
    subst hwf
    go_wp2_with fail
    refine (HR.out _).mono ?_
    rintro en v1 ⟨rfl, b1⟩
    have C1 := Lib.hid (bthen B1.out b1)
    clear b1
    go_wp2_with fail
    refine (HD.out _).mono ?_
    rintro en v2 ⟨rfl, b2⟩
    have hk := (Blk.new v2 32 #[.bool nn, .string ⟨l.toArray⟩, .int .i64 e])
    have HK := Lib.hid hk
    have C2 := Lib.hid ((bthen C1.out b2).alloc (bthen C1.out b2).size (.cells #[.bool nn, .string ⟨l.toArray⟩, .int .i64 e] 32))
    clear b2 hk
    go_wp2_with fail
    refine (HM.out _).mono ?_
    rintro en v3 ⟨rfl, b3⟩
    have hk3 := HK.out.below b3 HK.out.lt
    have p0 : v3.cell? ⟨v2.heap.size, 0, none⟩ = some (.bool nn) := hk3.cell 0
    have p1 : v3.cell? ⟨v2.heap.size, 1, none⟩ = some (.string ⟨l.toArray⟩) := hk3.cell 1
    have p2 : v3.cell? ⟨v2.heap.size, 2, none⟩ = some (.int .i64 e) := hk3.cell 2
    have hlt3 := hk3.lt
    have C3 := Lib.hid ((bthen C2.out b3).alloc (bthen C2.out b3).size (.cells #[.bool nn, .string ⟨dm.toArray⟩, .int .i64 em] 32))
    clear b3 hk3
    go_wp2_with fail
    go_ret
    exact ⟨rfl, C3.out⟩
theorem shortestTurns_w (x : Nat) (sr : ByteArray) (w : World) (hx : x < 18446744073709551616) (hsm : sr.size < 140737488355328) (ht : Tens w) : Calls Tryz.prog 7 #[.int .u64 (x : Nat), .string sr] w (LwPost w) := by
  have hl : sr.data.toList.length = sr.size := by simp
  have hfin : Fin1 x := by
    obtain ⟨s, n, hn, rfl⟩ := Rung.word_of (f := double) (x := x) (Nat.lt_of_lt_of_le hx (by decide))
    by_cases h : n < double.infRung
    · exact .inl ⟨s, n, h, rfl⟩
    · exact .inr ⟨s, n, by omega, hn, rfl⟩
  have hA : ∀ W, Below w.heap.size w W → Calls Tryz.prog 11 #[] W (LwPost W) := fun W hb => awake_w W (ht.below hb)
  have hs := fun W => sread_w sr W hsm
  unfold flF at hs
  cases h : textF sr.data.toList with
  | error c =>
    rw [h] at hs
    exact turns_err x sr w hx hfin hA c (by rcases text_err h with rfl | rfl <;> decide) hs (fun W => dof_bad W hsm h)
  | ok d =>
    obtain ⟨n, l, e⟩ := d
    rw [h] at hs
    simp only at hs
    by_cases hi : near64 l e = 9218868437227405312
    · rw [if_pos hi] at hs
      exact turns_over x sr w hx hfin hA n l e hs (fun W => dof_good W hsm h)
    · rw [if_neg hi] at hs
      have hle : near64 l e ≤ 9218868437227405312 := refF_le _ _ _ _ _
      have hlt : near64 l e < double.infRung := by rw [inf_num]; omega
      have hf := text_form h
      exact turns_ok x sr w hx hfin hA n l e _ (dL (near64 l e)) (dE (near64 l e)) (dig_fewest hlt hf.canon.1 rfl) hs (fun W => dof_good W hsm h) (fun W => digits_yes n (near64 l e) W hlt)
end Go.Proofs.YtabmalnandbocaaGreatDoor.Num
