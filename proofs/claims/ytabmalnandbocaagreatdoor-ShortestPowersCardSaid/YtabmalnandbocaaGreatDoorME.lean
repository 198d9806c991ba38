/- Chapters 13 and 14 (floats, shortest): contracts of the reference's whole numbers. No conditions beside those that each contract names. -/
import Derived.Test.YtabmalnandbocaaGreatDoorMD
import Derived.Test.YtabmalnandbocaaGreatDoorMB
import Derived.Deep.LoopGhost
namespace Go.Proofs.YtabmalnandbocaaGreatDoor.Num
set_option exponentiation.threshold 3000
set_option linter.unusedVariables false
set_option linter.unusedSimpArgs false
open Go.RowKit Go.Proofs.YtabmalnandbocaaGreatDoor.Mem Go.Proofs.YtabmalnandbocaaGreatDoor.Own Go.Proofs.YtabmalnandbocaaGreatDoor.Big

/-- The base of the reference's parts. -/
def M : Nat := 1000000000
theorem M_eq : M = 1000000000 := rfl
theorem hM : 2 ≤ M := by rw [M_eq]; decide
theorem M_pos : 0 < M := by rw [M_eq]; decide
/-- A number's parts lie there. -/
def MAt (w : World) (A : Option Addr) (n x : Nat) : Prop := n = (digs M x).length ∧ LAt w .i64 A (digs M x)
theorem MAt.below {w w' : World} {A : Option Addr} {n x : Nat} (h : MAt w A n x) (hb : Below w.heap.size w w') : MAt w' A n x := ⟨h.1, h.2.below hb⟩
theorem MAt.drewN {w : World} {A : Option Addr} {n x : Nat} (h : MAt w A n x) (q : Nat) : MAt (w.drewN q) A n x := ⟨h.1, h.2.drewN q⟩
theorem MAt.len_zero {w : World} {A : Option Addr} {n x : Nat} (h : MAt w A n x) : n = 0 ↔ x = 0 := by rw [h.1]; exact digs_len_zero hM
theorem MAt.nil (w : World) (A : Option Addr) : MAt w A 0 0 := ⟨by rw [digs_zero]; rfl, .inl digs_zero⟩
def MPost (w : World) (x : Nat) (e : Ending) (w' : World) : Prop := ∃ A n c, e = .returned (.slice A n c) ∧ MAt w' A n x ∧ Below w.heap.size w w'
theorem MPost.of_row {w w' : World} {v : Value} {l : List Nat} {x : Nat} (hr : NRow .i64 3 w' w.heap.size v l) (hl : l = digs M x) (hb : Below w.heap.size w w') : MPost w x (.returned v) w' := by
  obtain ⟨A, c, rfl, hA, -⟩ := hr.form
  subst hl
  exact ⟨A, _, c, rfl, ⟨rfl, hA⟩, hb⟩
theorem mlen_mono {x y : Nat} (h : x ≤ y) : (digs M x).length ≤ (digs M y).length := by
  rcases Nat.lt_or_ge (digs M y).length (digs M x).length with h1 | h1
  · have := digs_mono_len hM h1; omega
  · exact h1
theorem mone_at (w : World) (x : Nat) : LAt (w.alloc (.cells #[.int .i64 (x : Nat)] 3)) .i64 (some ⟨w.heap.size, 0, none⟩) [x] := LAt.of_blk (t := 3) (Blk.new w _ _)
def PlainPost (w : World) (A : Option Addr) (c x : Nat) (e : Ending) (w' : World) : Prop := e = .returned (.slice A (digs M x).length c) ∧ w' = w
theorem plain_post {w : World} {A : Option Addr} {c x k : Nat} (h : k = (digs M x).length) : PlainPost w A c x (.returned (.slice A k c)) w := ⟨by rw [h], rfl⟩
set_option maxHeartbeats 4000000 in
set_option maxRecDepth 100000 in
theorem number_w (x : Nat) (w : World) (hx : x < 18446744073709551616) :
    Calls Tryz.prog 103 #[.int .u64 (x : Nat)] w (MPost w x) := by
  obtain ⟨i8, hi8, hz8, hs8, hb8⟩ := info_of int_info
  go_enter Tryz.func103, Tryz.ntmps103
  go_wp2_with fail
  go_loopg [0, 3] x (fun y a b wr => ∃ (l : List Nat), y ≤ x ∧ a = .int .u64 (y : Nat) ∧ NRow .i64 3 wr w.heap.size b l ∧ l ++ digs M y = digs M x ∧ Below w.heap.size w wr)
  case atStart => exact ⟨[], Nat.le_refl _, rfl, NRow.nil _ _ _ _, rfl, Below.refl _ _⟩
  case round =>
    obtain ⟨l, hyx, rfl, hrow, hl, hbel⟩ := hrel
    have hlen : l.length + (digs M gk).length = (digs M x).length := by
      have := congrArg List.length hl
      rwa [List.length_append] at this
    have h20 : (digs M x).length ≤ 20 := digs_len_le hM (Nat.lt_of_lt_of_le hx (by rw [M_eq]; decide))
    have HL := Lib.hid hl
    have HB := Lib.hid hbel
    by_cases hg0 : gk = 0
    · subst hg0
      have HROW := Lib.hid hrow
      clear hrow hl hbel
      go_wp2_with fail
      go_ret
      exact MPost.of_row HROW.out (by have := HL.out; rwa [digs_zero, List.append_nil] at this) HB.out
    · have hd : gk % 1000000000 < 1000000000 := Nat.mod_lt _ (by decide)
      have HD := Lib.hid (show digs M gk = (gk % 1000000000) :: digs M (gk / 1000000000) from digs_pos hM hg0)
      have t1 : decide ((0 : Int) < (gk : Int)) = true := by simp; omega
      obtain ⟨d, hdd⟩ : ∃ d, d = gk % 1000000000 := ⟨_, rfl⟩
      rw [← hdd] at HD hd
      have ed : (gk : Int) % 1000000000 = (d : Int) := by omega
      have hlm : l.length ≤ 20 := by omega
      have hb3 := hbel.alloc (hbel.size) (.cells #[.int .i64 (d : Int)] 3)
      have HONE := Lib.hid (mone_at wr d)
      have ROWA := Lib.hid (hrow.below ((Below.refl _ wr).alloc (Nat.le_refl _) (.cells #[.int .i64 (d : Int)] 3)))
      have hbz := hbel.size
      have ED := Lib.hid ed
      clear hrow hl hbel hdd hlen
      go_wp2_with (at_builtin; refine wpList_append_num _ rfl _ _ 144 rfl .i64 w.heap.size 3 (.int .i64 0) 8 i8 Tryz.underlying144 hi8 hz8 hs8 hb8 rfl _ l rfl ROWA.out (some ⟨wr.heap.size, 0, none⟩) 1 1 [d] rfl rfl HONE.out ?c3 ?c4 ?c5 ?_)
      case c3 => unfold maxLen; simp; omega
      case c4 => simp; omega
      case c5 => simp; omega
      intro v' w' hown hg
      have hbw := below_row hb3 ROWA.out hg
      have HOWN := Lib.hid hown
      have HBW := Lib.hid hbw
      clear hown hg hbw hb3
      go_wp2_with fail
      go_roundg (gk / 1000000000)
      case measure => exact Nat.div_lt_self (by omega) (by decide)
      case rel => exact ⟨l ++ [d], Nat.le_trans (Nat.div_le_self _ _) hyx, by simp, HOWN.out, by rw [← HL.out, HD.out]; simp, HBW.out⟩
end Go.Proofs.YtabmalnandbocaaGreatDoor.Num
namespace Go.Proofs.YtabmalnandbocaaGreatDoor.Num
set_option exponentiation.threshold 3000
set_option linter.unusedVariables false
set_option linter.unusedSimpArgs false
open Go.RowKit Go.Proofs.YtabmalnandbocaaGreatDoor.Mem Go.Proofs.YtabmalnandbocaaGreatDoor.Own Go.Proofs.YtabmalnandbocaaGreatDoor.Big

structure TimesI (x k i c : Nat) (l : List Nat) : Prop where
  dig : Dig M l
  len : l.length = i
  eq : val M l + M ^ i * c = val M ((digs M x).take i) * k
  c1 : c < k
theorem TimesI.start {x k : Nat} (hk : 1 ≤ k) : TimesI x k 0 0 [] := ⟨Dig.nil, rfl, by simp [val], hk⟩
theorem TimesI.step {x k i c : Nat} {l : List Nat} (h : TimesI x k i c l) : TimesI x k (i + 1) (((digs M x).getD i 0 * k + c) / M) (l ++ [((digs M x).getD i 0 * k + c) % M]) := by
  have hd := (digs_dig hM x).getD M_pos i
  have hX : (digs M x).getD i 0 * k + c < k * M := by
    have h1 : (digs M x).getD i 0 * k ≤ (M - 1) * k := Nat.mul_le_mul_right k (by omega)
    have h2 := h.c1
    have h3 : (M - 1) * k + k = k * M := by rw [← Nat.succ_mul, Nat.mul_comm]; congr 1
    omega
  refine ⟨h.dig.append (Dig.one (Nat.mod_lt _ M_pos)), by simp [h.len], ?_, ?_⟩
  · rw [val_append, h.len, val_take_succ, Nat.add_mul, ← h.eq, Nat.pow_succ]
    generalize (digs M x).getD i 0 = d at *
    have hm := Nat.mod_add_div (d * k + c) M
    simp only [val, Nat.mul_zero, Nat.add_zero]
    generalize (d * k + c) % M = r at *
    generalize (d * k + c) / M = q at *
    have : M ^ i * (d * k + c) = M ^ i * (r + M * q) := by rw [hm]
    grind
  · rw [Nat.div_lt_iff_lt_mul M_pos]; exact hX
theorem TimesI.end_ {x k c : Nat} {l : List Nat} (h : TimesI x k (digs M x).length c l) (hk : 1 ≤ k) : l ++ digs M c = digs M (x * k) := by
  have hv : val M (l ++ digs M c) = x * k := by
    rw [val_append, digs_val hM, h.len, h.eq, List.take_length, digs_val hM]
  have hdig : Dig M (l ++ digs M c) := h.dig.append (digs_dig hM c)
  rw [← hv]
  refine (digs_of hM hdig ?_).symm
  by_cases hc : c = 0
  · subst hc
    rw [digs_zero, List.append_nil] at *
    by_cases hl : l = []
    · exact .inl hl
    · right
      intro hz
      have hlen : 0 < l.length := List.length_pos_iff.2 hl
      have hx : x ≠ 0 := by rintro rfl; rw [h.len, digs_zero] at hlen; simp at hlen
      have h1 := digs_ge hM hx
      have h2 := val_small h.dig M_pos (k := l.length - 1) (fun i hi => by
        by_cases e : i = l.length - 1
        · rw [e]; exact hz
        · rw [List.getD_eq_getElem?_getD, List.getElem?_eq_none (by omega)]; rfl)
      rw [h.len] at h2
      rw [hv] at h2
      have h3 : x ≤ x * k := Nat.le_mul_of_pos_right _ (by omega)
      omega
  · right
    have ht := digs_top hM hc
    have hp := digs_pos_len hM hc
    rw [List.length_append, List.getD_eq_getElem?_getD, List.getElem?_append_right (by omega), show l.length + (digs M c).length - 1 - l.length = (digs M c).length - 1 by omega, ← List.getD_eq_getElem?_getD]
    exact ht
theorem app_len {l m p : List Nat} (h : l ++ m = p) : l.length ≤ p.length := by rw [← h]; simp
theorem times_len {x k : Nat} (hk : k ≤ 1000000000) : (digs M (x * k)).length ≤ (digs M x).length + 1 := by
  refine digs_len_le hM ?_
  have h1 := digs_lt hM x
  rw [Nat.pow_succ]
  have h2 : x * k ≤ x * M := Nat.mul_le_mul_left x hk
  have h3 : x * M < M ^ (digs M x).length * M := Nat.mul_lt_mul_of_pos_right h1 M_pos
  omega
theorem mone_int (w : World) (z : Int) (x : Nat) (h : z = (x : Nat)) : LAt (w.alloc (.cells #[.int .i64 z] 3)) .i64 (some ⟨w.heap.size, 0, none⟩) [x] := by
  subst h; exact mone_at w x
set_option maxHeartbeats 4000000 in
set_option maxRecDepth 100000 in
theorem times_w (A : Option Addr) (n c x k : Nat) (w : World) (ha : MAt w A n x) (hn : n < 17000000000000) (hk1 : 1 ≤ k) (hk : k ≤ 1000000000) :
    Calls Tryz.prog 131 #[.slice A n c, .int .i64 (k : Nat)] w (MPost w (x * k)) := by
  obtain ⟨i8, hi8, hz8, hs8, hb8⟩ := info_of int_info
  have HA := Lib.hid ha
  clear ha
  go_enter Tryz.func131, Tryz.ntmps131
  go_wp2_with fail
  go_loopw [5, 6, 7] (fun a b i wr => ∃ (j cr : Nat) (l : List Nat), j ≤ n ∧ i = .int .i64 (j : Nat) ∧ b = .int .i64 (cr : Nat) ∧ NRow .i64 3 wr w.heap.size a l ∧ TimesI x k j cr l ∧ Below w.heap.size w wr) (fun _ _ i _ => n - (intOf i).toNat)
  case atStart => exact ⟨0, 0, [], Nat.zero_le _, rfl, rfl, NRow.nil _ _ _ _, TimesI.start hk1, Below.refl _ _⟩
  case round =>
    obtain ⟨j, cr, l, hj, rfl, rfl, hrow, hT, hbel⟩ := hrel
    have hll := hT.len
    by_cases hjn : j < n
    · have t1 : decide ((j : Int) < (n : Int)) = true := by simp; omega
      obtain ⟨b, off, rfl, hblt, hac⟩ := HA.out.2.cells (by rw [← HA.out.1]; omega)
      have ca := (hbel.cell (p := ⟨b, off + j, none⟩) hblt).trans (hac j (by rw [← HA.out.1]; exact hjn))
      have hd := (digs_dig hM x).getD M_pos j
      have hst := hT.step
      have hcr := hT.c1
      generalize (digs M x).getD j 0 = d at *
      rw [M_eq] at hd
      have hdk : d * k ≤ 999999999 * 1000000000 := Nat.mul_le_mul (by omega) hk
      have hX : d * k + cr < 1000000000000000000 := by omega
      have e1 : (d : Int) * (k : Int) = ((d * k : Nat) : Int) := by simp
      obtain ⟨X, hXe⟩ : ∃ X, X = d * k + cr := ⟨_, rfl⟩
      have e2 : ((d * k : Nat) : Int) + (cr : Int) = (X : Int) := by omega
      rw [← hXe] at hX hst
      change TimesI x k (j + 1) (X / 1000000000) (l ++ [X % 1000000000]) at hst
      obtain ⟨r, hr⟩ : ∃ r, r = X % 1000000000 := ⟨_, rfl⟩
      rw [← hr] at hst
      have er : (X : Int) % 1000000000 = (r : Int) := by omega
      have a0 : 0 ≤ (d : Int) * (k : Int) := by rw [e1]; omega
      have a1 : (d : Int) * (k : Int) ≤ 999999999000000000 := by rw [e1]; omega
      have HZ := Lib.hid (show ((d : Int) * (k : Int) + (cr : Int)) % 1000000000 = (r : Int) by rw [e1, e2, er])
      have HQ := Lib.hid (show ((d : Int) * (k : Int) + (cr : Int)) / 1000000000 = ((X / 1000000000 : Nat) : Int) by rw [e1, e2]; omega)
      have HST := Lib.hid hst
      have HB := Lib.hid hbel
      have HROW := Lib.hid hrow
      have hbz := hbel.size
      have g0 : (0 : Int) ≤ (j : Int) := by omega
      have g1 : (j : Int) < (n : Int) := by omega
      clear hac hst hT hrow hbel hr hXe hd hdk e1 e2 er
      go_wp2_with (at_builtin; refine wpList_append_num _ rfl _ _ 144 rfl .i64 w.heap.size 3 (.int .i64 0) 8 i8 Tryz.underlying144 hi8 hz8 hs8 hb8 rfl _ l rfl (HROW.out.below ((Below.refl _ wr).alloc (Nat.le_refl _) _)) (some ⟨wr.heap.size, 0, none⟩) 1 1 [r] rfl rfl (mone_int wr _ r ?c2) ?c3 ?c4 ?c5 ?_)
      case c2 => exact HZ.out
      case c3 => unfold maxLen; simp; omega
      case c4 => simp; omega
      case c5 => simp; omega
      intro v' w' hown hg
      have hbw := below_row (HB.out.alloc hbz _) (HROW.out.below ((Below.refl _ wr).alloc (Nat.le_refl _) _)) hg
      have HOWN := Lib.hid hown
      have HBW := Lib.hid hbw
      clear hown hg hbw
      go_wp2_with fail
      go_roundw
      case rel => exact ⟨j + 1, X / 1000000000, l ++ [r], by omega, by go_num, vint HQ.out, HOWN.out, HST.out, HBW.out⟩
      case measure => simp [intOf]; omega
    · obtain rfl : j = n := by omega
      have t1 : decide ((j : Int) < (j : Int)) = false := by simp
      have hE := hT
      rw [HA.out.1] at hE
      have hend := hE.end_ hk1
      have hcr := hT.c1
      have HEND := Lib.hid hend
      have HLEN := Lib.hid (show (digs M (x * k)).length ≤ j + 1 by have := times_len (x := x) hk; rw [← HA.out.1] at this; exact this)
      have HROW := Lib.hid hrow
      have HB := Lib.hid hbel
      clear hend hE hT hrow hbel
      go_wp2_with fail
      go_loopg [5, 6] cr (fun y a b wl => ∃ (m : List Nat), y ≤ cr ∧ b = .int .i64 (y : Nat) ∧ NRow .i64 3 wl w.heap.size a m ∧ Hid (m ++ digs M y = digs M (x * k)) ∧ Below w.heap.size w wl)
      case atStart => exact ⟨l, Nat.le_refl _, rfl, HROW.out, HEND, HB.out⟩
      case round =>
        obtain ⟨m, hyc, rfl, hrow, HM, hbel⟩ := hrel
        have HB := Lib.hid hbel
        have HROW := Lib.hid hrow
        have hbz := hbel.size
        by_cases hg0 : gk = 0
        · subst hg0
          have t2 : decide ((0 : Int) < ((0 : Nat) : Int)) = false := by decide
          clear hrow hbel
          go_wp2_with fail
          go_ret
          exact MPost.of_row HROW.out (by have := HM.out; rwa [digs_zero, List.append_nil] at this) HB.out
        · have HD := Lib.hid (show digs M gk = (gk % 1000000000) :: digs M (gk / 1000000000) from digs_pos hM hg0)
          have t2 : decide ((0 : Int) < (gk : Int)) = true := by simp; omega
          have hmm : m.length < 17100000000000 := by have := app_len HM.out; have := HLEN.out; omega
          clear hrow hbel
          go_wp2_with (at_builtin; refine wpList_append_num _ rfl _ _ 144 rfl .i64 w.heap.size 3 (.int .i64 0) 8 i8 Tryz.underlying144 hi8 hz8 hs8 hb8 rfl _ m rfl (HROW.out.below ((Below.refl _ wr).alloc (Nat.le_refl _) _)) (some ⟨wr.heap.size, 0, none⟩) 1 1 [gk % 1000000000] rfl rfl (mone_int wr _ _ ?c2) ?c3 ?c4 ?c5 ?_)
          case c2 => rfl
          case c3 => unfold maxLen; simp; omega
          case c4 => simp; omega
          case c5 => simp; omega
          intro v' w' hown hg
          have hbw := below_row (HB.out.alloc hbz _) (HROW.out.below ((Below.refl _ wr).alloc (Nat.le_refl _) _)) hg
          have HOWN := Lib.hid hown
          have HBW := Lib.hid hbw
          clear hown hg hbw
          go_wp2_with fail
          go_roundg (gk / 1000000000)
          case measure => exact Nat.div_lt_self (by omega) (by decide)
          case rel => exact ⟨m ++ [gk % 1000000000], Nat.le_trans (Nat.div_le_self _ _) hyc, by simp, HOWN.out, Lib.hid (by rw [← HM.out, HD.out]; simp), HBW.out⟩
end Go.Proofs.YtabmalnandbocaaGreatDoor.Num
namespace Go.Proofs.YtabmalnandbocaaGreatDoor.Num
set_option exponentiation.threshold 3000
set_option linter.unusedVariables false
set_option linter.unusedSimpArgs false
open Go.RowKit Go.Proofs.YtabmalnandbocaaGreatDoor.Mem Go.Proofs.YtabmalnandbocaaGreatDoor.Own Go.Proofs.YtabmalnandbocaaGreatDoor.Big

theorem NRow.made (w : World) (base n : Nat) (hb : base ≤ w.heap.size) (hm : n ≤ maxLen) : NRow .i64 3 (w.alloc (.cells (arr .i64 (List.replicate n 0)) 3)) base (.slice (some ⟨w.heap.size, 0, none⟩) n n) (List.replicate n 0) := by
  unfold NRow
  rw [List.length_replicate]
  refine ⟨by simp [vals], .inr ⟨w.heap.size, n, _, rfl, hb, heap_alloc_new w _, Nat.le_refl _, hm, by simp [arr], ?_⟩⟩
  simp [arr, vals]
theorem shift_digs {x : Nat} (h : x ≠ 0) (q : Nat) : List.replicate q 0 ++ digs M x = digs M (x * M ^ q) := by
  have hv : val M (List.replicate q 0 ++ digs M x) = x * M ^ q := by
    rw [val_append, val_zeros, digs_val hM, List.length_replicate, Nat.zero_add, Nat.mul_comm]
  rw [← hv]
  refine (digs_of hM ((dig_zeros M_pos q).append (digs_dig hM x)) (.inr ?_)).symm
  have ht := digs_top hM h
  have hp := digs_pos_len hM h
  rw [List.length_append, List.getD_eq_getElem?_getD, List.getElem?_append_right (by rw [List.length_replicate]; omega), show (List.replicate q 0).length + (digs M x).length - 1 - (List.replicate q 0).length = (digs M x).length - 1 by omega, ← List.getD_eq_getElem?_getD]
  exact ht
theorem M_ten (q : Nat) : M ^ q = 10 ^ (9 * q) := by rw [M_eq, show (1000000000 : Nat) = 10 ^ 9 by decide, ← Nat.pow_mul]
theorem powers_len {x y b k k2 n : Nat} (hx : n = (digs M x).length) (hb1 : 2 ≤ b) (hb : b ≤ 10) (h : y * b ^ k2 = x * b ^ k) : (digs M y).length ≤ n + k := by
  refine digs_len_le hM ?_
  have h1 := digs_lt hM x
  rw [← hx] at h1
  have h2 : y ≤ y * b ^ k2 := Nat.le_mul_of_pos_right _ (Nat.pow_pos (by omega))
  have h3 : b ^ k ≤ M ^ k := Nat.pow_le_pow_left (by rw [M_eq]; omega) k
  rw [Nat.pow_add]
  calc y ≤ x * b ^ k := by rw [← h]; exact h2
    _ < M ^ n * b ^ k := Nat.mul_lt_mul_of_pos_right h1 (Nat.pow_pos (by omega))
    _ ≤ M ^ n * M ^ k := Nat.mul_le_mul_left _ h3
theorem pow_step {y b s k2 T : Nat} (h : y * b ^ k2 = T) (hs : s ≤ k2) : y * b ^ s * b ^ (k2 - s) = T := by
  rw [Nat.mul_assoc, ← Nat.pow_add, show s + (k2 - s) = k2 by omega, h]
set_option maxHeartbeats 8000000 in
set_option maxRecDepth 100000 in
theorem powers_w (A : Option Addr) (n c x b k : Nat) (w : World) (ha : MAt w A n x) (hn : n < 15000000000000) (hb1 : 2 ≤ b) (hb : b ≤ 10) (hk : k < 4000000000) :
    Calls Tryz.prog 104 #[.slice A n c, .int .i64 (b : Nat), .int .i64 (k : Nat)] w (MPost w (x * b ^ k)) := by
  have hbi : (b : Int) ≠ 0 := by omega
  have HLEN : Hid (∀ y k2, y * b ^ k2 = x * b ^ k → (digs M y).length ≤ n + k) := Lib.hid (fun y k2 h => powers_len (y := y) (k2 := k2) ha.1 hb1 hb h)
  have HA := Lib.hid ha
  by_cases hbig : b = 10 ∧ 9 ≤ k ∧ 0 < n
  · obtain ⟨rfl, hk9, hn0⟩ := hbig
    obtain ⟨i8, hi8, hz8, hs8, hb8⟩ := info_of int_info
    have hx0 : x ≠ 0 := fun e => by have := ha.len_zero.2 e; omega
    obtain ⟨q, hq⟩ : ∃ q, q = k / 9 := ⟨_, rfl⟩
    have eq1 : (k : Int) / 9 = (q : Int) := by omega
    have hqb : q < 4000000000 := by omega
    have HQK := Lib.hid (show 9 * q + k % 9 = k by omega)
    clear hq
    have hmk := fun W => make_int W ((k : Int) / 9) q eq1 (by omega)
    clear eq1
    have ROW := Lib.hid (NRow.made w w.heap.size q (Nat.le_refl _) (by unfold maxLen; omega))
    have HA1 := Lib.hid (HA.out.below ((Below.refl _ w).alloc (Nat.le_refl _) (.cells (arr .i64 (List.replicate q 0)) 3)))
    have HSH := Lib.hid (shift_digs hx0 q)
    have t2 : decide ((9 : Int) ≤ (k : Int)) = true := by simp; omega
    have t3 : decide ((0 : Int) < (n : Int)) = true := by simp; omega
    clear ha
    change Calls _ _ #[.slice A n c, .int .i64 10, .int .i64 (k : Nat)] w _
    go_enter Tryz.func104, Tryz.ntmps104
    go_wp2_with (at_builtin; refine wpList_append_num _ rfl _ _ 144 rfl .i64 w.heap.size 3 (.int .i64 0) 8 i8 Tryz.underlying144 hi8 hz8 hs8 hb8 rfl _ _ rfl ROW.out A c n (digs M x) rfl ?c2 ?c3 ?c4 ?c5 ?c6 ?_)
    case c2 => exact HA1.out.1
    case c3 => exact HA1.out.2
    case c4 => rw [List.length_replicate, ← HA1.out.1]; unfold maxLen; omega
    case c5 => rw [List.length_replicate, ← HA1.out.1]; omega
    case c6 => simp
    intro v' w1 hown hg
    have hbw := below_row ((Below.refl _ w).alloc (Nat.le_refl _) _) ROW.out hg
    rw [HSH.out] at hown
    obtain ⟨A1, c1, rfl, hA1, -⟩ := hown.form
    have hN1 : MAt w1 A1 _ (x * M ^ q) := ⟨rfl, hA1⟩
    generalize (digs M (x * M ^ q)).length = n1 at *
    have HN1 := Lib.hid hN1
    have HB1 := Lib.hid hbw
    have HEQ := Lib.hid (show x * M ^ q * 10 ^ (k % 9) = x * 10 ^ k by rw [M_ten, Nat.mul_assoc, ← Nat.pow_add, HQK.out])
    obtain ⟨k1, hk1⟩ : ∃ k1, k1 = k % 9 := ⟨_, rfl⟩
    rw [← hk1] at HEQ
    have ek1 : (k : Int) % 9 = (k1 : Int) := by omega
    have hk1b : k1 < 4000000000 := by omega
    clear hown hg hbw hA1 hN1 t2 t3 hk1
    go_wp2_with fail
    simp only [ek1]
    clear ek1
    go_loopw [7, 8] (fun st s wr => ∃ s' : Nat, s' ≤ k1 ∧ s = .int .i64 (s' : Nat) ∧ st = .int .i64 ((10 ^ s' : Nat) : Nat) ∧ 10 ^ s' ≤ 1000000000 ∧ Hid (wr = w1)) (fun _ s _ => k1 - (intOf s).toNat)
    case atStart => exact ⟨0, Nat.zero_le _, rfl, rfl, by rw [Nat.pow_zero]; decide, Lib.hid rfl⟩
    case round =>
      obtain ⟨s, hs, rfl, rfl, hst, HW⟩ := hrel
      have hst1 : 1 ≤ 10 ^ s := Nat.pow_pos (by omega)
      obtain ⟨st, hste⟩ : ∃ st, st = 10 ^ s := ⟨_, rfl⟩
      rw [← hste] at hst hst1 ⊢
      by_cases hgo : s < k1 ∧ st ≤ 1000000000 / 10
      · obtain ⟨h1, h2⟩ := hgo
        have h3 : st * 10 ≤ 1000000000 := by
          have := (Nat.le_div_iff_mul_le (k := 10) (x := st) (y := 1000000000) (by omega)).1 h2
          omega
        have t4 : decide ((s : Int) < (k1 : Int)) = true := by simp; omega
        have e4 : (1000000000 : Int) / (10 : Int) = ((1000000000 / 10 : Nat) : Int) := by simp
        have t5 : decide ((st : Int) ≤ 100000000) = true := decide_eq_true (by omega)
        have e5 : (st : Int) * (10 : Int) = ((st * 10 : Nat) : Int) := by simp
        have a0 : 0 ≤ (st : Int) * (10 : Int) := by rw [e5]; omega
        have a1 : (st : Int) * (10 : Int) ≤ 1000000000 := by rw [e5]; omega
        have HV := Lib.hid (show (st : Int) * (10 : Int) = ((10 ^ (s + 1) : Nat) : Int) by rw [Nat.pow_succ, ← hste]; simp)
        have HV2 := Lib.hid (show 10 ^ (s + 1) ≤ 1000000000 by rw [Nat.pow_succ, ← hste]; exact h3)
        clear e4 e5 h2 h3 hste
        go_wp2_with fail
        go_roundw
        case rel => exact ⟨s + 1, by omega, by go_num, vint HV.out, HV2.out, HW⟩
        case measure => simp [intOf]; omega
      · have HSE := Lib.hid hste
        by_cases hsk : s < k1
        · have t4 : decide ((s : Int) < (k1 : Int)) = true := by simp; omega
          have e4 : (1000000000 : Int) / (10 : Int) = ((1000000000 / 10 : Nat) : Int) := by simp
          have t5 : decide ((st : Int) ≤ 100000000) = false := decide_eq_false (by omega)
          clear e4 hgo hste
          go_wp2_with fail
          clear t5 t4
          go_loopw [0, 2] (fun a kk wr => ∃ (A2 : Option Addr) (n2 c2 y k2 : Nat), k2 ≤ k1 ∧ a = .slice A2 n2 c2 ∧ kk = .int .i64 (k2 : Nat) ∧ MAt wr A2 n2 y ∧ Hid (y * 10 ^ k2 = x * 10 ^ k) ∧ Below w.heap.size w wr) (fun _ kk _ => (intOf kk).toNat)
          case atStart => exact ⟨_, _, _, _, k1, Nat.le_refl _, rfl, rfl, by rw [HW.out]; exact HN1.out, by first | exact HEQ | exact Lib.hid rfl, by rw [HW.out]; exact HB1.out⟩
          case round =>
            obtain ⟨A2, n2, c2, y, k2, hk2, rfl, rfl, hM2, HE2, hbel2⟩ := hrel
            have hl2 := HLEN.out y k2 HE2.out
            rw [← hM2.1] at hl2
            have HM2 := Lib.hid hM2
            have HB2 := Lib.hid hbel2
            clear hM2 hbel2
            by_cases hgo : s ≤ k2 ∧ 0 < s
            · obtain ⟨g1, g2⟩ := hgo
              have t6 : decide ((s : Int) ≤ (k2 : Int)) = true := by simp; omega
              have t7 : decide ((0 : Int) < (s : Int)) = true := by simp; omega
              have HT := Lib.hid (times_w A2 n2 c2 y st wr HM2.out (by omega) hst1 hst)
              go_wp2_with fail
              refine HT.out.mono ?_
              rintro e w3 ⟨A3, n3, c3, rfl, h3, b3⟩
              have H3 := Lib.hid h3
              have B3 := Lib.hid b3
              clear h3 b3
              go_wp2_with fail
              go_roundw
              case rel => exact ⟨A3, n3, c3, y * st, k2 - s, by omega, rfl, by go_num, H3.out, Lib.hid (by rw [HSE.out]; exact pow_step HE2.out g1), bthen HB2.out B3.out⟩
              case measure => simp [intOf]; omega
            · by_cases g1 : s ≤ k2
              · have hs0 : s ≤ 0 := by omega
                have t6 : decide ((s : Int) ≤ (k2 : Int)) = true := by simp; omega
                have t7 : decide ((0 : Int) < (s : Int)) = false := by simp; omega
                have t7n : decide (0 < s) = false := by simp; omega
                clear hgo
                go_wp2_with fail
                try simp only [t7n]
                clear t6 t7 t7n hs0
                go_loopw [0, 9] (fun a i wr => ∃ (A4 : Option Addr) (n4 c4 y4 j : Nat), j ≤ k2 ∧ a = .slice A4 n4 c4 ∧ i = .int .i64 (j : Nat) ∧ MAt wr A4 n4 y4 ∧ Hid (y4 * 10 ^ (k2 - j) = x * 10 ^ k) ∧ Below w.heap.size w wr) (fun _ i _ => k2 - (intOf i).toNat)
                case atStart => exact ⟨A2, n2, c2, y, 0, Nat.zero_le _, rfl, rfl, HM2.out, HE2, HB2.out⟩
                case round =>
                  obtain ⟨A4, n4, c4, y4, j, hj, rfl, rfl, hM4, HE4, hbel4⟩ := hrel
                  have hl4 := HLEN.out y4 (k2 - j) HE4.out
                  rw [← hM4.1] at hl4
                  have HM4 := Lib.hid hM4
                  have HB4 := Lib.hid hbel4
                  clear hM4 hbel4
                  by_cases hjk : j < k2
                  · have t8 : decide ((j : Int) < (k2 : Int)) = true := by simp; omega
                    have HT := Lib.hid (times_w A4 n4 c4 y4 10 wr HM4.out (by omega) (by omega) (by omega))
                    go_wp2_with fail
                    refine HT.out.mono ?_
                    rintro e w5 ⟨A5, n5, c5, rfl, h5, b5⟩
                    have H5 := Lib.hid h5
                    have B5 := Lib.hid b5
                    clear h5 b5
                    go_wp2_with fail
                    go_roundw
                    case rel => exact ⟨A5, n5, c5, y4 * 10, j + 1, by omega, rfl, by go_num, H5.out, Lib.hid (by have := pow_step (s := 1) HE4.out (by omega); rwa [Nat.pow_one, show k2 - j - 1 = k2 - (j + 1) by omega] at this), bthen HB4.out B5.out⟩
                    case measure => simp [intOf]; omega
                  · have t8 : decide ((j : Int) < (k2 : Int)) = false := by simp; omega
                    have HFIN := Lib.hid (show y4 = x * 10 ^ k by have := HE4.out; rwa [show k2 - j = 0 by omega, Nat.pow_zero, Nat.mul_one] at this)
                    go_wp2_with fail
                    go_ret
                    exact ⟨A4, n4, c4, rfl, by rw [← HFIN.out]; exact HM4.out, HB4.out⟩
              · have t6 : decide ((s : Int) ≤ (k2 : Int)) = false := by simp; omega
                have t6n : decide (s ≤ k2) = false := by simp; omega
                have g1' : k2 < s := by omega
                clear g1 hgo
                go_wp2_with fail
                try simp only [t6n]
                clear t6 t6n g1'
                go_loopw [0, 9] (fun a i wr => ∃ (A4 : Option Addr) (n4 c4 y4 j : Nat), j ≤ k2 ∧ a = .slice A4 n4 c4 ∧ i = .int .i64 (j : Nat) ∧ MAt wr A4 n4 y4 ∧ Hid (y4 * 10 ^ (k2 - j) = x * 10 ^ k) ∧ Below w.heap.size w wr) (fun _ i _ => k2 - (intOf i).toNat)
                case atStart => exact ⟨A2, n2, c2, y, 0, Nat.zero_le _, rfl, rfl, HM2.out, HE2, HB2.out⟩
                case round =>
                  obtain ⟨A4, n4, c4, y4, j, hj, rfl, rfl, hM4, HE4, hbel4⟩ := hrel
                  have hl4 := HLEN.out y4 (k2 - j) HE4.out
                  rw [← hM4.1] at hl4
                  have HM4 := Lib.hid hM4
                  have HB4 := Lib.hid hbel4
                  clear hM4 hbel4
                  by_cases hjk : j < k2
                  · have t8 : decide ((j : Int) < (k2 : Int)) = true := by simp; omega
                    have HT := Lib.hid (times_w A4 n4 c4 y4 10 wr HM4.out (by omega) (by omega) (by omega))
                    go_wp2_with fail
                    refine HT.out.mono ?_
                    rintro e w5 ⟨A5, n5, c5, rfl, h5, b5⟩
                    have H5 := Lib.hid h5
                    have B5 := Lib.hid b5
                    clear h5 b5
                    go_wp2_with fail
                    go_roundw
                    case rel => exact ⟨A5, n5, c5, y4 * 10, j + 1, by omega, rfl, by go_num, H5.out, Lib.hid (by have := pow_step (s := 1) HE4.out (by omega); rwa [Nat.pow_one, show k2 - j - 1 = k2 - (j + 1) by omega] at this), bthen HB4.out B5.out⟩
                    case measure => simp [intOf]; omega
                  · have t8 : decide ((j : Int) < (k2 : Int)) = false := by simp; omega
                    have HFIN := Lib.hid (show y4 = x * 10 ^ k by have := HE4.out; rwa [show k2 - j = 0 by omega, Nat.pow_zero, Nat.mul_one] at this)
                    go_wp2_with fail
                    go_ret
                    exact ⟨A4, n4, c4, rfl, by rw [← HFIN.out]; exact HM4.out, HB4.out⟩
        · have t4 : decide ((s : Int) < (k1 : Int)) = false := by simp; omega
          clear hgo hste
          go_wp2_with fail
          clear t4
          go_loopw [0, 2] (fun a kk wr => ∃ (A2 : Option Addr) (n2 c2 y k2 : Nat), k2 ≤ k1 ∧ a = .slice A2 n2 c2 ∧ kk = .int .i64 (k2 : Nat) ∧ MAt wr A2 n2 y ∧ Hid (y * 10 ^ k2 = x * 10 ^ k) ∧ Below w.heap.size w wr) (fun _ kk _ => (intOf kk).toNat)
          case atStart => exact ⟨_, _, _, _, k1, Nat.le_refl _, rfl, rfl, by rw [HW.out]; exact HN1.out, by first | exact HEQ | exact Lib.hid rfl, by rw [HW.out]; exact HB1.out⟩
          case round =>
            obtain ⟨A2, n2, c2, y, k2, hk2, rfl, rfl, hM2, HE2, hbel2⟩ := hrel
            have hl2 := HLEN.out y k2 HE2.out
            rw [← hM2.1] at hl2
            have HM2 := Lib.hid hM2
            have HB2 := Lib.hid hbel2
            clear hM2 hbel2
            by_cases hgo : s ≤ k2 ∧ 0 < s
            · obtain ⟨g1, g2⟩ := hgo
              have t6 : decide ((s : Int) ≤ (k2 : Int)) = true := by simp; omega
              have t7 : decide ((0 : Int) < (s : Int)) = true := by simp; omega
              have HT := Lib.hid (times_w A2 n2 c2 y st wr HM2.out (by omega) hst1 hst)
              go_wp2_with fail
              refine HT.out.mono ?_
              rintro e w3 ⟨A3, n3, c3, rfl, h3, b3⟩
              have H3 := Lib.hid h3
              have B3 := Lib.hid b3
              clear h3 b3
              go_wp2_with fail
              go_roundw
              case rel => exact ⟨A3, n3, c3, y * st, k2 - s, by omega, rfl, by go_num, H3.out, Lib.hid (by rw [HSE.out]; exact pow_step HE2.out g1), bthen HB2.out B3.out⟩
              case measure => simp [intOf]; omega
            · by_cases g1 : s ≤ k2
              · have hs0 : s ≤ 0 := by omega
                have t6 : decide ((s : Int) ≤ (k2 : Int)) = true := by simp; omega
                have t7 : decide ((0 : Int) < (s : Int)) = false := by simp; omega
                have t7n : decide (0 < s) = false := by simp; omega
                clear hgo
                go_wp2_with fail
                try simp only [t7n]
                clear t6 t7 t7n hs0
                go_loopw [0, 9] (fun a i wr => ∃ (A4 : Option Addr) (n4 c4 y4 j : Nat), j ≤ k2 ∧ a = .slice A4 n4 c4 ∧ i = .int .i64 (j : Nat) ∧ MAt wr A4 n4 y4 ∧ Hid (y4 * 10 ^ (k2 - j) = x * 10 ^ k) ∧ Below w.heap.size w wr) (fun _ i _ => k2 - (intOf i).toNat)
                case atStart => exact ⟨A2, n2, c2, y, 0, Nat.zero_le _, rfl, rfl, HM2.out, HE2, HB2.out⟩
                case round =>
                  obtain ⟨A4, n4, c4, y4, j, hj, rfl, rfl, hM4, HE4, hbel4⟩ := hrel
                  have hl4 := HLEN.out y4 (k2 - j) HE4.out
                  rw [← hM4.1] at hl4
                  have HM4 := Lib.hid hM4
                  have HB4 := Lib.hid hbel4
                  clear hM4 hbel4
                  by_cases hjk : j < k2
                  · have t8 : decide ((j : Int) < (k2 : Int)) = true := by simp; omega
                    have HT := Lib.hid (times_w A4 n4 c4 y4 10 wr HM4.out (by omega) (by omega) (by omega))
                    go_wp2_with fail
                    refine HT.out.mono ?_
                    rintro e w5 ⟨A5, n5, c5, rfl, h5, b5⟩
                    have H5 := Lib.hid h5
                    have B5 := Lib.hid b5
                    clear h5 b5
                    go_wp2_with fail
                    go_roundw
                    case rel => exact ⟨A5, n5, c5, y4 * 10, j + 1, by omega, rfl, by go_num, H5.out, Lib.hid (by have := pow_step (s := 1) HE4.out (by omega); rwa [Nat.pow_one, show k2 - j - 1 = k2 - (j + 1) by omega] at this), bthen HB4.out B5.out⟩
                    case measure => simp [intOf]; omega
                  · have t8 : decide ((j : Int) < (k2 : Int)) = false := by simp; omega
                    have HFIN := Lib.hid (show y4 = x * 10 ^ k by have := HE4.out; rwa [show k2 - j = 0 by omega, Nat.pow_zero, Nat.mul_one] at this)
                    go_wp2_with fail
                    go_ret
                    exact ⟨A4, n4, c4, rfl, by rw [← HFIN.out]; exact HM4.out, HB4.out⟩
              · have t6 : decide ((s : Int) ≤ (k2 : Int)) = false := by simp; omega
                have t6n : decide (s ≤ k2) = false := by simp; omega
                have g1' : k2 < s := by omega
                clear g1 hgo
                go_wp2_with fail
                try simp only [t6n]
                clear t6 t6n g1'
                go_loopw [0, 9] (fun a i wr => ∃ (A4 : Option Addr) (n4 c4 y4 j : Nat), j ≤ k2 ∧ a = .slice A4 n4 c4 ∧ i = .int .i64 (j : Nat) ∧ MAt wr A4 n4 y4 ∧ Hid (y4 * 10 ^ (k2 - j) = x * 10 ^ k) ∧ Below w.heap.size w wr) (fun _ i _ => k2 - (intOf i).toNat)
                case atStart => exact ⟨A2, n2, c2, y, 0, Nat.zero_le _, rfl, rfl, HM2.out, HE2, HB2.out⟩
                case round =>
                  obtain ⟨A4, n4, c4, y4, j, hj, rfl, rfl, hM4, HE4, hbel4⟩ := hrel
                  have hl4 := HLEN.out y4 (k2 - j) HE4.out
                  rw [← hM4.1] at hl4
                  have HM4 := Lib.hid hM4
                  have HB4 := Lib.hid hbel4
                  clear hM4 hbel4
                  by_cases hjk : j < k2
                  · have t8 : decide ((j : Int) < (k2 : Int)) = true := by simp; omega
                    have HT := Lib.hid (times_w A4 n4 c4 y4 10 wr HM4.out (by omega) (by omega) (by omega))
                    go_wp2_with fail
                    refine HT.out.mono ?_
                    rintro e w5 ⟨A5, n5, c5, rfl, h5, b5⟩
                    have H5 := Lib.hid h5
                    have B5 := Lib.hid b5
                    clear h5 b5
                    go_wp2_with fail
                    go_roundw
                    case rel => exact ⟨A5, n5, c5, y4 * 10, j + 1, by omega, rfl, by go_num, H5.out, Lib.hid (by have := pow_step (s := 1) HE4.out (by omega); rwa [Nat.pow_one, show k2 - j - 1 = k2 - (j + 1) by omega] at this), bthen HB4.out B5.out⟩
                    case measure => simp [intOf]; omega
                  · have t8 : decide ((j : Int) < (k2 : Int)) = false := by simp; omega
                    have HFIN := Lib.hid (show y4 = x * 10 ^ k by have := HE4.out; rwa [show k2 - j = 0 by omega, Nat.pow_zero, Nat.mul_one] at this)
                    go_wp2_with fail
                    go_ret
                    exact ⟨A4, n4, c4, rfl, by rw [← HFIN.out]; exact HM4.out, HB4.out⟩
  · have HN1 := HA
    have HB1 := Lib.hid (Below.refl w.heap.size w)
    have HEQ := Lib.hid (rfl : x * b ^ k = x * b ^ k)
    by_cases hb10 : b = 10
    · subst hb10
      have hsp : k < 9 ∨ n = 0 := by omega
      clear ha hbig
      change Calls _ _ #[.slice A n c, .int .i64 10, .int .i64 (k : Nat)] w _
      by_cases hk9 : k < 9
      · have t2 : decide ((9 : Int) ≤ (k : Int)) = false := by simp; omega
        go_enter Tryz.func104, Tryz.ntmps104
        go_wp2_with fail
        go_loopw [7, 8] (fun st s wr => ∃ s' : Nat, s' ≤ k ∧ s = .int .i64 (s' : Nat) ∧ st = .int .i64 ((10 ^ s' : Nat) : Nat) ∧ 10 ^ s' ≤ 1000000000 ∧ Hid (wr = w)) (fun _ s _ => k - (intOf s).toNat)
        case atStart => exact ⟨0, Nat.zero_le _, rfl, rfl, by rw [Nat.pow_zero]; decide, Lib.hid rfl⟩
        case round =>
          obtain ⟨s, hs, rfl, rfl, hst, HW⟩ := hrel
          have hst1 : 1 ≤ 10 ^ s := Nat.pow_pos (by omega)
          obtain ⟨st, hste⟩ : ∃ st, st = 10 ^ s := ⟨_, rfl⟩
          rw [← hste] at hst hst1 ⊢
          by_cases hgo : s < k ∧ st ≤ 1000000000 / 10
          · obtain ⟨h1, h2⟩ := hgo
            have h3 : st * 10 ≤ 1000000000 := by
              have := (Nat.le_div_iff_mul_le (k := 10) (x := st) (y := 1000000000) (by omega)).1 h2
              omega
            have t4 : decide ((s : Int) < (k : Int)) = true := by simp; omega
            have e4 : (1000000000 : Int) / (10 : Int) = ((1000000000 / 10 : Nat) : Int) := by simp
            have t5 : decide ((st : Int) ≤ 100000000) = true := decide_eq_true (by omega)
            have e5 : (st : Int) * (10 : Int) = ((st * 10 : Nat) : Int) := by simp
            have a0 : 0 ≤ (st : Int) * (10 : Int) := by rw [e5]; omega
            have a1 : (st : Int) * (10 : Int) ≤ 1000000000 := by rw [e5]; omega
            have HV := Lib.hid (show (st : Int) * (10 : Int) = ((10 ^ (s + 1) : Nat) : Int) by rw [Nat.pow_succ, ← hste]; simp)
            have HV2 := Lib.hid (show 10 ^ (s + 1) ≤ 1000000000 by rw [Nat.pow_succ, ← hste]; exact h3)
            clear e4 e5 h2 h3 hste
            go_wp2_with fail
            go_roundw
            case rel => exact ⟨s + 1, by omega, by go_num, vint HV.out, HV2.out, HW⟩
            case measure => simp [intOf]; omega
          · have HSE := Lib.hid hste
            by_cases hsk : s < k
            · have t4 : decide ((s : Int) < (k : Int)) = true := by simp; omega
              have e4 : (1000000000 : Int) / (10 : Int) = ((1000000000 / 10 : Nat) : Int) := by simp
              have t5 : decide ((st : Int) ≤ 100000000) = false := decide_eq_false (by omega)
              clear e4 hgo hste
              go_wp2_with fail
              clear t5 t4
              go_loopw [0, 2] (fun a kk wr => ∃ (A2 : Option Addr) (n2 c2 y k2 : Nat), k2 ≤ k ∧ a = .slice A2 n2 c2 ∧ kk = .int .i64 (k2 : Nat) ∧ MAt wr A2 n2 y ∧ Hid (y * 10 ^ k2 = x * 10 ^ k) ∧ Below w.heap.size w wr) (fun _ kk _ => (intOf kk).toNat)
              case atStart => exact ⟨_, _, _, _, k, Nat.le_refl _, rfl, rfl, by rw [HW.out]; exact HN1.out, by first | exact HEQ | exact Lib.hid rfl, by rw [HW.out]; exact HB1.out⟩
              case round =>
                obtain ⟨A2, n2, c2, y, k2, hk2, rfl, rfl, hM2, HE2, hbel2⟩ := hrel
                have hl2 := HLEN.out y k2 HE2.out
                rw [← hM2.1] at hl2
                have HM2 := Lib.hid hM2
                have HB2 := Lib.hid hbel2
                clear hM2 hbel2
                by_cases hgo : s ≤ k2 ∧ 0 < s
                · obtain ⟨g1, g2⟩ := hgo
                  have t6 : decide ((s : Int) ≤ (k2 : Int)) = true := by simp; omega
                  have t7 : decide ((0 : Int) < (s : Int)) = true := by simp; omega
                  have HT := Lib.hid (times_w A2 n2 c2 y st wr HM2.out (by omega) hst1 hst)
                  go_wp2_with fail
                  refine HT.out.mono ?_
                  rintro e w3 ⟨A3, n3, c3, rfl, h3, b3⟩
                  have H3 := Lib.hid h3
                  have B3 := Lib.hid b3
                  clear h3 b3
                  go_wp2_with fail
                  go_roundw
                  case rel => exact ⟨A3, n3, c3, y * st, k2 - s, by omega, rfl, by go_num, H3.out, Lib.hid (by rw [HSE.out]; exact pow_step HE2.out g1), bthen HB2.out B3.out⟩
                  case measure => simp [intOf]; omega
                · by_cases g1 : s ≤ k2
                  · have hs0 : s ≤ 0 := by omega
                    have t6 : decide ((s : Int) ≤ (k2 : Int)) = true := by simp; omega
                    have t7 : decide ((0 : Int) < (s : Int)) = false := by simp; omega
                    have t7n : decide (0 < s) = false := by simp; omega
                    clear hgo
                    go_wp2_with fail
                    try simp only [t7n]
                    clear t6 t7 t7n hs0
                    go_loopw [0, 9] (fun a i wr => ∃ (A4 : Option Addr) (n4 c4 y4 j : Nat), j ≤ k2 ∧ a = .slice A4 n4 c4 ∧ i = .int .i64 (j : Nat) ∧ MAt wr A4 n4 y4 ∧ Hid (y4 * 10 ^ (k2 - j) = x * 10 ^ k) ∧ Below w.heap.size w wr) (fun _ i _ => k2 - (intOf i).toNat)
                    case atStart => exact ⟨A2, n2, c2, y, 0, Nat.zero_le _, rfl, rfl, HM2.out, HE2, HB2.out⟩
                    case round =>
                      obtain ⟨A4, n4, c4, y4, j, hj, rfl, rfl, hM4, HE4, hbel4⟩ := hrel
                      have hl4 := HLEN.out y4 (k2 - j) HE4.out
                      rw [← hM4.1] at hl4
                      have HM4 := Lib.hid hM4
                      have HB4 := Lib.hid hbel4
                      clear hM4 hbel4
                      by_cases hjk : j < k2
                      · have t8 : decide ((j : Int) < (k2 : Int)) = true := by simp; omega
                        have HT := Lib.hid (times_w A4 n4 c4 y4 10 wr HM4.out (by omega) (by omega) (by omega))
                        go_wp2_with fail
                        refine HT.out.mono ?_
                        rintro e w5 ⟨A5, n5, c5, rfl, h5, b5⟩
                        have H5 := Lib.hid h5
                        have B5 := Lib.hid b5
                        clear h5 b5
                        go_wp2_with fail
                        go_roundw
                        case rel => exact ⟨A5, n5, c5, y4 * 10, j + 1, by omega, rfl, by go_num, H5.out, Lib.hid (by have := pow_step (s := 1) HE4.out (by omega); rwa [Nat.pow_one, show k2 - j - 1 = k2 - (j + 1) by omega] at this), bthen HB4.out B5.out⟩
                        case measure => simp [intOf]; omega
                      · have t8 : decide ((j : Int) < (k2 : Int)) = false := by simp; omega
                        have HFIN := Lib.hid (show y4 = x * 10 ^ k by have := HE4.out; rwa [show k2 - j = 0 by omega, Nat.pow_zero, Nat.mul_one] at this)
                        go_wp2_with fail
                        go_ret
                        exact ⟨A4, n4, c4, rfl, by rw [← HFIN.out]; exact HM4.out, HB4.out⟩
                  · have t6 : decide ((s : Int) ≤ (k2 : Int)) = false := by simp; omega
                    have t6n : decide (s ≤ k2) = false := by simp; omega
                    have g1' : k2 < s := by omega
                    clear g1 hgo
                    go_wp2_with fail
                    try simp only [t6n]
                    clear t6 t6n g1'
                    go_loopw [0, 9] (fun a i wr => ∃ (A4 : Option Addr) (n4 c4 y4 j : Nat), j ≤ k2 ∧ a = .slice A4 n4 c4 ∧ i = .int .i64 (j : Nat) ∧ MAt wr A4 n4 y4 ∧ Hid (y4 * 10 ^ (k2 - j) = x * 10 ^ k) ∧ Below w.heap.size w wr) (fun _ i _ => k2 - (intOf i).toNat)
                    case atStart => exact ⟨A2, n2, c2, y, 0, Nat.zero_le _, rfl, rfl, HM2.out, HE2, HB2.out⟩
                    case round =>
                      obtain ⟨A4, n4, c4, y4, j, hj, rfl, rfl, hM4, HE4, hbel4⟩ := hrel
                      have hl4 := HLEN.out y4 (k2 - j) HE4.out
                      rw [← hM4.1] at hl4
                      have HM4 := Lib.hid hM4
                      have HB4 := Lib.hid hbel4
                      clear hM4 hbel4
                      by_cases hjk : j < k2
                      · have t8 : decide ((j : Int) < (k2 : Int)) = true := by simp; omega
                        have HT := Lib.hid (times_w A4 n4 c4 y4 10 wr HM4.out (by omega) (by omega) (by omega))
                        go_wp2_with fail
                        refine HT.out.mono ?_
                        rintro e w5 ⟨A5, n5, c5, rfl, h5, b5⟩
                        have H5 := Lib.hid h5
                        have B5 := Lib.hid b5
                        clear h5 b5
                        go_wp2_with fail
                        go_roundw
                        case rel => exact ⟨A5, n5, c5, y4 * 10, j + 1, by omega, rfl, by go_num, H5.out, Lib.hid (by have := pow_step (s := 1) HE4.out (by omega); rwa [Nat.pow_one, show k2 - j - 1 = k2 - (j + 1) by omega] at this), bthen HB4.out B5.out⟩
                        case measure => simp [intOf]; omega
                      · have t8 : decide ((j : Int) < (k2 : Int)) = false := by simp; omega
                        have HFIN := Lib.hid (show y4 = x * 10 ^ k by have := HE4.out; rwa [show k2 - j = 0 by omega, Nat.pow_zero, Nat.mul_one] at this)
                        go_wp2_with fail
                        go_ret
                        exact ⟨A4, n4, c4, rfl, by rw [← HFIN.out]; exact HM4.out, HB4.out⟩
            · have t4 : decide ((s : Int) < (k : Int)) = false := by simp; omega
              clear hgo hste
              go_wp2_with fail
              clear t4
              go_loopw [0, 2] (fun a kk wr => ∃ (A2 : Option Addr) (n2 c2 y k2 : Nat), k2 ≤ k ∧ a = .slice A2 n2 c2 ∧ kk = .int .i64 (k2 : Nat) ∧ MAt wr A2 n2 y ∧ Hid (y * 10 ^ k2 = x * 10 ^ k) ∧ Below w.heap.size w wr) (fun _ kk _ => (intOf kk).toNat)
              case atStart => exact ⟨_, _, _, _, k, Nat.le_refl _, rfl, rfl, by rw [HW.out]; exact HN1.out, by first | exact HEQ | exact Lib.hid rfl, by rw [HW.out]; exact HB1.out⟩
              case round =>
                obtain ⟨A2, n2, c2, y, k2, hk2, rfl, rfl, hM2, HE2, hbel2⟩ := hrel
                have hl2 := HLEN.out y k2 HE2.out
                rw [← hM2.1] at hl2
                have HM2 := Lib.hid hM2
                have HB2 := Lib.hid hbel2
                clear hM2 hbel2
                by_cases hgo : s ≤ k2 ∧ 0 < s
                · obtain ⟨g1, g2⟩ := hgo
                  have t6 : decide ((s : Int) ≤ (k2 : Int)) = true := by simp; omega
                  have t7 : decide ((0 : Int) < (s : Int)) = true := by simp; omega
                  have HT := Lib.hid (times_w A2 n2 c2 y st wr HM2.out (by omega) hst1 hst)
                  go_wp2_with fail
                  refine HT.out.mono ?_
                  rintro e w3 ⟨A3, n3, c3, rfl, h3, b3⟩
                  have H3 := Lib.hid h3
                  have B3 := Lib.hid b3
                  clear h3 b3
                  go_wp2_with fail
                  go_roundw
                  case rel => exact ⟨A3, n3, c3, y * st, k2 - s, by omega, rfl, by go_num, H3.out, Lib.hid (by rw [HSE.out]; exact pow_step HE2.out g1), bthen HB2.out B3.out⟩
                  case measure => simp [intOf]; omega
                · by_cases g1 : s ≤ k2
                  · have hs0 : s ≤ 0 := by omega
                    have t6 : decide ((s : Int) ≤ (k2 : Int)) = true := by simp; omega
                    have t7 : decide ((0 : Int) < (s : Int)) = false := by simp; omega
                    have t7n : decide (0 < s) = false := by simp; omega
                    clear hgo
                    go_wp2_with fail
                    try simp only [t7n]
                    clear t6 t7 t7n hs0
                    go_loopw [0, 9] (fun a i wr => ∃ (A4 : Option Addr) (n4 c4 y4 j : Nat), j ≤ k2 ∧ a = .slice A4 n4 c4 ∧ i = .int .i64 (j : Nat) ∧ MAt wr A4 n4 y4 ∧ Hid (y4 * 10 ^ (k2 - j) = x * 10 ^ k) ∧ Below w.heap.size w wr) (fun _ i _ => k2 - (intOf i).toNat)
                    case atStart => exact ⟨A2, n2, c2, y, 0, Nat.zero_le _, rfl, rfl, HM2.out, HE2, HB2.out⟩
                    case round =>
                      obtain ⟨A4, n4, c4, y4, j, hj, rfl, rfl, hM4, HE4, hbel4⟩ := hrel
                      have hl4 := HLEN.out y4 (k2 - j) HE4.out
                      rw [← hM4.1] at hl4
                      have HM4 := Lib.hid hM4
                      have HB4 := Lib.hid hbel4
                      clear hM4 hbel4
                      by_cases hjk : j < k2
                      · have t8 : decide ((j : Int) < (k2 : Int)) = true := by simp; omega
                        have HT := Lib.hid (times_w A4 n4 c4 y4 10 wr HM4.out (by omega) (by omega) (by omega))
                        go_wp2_with fail
                        refine HT.out.mono ?_
                        rintro e w5 ⟨A5, n5, c5, rfl, h5, b5⟩
                        have H5 := Lib.hid h5
                        have B5 := Lib.hid b5
                        clear h5 b5
                        go_wp2_with fail
                        go_roundw
                        case rel => exact ⟨A5, n5, c5, y4 * 10, j + 1, by omega, rfl, by go_num, H5.out, Lib.hid (by have := pow_step (s := 1) HE4.out (by omega); rwa [Nat.pow_one, show k2 - j - 1 = k2 - (j + 1) by omega] at this), bthen HB4.out B5.out⟩
                        case measure => simp [intOf]; omega
                      · have t8 : decide ((j : Int) < (k2 : Int)) = false := by simp; omega
                        have HFIN := Lib.hid (show y4 = x * 10 ^ k by have := HE4.out; rwa [show k2 - j = 0 by omega, Nat.pow_zero, Nat.mul_one] at this)
                        go_wp2_with fail
                        go_ret
                        exact ⟨A4, n4, c4, rfl, by rw [← HFIN.out]; exact HM4.out, HB4.out⟩
                  · have t6 : decide ((s : Int) ≤ (k2 : Int)) = false := by simp; omega
                    have t6n : decide (s ≤ k2) = false := by simp; omega
                    have g1' : k2 < s := by omega
                    clear g1 hgo
                    go_wp2_with fail
                    try simp only [t6n]
                    clear t6 t6n g1'
                    go_loopw [0, 9] (fun a i wr => ∃ (A4 : Option Addr) (n4 c4 y4 j : Nat), j ≤ k2 ∧ a = .slice A4 n4 c4 ∧ i = .int .i64 (j : Nat) ∧ MAt wr A4 n4 y4 ∧ Hid (y4 * 10 ^ (k2 - j) = x * 10 ^ k) ∧ Below w.heap.size w wr) (fun _ i _ => k2 - (intOf i).toNat)
                    case atStart => exact ⟨A2, n2, c2, y, 0, Nat.zero_le _, rfl, rfl, HM2.out, HE2, HB2.out⟩
                    case round =>
                      obtain ⟨A4, n4, c4, y4, j, hj, rfl, rfl, hM4, HE4, hbel4⟩ := hrel
                      have hl4 := HLEN.out y4 (k2 - j) HE4.out
                      rw [← hM4.1] at hl4
                      have HM4 := Lib.hid hM4
                      have HB4 := Lib.hid hbel4
                      clear hM4 hbel4
                      by_cases hjk : j < k2
                      · have t8 : decide ((j : Int) < (k2 : Int)) = true := by simp; omega
                        have HT := Lib.hid (times_w A4 n4 c4 y4 10 wr HM4.out (by omega) (by omega) (by omega))
                        go_wp2_with fail
                        refine HT.out.mono ?_
                        rintro e w5 ⟨A5, n5, c5, rfl, h5, b5⟩
                        have H5 := Lib.hid h5
                        have B5 := Lib.hid b5
                        clear h5 b5
                        go_wp2_with fail
                        go_roundw
                        case rel => exact ⟨A5, n5, c5, y4 * 10, j + 1, by omega, rfl, by go_num, H5.out, Lib.hid (by have := pow_step (s := 1) HE4.out (by omega); rwa [Nat.pow_one, show k2 - j - 1 = k2 - (j + 1) by omega] at this), bthen HB4.out B5.out⟩
                        case measure => simp [intOf]; omega
                      · have t8 : decide ((j : Int) < (k2 : Int)) = false := by simp; omega
                        have HFIN := Lib.hid (show y4 = x * 10 ^ k by have := HE4.out; rwa [show k2 - j = 0 by omega, Nat.pow_zero, Nat.mul_one] at this)
                        go_wp2_with fail
                        go_ret
                        exact ⟨A4, n4, c4, rfl, by rw [← HFIN.out]; exact HM4.out, HB4.out⟩
      · obtain rfl : n = 0 := by omega
        have t2 : decide ((9 : Int) ≤ (k : Int)) = true := by simp; omega
        have t3 : decide ((0 : Int) < ((0 : Nat) : Int)) = false := by decide
        go_enter Tryz.func104, Tryz.ntmps104
        go_wp2_with fail
        go_loopw [7, 8] (fun st s wr => ∃ s' : Nat, s' ≤ k ∧ s = .int .i64 (s' : Nat) ∧ st = .int .i64 ((10 ^ s' : Nat) : Nat) ∧ 10 ^ s' ≤ 1000000000 ∧ Hid (wr = w)) (fun _ s _ => k - (intOf s).toNat)
        case atStart => exact ⟨0, Nat.zero_le _, rfl, rfl, by rw [Nat.pow_zero]; decide, Lib.hid rfl⟩
        case round =>
          obtain ⟨s, hs, rfl, rfl, hst, HW⟩ := hrel
          have hst1 : 1 ≤ 10 ^ s := Nat.pow_pos (by omega)
          obtain ⟨st, hste⟩ : ∃ st, st = 10 ^ s := ⟨_, rfl⟩
          rw [← hste] at hst hst1 ⊢
          by_cases hgo : s < k ∧ st ≤ 1000000000 / 10
          · obtain ⟨h1, h2⟩ := hgo
            have h3 : st * 10 ≤ 1000000000 := by
              have := (Nat.le_div_iff_mul_le (k := 10) (x := st) (y := 1000000000) (by omega)).1 h2
              omega
            have t4 : decide ((s : Int) < (k : Int)) = true := by simp; omega
            have e4 : (1000000000 : Int) / (10 : Int) = ((1000000000 / 10 : Nat) : Int) := by simp
            have t5 : decide ((st : Int) ≤ 100000000) = true := decide_eq_true (by omega)
            have e5 : (st : Int) * (10 : Int) = ((st * 10 : Nat) : Int) := by simp
            have a0 : 0 ≤ (st : Int) * (10 : Int) := by rw [e5]; omega
            have a1 : (st : Int) * (10 : Int) ≤ 1000000000 := by rw [e5]; omega
            have HV := Lib.hid (show (st : Int) * (10 : Int) = ((10 ^ (s + 1) : Nat) : Int) by rw [Nat.pow_succ, ← hste]; simp)
            have HV2 := Lib.hid (show 10 ^ (s + 1) ≤ 1000000000 by rw [Nat.pow_succ, ← hste]; exact h3)
            clear e4 e5 h2 h3 hste
            go_wp2_with fail
            go_roundw
            case rel => exact ⟨s + 1, by omega, by go_num, vint HV.out, HV2.out, HW⟩
            case measure => simp [intOf]; omega
          · have HSE := Lib.hid hste
            by_cases hsk : s < k
            · have t4 : decide ((s : Int) < (k : Int)) = true := by simp; omega
              have e4 : (1000000000 : Int) / (10 : Int) = ((1000000000 / 10 : Nat) : Int) := by simp
              have t5 : decide ((st : Int) ≤ 100000000) = false := decide_eq_false (by omega)
              clear e4 hgo hste
              go_wp2_with fail
              clear t5 t4
              go_loopw [0, 2] (fun a kk wr => ∃ (A2 : Option Addr) (n2 c2 y k2 : Nat), k2 ≤ k ∧ a = .slice A2 n2 c2 ∧ kk = .int .i64 (k2 : Nat) ∧ MAt wr A2 n2 y ∧ Hid (y * 10 ^ k2 = x * 10 ^ k) ∧ Below w.heap.size w wr) (fun _ kk _ => (intOf kk).toNat)
              case atStart => exact ⟨_, _, _, _, k, Nat.le_refl _, rfl, rfl, by rw [HW.out]; exact HN1.out, by first | exact HEQ | exact Lib.hid rfl, by rw [HW.out]; exact HB1.out⟩
              case round =>
                obtain ⟨A2, n2, c2, y, k2, hk2, rfl, rfl, hM2, HE2, hbel2⟩ := hrel
                have hl2 := HLEN.out y k2 HE2.out
                rw [← hM2.1] at hl2
                have HM2 := Lib.hid hM2
                have HB2 := Lib.hid hbel2
                clear hM2 hbel2
                by_cases hgo : s ≤ k2 ∧ 0 < s
                · obtain ⟨g1, g2⟩ := hgo
                  have t6 : decide ((s : Int) ≤ (k2 : Int)) = true := by simp; omega
                  have t7 : decide ((0 : Int) < (s : Int)) = true := by simp; omega
                  have HT := Lib.hid (times_w A2 n2 c2 y st wr HM2.out (by omega) hst1 hst)
                  go_wp2_with fail
                  refine HT.out.mono ?_
                  rintro e w3 ⟨A3, n3, c3, rfl, h3, b3⟩
                  have H3 := Lib.hid h3
                  have B3 := Lib.hid b3
                  clear h3 b3
                  go_wp2_with fail
                  go_roundw
                  case rel => exact ⟨A3, n3, c3, y * st, k2 - s, by omega, rfl, by go_num, H3.out, Lib.hid (by rw [HSE.out]; exact pow_step HE2.out g1), bthen HB2.out B3.out⟩
                  case measure => simp [intOf]; omega
                · by_cases g1 : s ≤ k2
                  · have hs0 : s ≤ 0 := by omega
                    have t6 : decide ((s : Int) ≤ (k2 : Int)) = true := by simp; omega
                    have t7 : decide ((0 : Int) < (s : Int)) = false := by simp; omega
                    have t7n : decide (0 < s) = false := by simp; omega
                    clear hgo
                    go_wp2_with fail
                    try simp only [t7n]
                    clear t6 t7 t7n hs0
                    go_loopw [0, 9] (fun a i wr => ∃ (A4 : Option Addr) (n4 c4 y4 j : Nat), j ≤ k2 ∧ a = .slice A4 n4 c4 ∧ i = .int .i64 (j : Nat) ∧ MAt wr A4 n4 y4 ∧ Hid (y4 * 10 ^ (k2 - j) = x * 10 ^ k) ∧ Below w.heap.size w wr) (fun _ i _ => k2 - (intOf i).toNat)
                    case atStart => exact ⟨A2, n2, c2, y, 0, Nat.zero_le _, rfl, rfl, HM2.out, HE2, HB2.out⟩
                    case round =>
                      obtain ⟨A4, n4, c4, y4, j, hj, rfl, rfl, hM4, HE4, hbel4⟩ := hrel
                      have hl4 := HLEN.out y4 (k2 - j) HE4.out
                      rw [← hM4.1] at hl4
                      have HM4 := Lib.hid hM4
                      have HB4 := Lib.hid hbel4
                      clear hM4 hbel4
                      by_cases hjk : j < k2
                      · have t8 : decide ((j : Int) < (k2 : Int)) = true := by simp; omega
                        have HT := Lib.hid (times_w A4 n4 c4 y4 10 wr HM4.out (by omega) (by omega) (by omega))
                        go_wp2_with fail
                        refine HT.out.mono ?_
                        rintro e w5 ⟨A5, n5, c5, rfl, h5, b5⟩
                        have H5 := Lib.hid h5
                        have B5 := Lib.hid b5
                        clear h5 b5
                        go_wp2_with fail
                        go_roundw
                        case rel => exact ⟨A5, n5, c5, y4 * 10, j + 1, by omega, rfl, by go_num, H5.out, Lib.hid (by have := pow_step (s := 1) HE4.out (by omega); rwa [Nat.pow_one, show k2 - j - 1 = k2 - (j + 1) by omega] at this), bthen HB4.out B5.out⟩
                        case measure => simp [intOf]; omega
                      · have t8 : decide ((j : Int) < (k2 : Int)) = false := by simp; omega
                        have HFIN := Lib.hid (show y4 = x * 10 ^ k by have := HE4.out; rwa [show k2 - j = 0 by omega, Nat.pow_zero, Nat.mul_one] at this)
                        go_wp2_with fail
                        go_ret
                        exact ⟨A4, n4, c4, rfl, by rw [← HFIN.out]; exact HM4.out, HB4.out⟩
                  · have t6 : decide ((s : Int) ≤ (k2 : Int)) = false := by simp; omega
                    have t6n : decide (s ≤ k2) = false := by simp; omega
                    have g1' : k2 < s := by omega
                    clear g1 hgo
                    go_wp2_with fail
                    try simp only [t6n]
                    clear t6 t6n g1'
                    go_loopw [0, 9] (fun a i wr => ∃ (A4 : Option Addr) (n4 c4 y4 j : Nat), j ≤ k2 ∧ a = .slice A4 n4 c4 ∧ i = .int .i64 (j : Nat) ∧ MAt wr A4 n4 y4 ∧ Hid (y4 * 10 ^ (k2 - j) = x * 10 ^ k) ∧ Below w.heap.size w wr) (fun _ i _ => k2 - (intOf i).toNat)
                    case atStart => exact ⟨A2, n2, c2, y, 0, Nat.zero_le _, rfl, rfl, HM2.out, HE2, HB2.out⟩
                    case round =>
                      obtain ⟨A4, n4, c4, y4, j, hj, rfl, rfl, hM4, HE4, hbel4⟩ := hrel
                      have hl4 := HLEN.out y4 (k2 - j) HE4.out
                      rw [← hM4.1] at hl4
                      have HM4 := Lib.hid hM4
                      have HB4 := Lib.hid hbel4
                      clear hM4 hbel4
                      by_cases hjk : j < k2
                      · have t8 : decide ((j : Int) < (k2 : Int)) = true := by simp; omega
                        have HT := Lib.hid (times_w A4 n4 c4 y4 10 wr HM4.out (by omega) (by omega) (by omega))
                        go_wp2_with fail
                        refine HT.out.mono ?_
                        rintro e w5 ⟨A5, n5, c5, rfl, h5, b5⟩
                        have H5 := Lib.hid h5
                        have B5 := Lib.hid b5
                        clear h5 b5
                        go_wp2_with fail
                        go_roundw
                        case rel => exact ⟨A5, n5, c5, y4 * 10, j + 1, by omega, rfl, by go_num, H5.out, Lib.hid (by have := pow_step (s := 1) HE4.out (by omega); rwa [Nat.pow_one, show k2 - j - 1 = k2 - (j + 1) by omega] at this), bthen HB4.out B5.out⟩
                        case measure => simp [intOf]; omega
                      · have t8 : decide ((j : Int) < (k2 : Int)) = false := by simp; omega
                        have HFIN := Lib.hid (show y4 = x * 10 ^ k by have := HE4.out; rwa [show k2 - j = 0 by omega, Nat.pow_zero, Nat.mul_one] at this)
                        go_wp2_with fail
                        go_ret
                        exact ⟨A4, n4, c4, rfl, by rw [← HFIN.out]; exact HM4.out, HB4.out⟩
            · have t4 : decide ((s : Int) < (k : Int)) = false := by simp; omega
              clear hgo hste
              go_wp2_with fail
              clear t4
              go_loopw [0, 2] (fun a kk wr => ∃ (A2 : Option Addr) (n2 c2 y k2 : Nat), k2 ≤ k ∧ a = .slice A2 n2 c2 ∧ kk = .int .i64 (k2 : Nat) ∧ MAt wr A2 n2 y ∧ Hid (y * 10 ^ k2 = x * 10 ^ k) ∧ Below w.heap.size w wr) (fun _ kk _ => (intOf kk).toNat)
              case atStart => exact ⟨_, _, _, _, k, Nat.le_refl _, rfl, rfl, by rw [HW.out]; exact HN1.out, by first | exact HEQ | exact Lib.hid rfl, by rw [HW.out]; exact HB1.out⟩
              case round =>
                obtain ⟨A2, n2, c2, y, k2, hk2, rfl, rfl, hM2, HE2, hbel2⟩ := hrel
                have hl2 := HLEN.out y k2 HE2.out
                rw [← hM2.1] at hl2
                have HM2 := Lib.hid hM2
                have HB2 := Lib.hid hbel2
                clear hM2 hbel2
                by_cases hgo : s ≤ k2 ∧ 0 < s
                · obtain ⟨g1, g2⟩ := hgo
                  have t6 : decide ((s : Int) ≤ (k2 : Int)) = true := by simp; omega
                  have t7 : decide ((0 : Int) < (s : Int)) = true := by simp; omega
                  have HT := Lib.hid (times_w A2 n2 c2 y st wr HM2.out (by omega) hst1 hst)
                  go_wp2_with fail
                  refine HT.out.mono ?_
                  rintro e w3 ⟨A3, n3, c3, rfl, h3, b3⟩
                  have H3 := Lib.hid h3
                  have B3 := Lib.hid b3
                  clear h3 b3
                  go_wp2_with fail
                  go_roundw
                  case rel => exact ⟨A3, n3, c3, y * st, k2 - s, by omega, rfl, by go_num, H3.out, Lib.hid (by rw [HSE.out]; exact pow_step HE2.out g1), bthen HB2.out B3.out⟩
                  case measure => simp [intOf]; omega
                · by_cases g1 : s ≤ k2
                  · have hs0 : s ≤ 0 := by omega
                    have t6 : decide ((s : Int) ≤ (k2 : Int)) = true := by simp; omega
                    have t7 : decide ((0 : Int) < (s : Int)) = false := by simp; omega
                    have t7n : decide (0 < s) = false := by simp; omega
                    clear hgo
                    go_wp2_with fail
                    try simp only [t7n]
                    clear t6 t7 t7n hs0
                    go_loopw [0, 9] (fun a i wr => ∃ (A4 : Option Addr) (n4 c4 y4 j : Nat), j ≤ k2 ∧ a = .slice A4 n4 c4 ∧ i = .int .i64 (j : Nat) ∧ MAt wr A4 n4 y4 ∧ Hid (y4 * 10 ^ (k2 - j) = x * 10 ^ k) ∧ Below w.heap.size w wr) (fun _ i _ => k2 - (intOf i).toNat)
                    case atStart => exact ⟨A2, n2, c2, y, 0, Nat.zero_le _, rfl, rfl, HM2.out, HE2, HB2.out⟩
                    case round =>
                      obtain ⟨A4, n4, c4, y4, j, hj, rfl, rfl, hM4, HE4, hbel4⟩ := hrel
                      have hl4 := HLEN.out y4 (k2 - j) HE4.out
                      rw [← hM4.1] at hl4
                      have HM4 := Lib.hid hM4
                      have HB4 := Lib.hid hbel4
                      clear hM4 hbel4
                      by_cases hjk : j < k2
                      · have t8 : decide ((j : Int) < (k2 : Int)) = true := by simp; omega
                        have HT := Lib.hid (times_w A4 n4 c4 y4 10 wr HM4.out (by omega) (by omega) (by omega))
                        go_wp2_with fail
                        refine HT.out.mono ?_
                        rintro e w5 ⟨A5, n5, c5, rfl, h5, b5⟩
                        have H5 := Lib.hid h5
                        have B5 := Lib.hid b5
                        clear h5 b5
                        go_wp2_with fail
                        go_roundw
                        case rel => exact ⟨A5, n5, c5, y4 * 10, j + 1, by omega, rfl, by go_num, H5.out, Lib.hid (by have := pow_step (s := 1) HE4.out (by omega); rwa [Nat.pow_one, show k2 - j - 1 = k2 - (j + 1) by omega] at this), bthen HB4.out B5.out⟩
                        case measure => simp [intOf]; omega
                      · have t8 : decide ((j : Int) < (k2 : Int)) = false := by simp; omega
                        have HFIN := Lib.hid (show y4 = x * 10 ^ k by have := HE4.out; rwa [show k2 - j = 0 by omega, Nat.pow_zero, Nat.mul_one] at this)
                        go_wp2_with fail
                        go_ret
                        exact ⟨A4, n4, c4, rfl, by rw [← HFIN.out]; exact HM4.out, HB4.out⟩
                  · have t6 : decide ((s : Int) ≤ (k2 : Int)) = false := by simp; omega
                    have t6n : decide (s ≤ k2) = false := by simp; omega
                    have g1' : k2 < s := by omega
                    clear g1 hgo
                    go_wp2_with fail
                    try simp only [t6n]
                    clear t6 t6n g1'
                    go_loopw [0, 9] (fun a i wr => ∃ (A4 : Option Addr) (n4 c4 y4 j : Nat), j ≤ k2 ∧ a = .slice A4 n4 c4 ∧ i = .int .i64 (j : Nat) ∧ MAt wr A4 n4 y4 ∧ Hid (y4 * 10 ^ (k2 - j) = x * 10 ^ k) ∧ Below w.heap.size w wr) (fun _ i _ => k2 - (intOf i).toNat)
                    case atStart => exact ⟨A2, n2, c2, y, 0, Nat.zero_le _, rfl, rfl, HM2.out, HE2, HB2.out⟩
                    case round =>
                      obtain ⟨A4, n4, c4, y4, j, hj, rfl, rfl, hM4, HE4, hbel4⟩ := hrel
                      have hl4 := HLEN.out y4 (k2 - j) HE4.out
                      rw [← hM4.1] at hl4
                      have HM4 := Lib.hid hM4
                      have HB4 := Lib.hid hbel4
                      clear hM4 hbel4
                      by_cases hjk : j < k2
                      · have t8 : decide ((j : Int) < (k2 : Int)) = true := by simp; omega
                        have HT := Lib.hid (times_w A4 n4 c4 y4 10 wr HM4.out (by omega) (by omega) (by omega))
                        go_wp2_with fail
                        refine HT.out.mono ?_
                        rintro e w5 ⟨A5, n5, c5, rfl, h5, b5⟩
                        have H5 := Lib.hid h5
                        have B5 := Lib.hid b5
                        clear h5 b5
                        go_wp2_with fail
                        go_roundw
                        case rel => exact ⟨A5, n5, c5, y4 * 10, j + 1, by omega, rfl, by go_num, H5.out, Lib.hid (by have := pow_step (s := 1) HE4.out (by omega); rwa [Nat.pow_one, show k2 - j - 1 = k2 - (j + 1) by omega] at this), bthen HB4.out B5.out⟩
                        case measure => simp [intOf]; omega
                      · have t8 : decide ((j : Int) < (k2 : Int)) = false := by simp; omega
                        have HFIN := Lib.hid (show y4 = x * 10 ^ k by have := HE4.out; rwa [show k2 - j = 0 by omega, Nat.pow_zero, Nat.mul_one] at this)
                        go_wp2_with fail
                        go_ret
                        exact ⟨A4, n4, c4, rfl, by rw [← HFIN.out]; exact HM4.out, HB4.out⟩
    · have t1 : ((b : Int) == 10) = false := by simp; omega
      clear ha hbig
      go_enter Tryz.func104, Tryz.ntmps104
      go_wp2_with fail
      go_loopw [7, 8] (fun st s wr => ∃ s' : Nat, s' ≤ k ∧ s = .int .i64 (s' : Nat) ∧ st = .int .i64 ((b ^ s' : Nat) : Nat) ∧ b ^ s' ≤ 1000000000 ∧ Hid (wr = w)) (fun _ s _ => k - (intOf s).toNat)
      case atStart => exact ⟨0, Nat.zero_le _, rfl, rfl, by rw [Nat.pow_zero]; decide, Lib.hid rfl⟩
      case round =>
        obtain ⟨s, hs, rfl, rfl, hst, HW⟩ := hrel
        have hst1 : 1 ≤ b ^ s := Nat.pow_pos (by omega)
        obtain ⟨st, hste⟩ : ∃ st, st = b ^ s := ⟨_, rfl⟩
        rw [← hste] at hst hst1 ⊢
        by_cases hgo : s < k ∧ st ≤ 1000000000 / b
        · obtain ⟨h1, h2⟩ := hgo
          have h3 : st * b ≤ 1000000000 := by
            have := (Nat.le_div_iff_mul_le (k := b) (x := st) (y := 1000000000) (by omega)).1 h2
            omega
          have t4 : decide ((s : Int) < (k : Int)) = true := by simp; omega
          have e4 : (1000000000 : Int) / (((b : Nat) : Int) : Int) = ((1000000000 / b : Nat) : Int) := by simp
          have t5 : decide ((st : Int) ≤ (1000000000 : Int) / ((b : Nat) : Int)) = true := by rw [e4]; exact decide_eq_true (by omega)
          have e5 : (st : Int) * (((b : Nat) : Int) : Int) = ((st * b : Nat) : Int) := by simp
          have a0 : 0 ≤ (st : Int) * (((b : Nat) : Int) : Int) := by rw [e5]; omega
          have a1 : (st : Int) * (((b : Nat) : Int) : Int) ≤ 1000000000 := by rw [e5]; omega
          have HV := Lib.hid (show (st : Int) * (((b : Nat) : Int) : Int) = ((b ^ (s + 1) : Nat) : Int) by rw [Nat.pow_succ, ← hste]; simp)
          have HV2 := Lib.hid (show b ^ (s + 1) ≤ 1000000000 by rw [Nat.pow_succ, ← hste]; exact h3)
          clear e4 e5 h2 h3 hste
          go_wp2_with fail
          go_roundw
          case rel => exact ⟨s + 1, by omega, by go_num, vint HV.out, HV2.out, HW⟩
          case measure => simp [intOf]; omega
        · have HSE := Lib.hid hste
          by_cases hsk : s < k
          · have t4 : decide ((s : Int) < (k : Int)) = true := by simp; omega
            have e4 : (1000000000 : Int) / (((b : Nat) : Int) : Int) = ((1000000000 / b : Nat) : Int) := by simp
            have t5 : decide ((st : Int) ≤ (1000000000 : Int) / ((b : Nat) : Int)) = false := by rw [e4]; exact decide_eq_false (by omega)
            clear e4 hgo hste
            go_wp2_with fail
            clear t5 t4
            go_loopw [0, 2] (fun a kk wr => ∃ (A2 : Option Addr) (n2 c2 y k2 : Nat), k2 ≤ k ∧ a = .slice A2 n2 c2 ∧ kk = .int .i64 (k2 : Nat) ∧ MAt wr A2 n2 y ∧ Hid (y * b ^ k2 = x * b ^ k) ∧ Below w.heap.size w wr) (fun _ kk _ => (intOf kk).toNat)
            case atStart => exact ⟨_, _, _, _, k, Nat.le_refl _, rfl, rfl, by rw [HW.out]; exact HN1.out, by first | exact HEQ | exact Lib.hid rfl, by rw [HW.out]; exact HB1.out⟩
            case round =>
              obtain ⟨A2, n2, c2, y, k2, hk2, rfl, rfl, hM2, HE2, hbel2⟩ := hrel
              have hl2 := HLEN.out y k2 HE2.out
              rw [← hM2.1] at hl2
              have HM2 := Lib.hid hM2
              have HB2 := Lib.hid hbel2
              clear hM2 hbel2
              by_cases hgo : s ≤ k2 ∧ 0 < s
              · obtain ⟨g1, g2⟩ := hgo
                have t6 : decide ((s : Int) ≤ (k2 : Int)) = true := by simp; omega
                have t7 : decide ((0 : Int) < (s : Int)) = true := by simp; omega
                have HT := Lib.hid (times_w A2 n2 c2 y st wr HM2.out (by omega) hst1 hst)
                go_wp2_with fail
                refine HT.out.mono ?_
                rintro e w3 ⟨A3, n3, c3, rfl, h3, b3⟩
                have H3 := Lib.hid h3
                have B3 := Lib.hid b3
                clear h3 b3
                go_wp2_with fail
                go_roundw
                case rel => exact ⟨A3, n3, c3, y * st, k2 - s, by omega, rfl, by go_num, H3.out, Lib.hid (by rw [HSE.out]; exact pow_step HE2.out g1), bthen HB2.out B3.out⟩
                case measure => simp [intOf]; omega
              · by_cases g1 : s ≤ k2
                · have hs0 : s ≤ 0 := by omega
                  have t6 : decide ((s : Int) ≤ (k2 : Int)) = true := by simp; omega
                  have t7 : decide ((0 : Int) < (s : Int)) = false := by simp; omega
                  have t7n : decide (0 < s) = false := by simp; omega
                  clear hgo
                  go_wp2_with fail
                  try simp only [t7n]
                  clear t6 t7 t7n hs0
                  go_loopw [0, 9] (fun a i wr => ∃ (A4 : Option Addr) (n4 c4 y4 j : Nat), j ≤ k2 ∧ a = .slice A4 n4 c4 ∧ i = .int .i64 (j : Nat) ∧ MAt wr A4 n4 y4 ∧ Hid (y4 * b ^ (k2 - j) = x * b ^ k) ∧ Below w.heap.size w wr) (fun _ i _ => k2 - (intOf i).toNat)
                  case atStart => exact ⟨A2, n2, c2, y, 0, Nat.zero_le _, rfl, rfl, HM2.out, HE2, HB2.out⟩
                  case round =>
                    obtain ⟨A4, n4, c4, y4, j, hj, rfl, rfl, hM4, HE4, hbel4⟩ := hrel
                    have hl4 := HLEN.out y4 (k2 - j) HE4.out
                    rw [← hM4.1] at hl4
                    have HM4 := Lib.hid hM4
                    have HB4 := Lib.hid hbel4
                    clear hM4 hbel4
                    by_cases hjk : j < k2
                    · have t8 : decide ((j : Int) < (k2 : Int)) = true := by simp; omega
                      have HT := Lib.hid (times_w A4 n4 c4 y4 b wr HM4.out (by omega) (by omega) (by omega))
                      go_wp2_with fail
                      refine HT.out.mono ?_
                      rintro e w5 ⟨A5, n5, c5, rfl, h5, b5⟩
                      have H5 := Lib.hid h5
                      have B5 := Lib.hid b5
                      clear h5 b5
                      go_wp2_with fail
                      go_roundw
                      case rel => exact ⟨A5, n5, c5, y4 * b, j + 1, by omega, rfl, by go_num, H5.out, Lib.hid (by have := pow_step (s := 1) HE4.out (by omega); rwa [Nat.pow_one, show k2 - j - 1 = k2 - (j + 1) by omega] at this), bthen HB4.out B5.out⟩
                      case measure => simp [intOf]; omega
                    · have t8 : decide ((j : Int) < (k2 : Int)) = false := by simp; omega
                      have HFIN := Lib.hid (show y4 = x * b ^ k by have := HE4.out; rwa [show k2 - j = 0 by omega, Nat.pow_zero, Nat.mul_one] at this)
                      go_wp2_with fail
                      go_ret
                      exact ⟨A4, n4, c4, rfl, by rw [← HFIN.out]; exact HM4.out, HB4.out⟩
                · have t6 : decide ((s : Int) ≤ (k2 : Int)) = false := by simp; omega
                  have t6n : decide (s ≤ k2) = false := by simp; omega
                  have g1' : k2 < s := by omega
                  clear g1 hgo
                  go_wp2_with fail
                  try simp only [t6n]
                  clear t6 t6n g1'
                  go_loopw [0, 9] (fun a i wr => ∃ (A4 : Option Addr) (n4 c4 y4 j : Nat), j ≤ k2 ∧ a = .slice A4 n4 c4 ∧ i = .int .i64 (j : Nat) ∧ MAt wr A4 n4 y4 ∧ Hid (y4 * b ^ (k2 - j) = x * b ^ k) ∧ Below w.heap.size w wr) (fun _ i _ => k2 - (intOf i).toNat)
                  case atStart => exact ⟨A2, n2, c2, y, 0, Nat.zero_le _, rfl, rfl, HM2.out, HE2, HB2.out⟩
                  case round =>
                    obtain ⟨A4, n4, c4, y4, j, hj, rfl, rfl, hM4, HE4, hbel4⟩ := hrel
                    have hl4 := HLEN.out y4 (k2 - j) HE4.out
                    rw [← hM4.1] at hl4
                    have HM4 := Lib.hid hM4
                    have HB4 := Lib.hid hbel4
                    clear hM4 hbel4
                    by_cases hjk : j < k2
                    · have t8 : decide ((j : Int) < (k2 : Int)) = true := by simp; omega
                      have HT := Lib.hid (times_w A4 n4 c4 y4 b wr HM4.out (by omega) (by omega) (by omega))
                      go_wp2_with fail
                      refine HT.out.mono ?_
                      rintro e w5 ⟨A5, n5, c5, rfl, h5, b5⟩
                      have H5 := Lib.hid h5
                      have B5 := Lib.hid b5
                      clear h5 b5
                      go_wp2_with fail
                      go_roundw
                      case rel => exact ⟨A5, n5, c5, y4 * b, j + 1, by omega, rfl, by go_num, H5.out, Lib.hid (by have := pow_step (s := 1) HE4.out (by omega); rwa [Nat.pow_one, show k2 - j - 1 = k2 - (j + 1) by omega] at this), bthen HB4.out B5.out⟩
                      case measure => simp [intOf]; omega
                    · have t8 : decide ((j : Int) < (k2 : Int)) = false := by simp; omega
                      have HFIN := Lib.hid (show y4 = x * b ^ k by have := HE4.out; rwa [show k2 - j = 0 by omega, Nat.pow_zero, Nat.mul_one] at this)
                      go_wp2_with fail
                      go_ret
                      exact ⟨A4, n4, c4, rfl, by rw [← HFIN.out]; exact HM4.out, HB4.out⟩
          · have t4 : decide ((s : Int) < (k : Int)) = false := by simp; omega
            clear hgo hste
            go_wp2_with fail
            clear t4
            go_loopw [0, 2] (fun a kk wr => ∃ (A2 : Option Addr) (n2 c2 y k2 : Nat), k2 ≤ k ∧ a = .slice A2 n2 c2 ∧ kk = .int .i64 (k2 : Nat) ∧ MAt wr A2 n2 y ∧ Hid (y * b ^ k2 = x * b ^ k) ∧ Below w.heap.size w wr) (fun _ kk _ => (intOf kk).toNat)
            case atStart => exact ⟨_, _, _, _, k, Nat.le_refl _, rfl, rfl, by rw [HW.out]; exact HN1.out, by first | exact HEQ | exact Lib.hid rfl, by rw [HW.out]; exact HB1.out⟩
            case round =>
              obtain ⟨A2, n2, c2, y, k2, hk2, rfl, rfl, hM2, HE2, hbel2⟩ := hrel
              have hl2 := HLEN.out y k2 HE2.out
              rw [← hM2.1] at hl2
              have HM2 := Lib.hid hM2
              have HB2 := Lib.hid hbel2
              clear hM2 hbel2
              by_cases hgo : s ≤ k2 ∧ 0 < s
              · obtain ⟨g1, g2⟩ := hgo
                have t6 : decide ((s : Int) ≤ (k2 : Int)) = true := by simp; omega
                have t7 : decide ((0 : Int) < (s : Int)) = true := by simp; omega
                have HT := Lib.hid (times_w A2 n2 c2 y st wr HM2.out (by omega) hst1 hst)
                go_wp2_with fail
                refine HT.out.mono ?_
                rintro e w3 ⟨A3, n3, c3, rfl, h3, b3⟩
                have H3 := Lib.hid h3
                have B3 := Lib.hid b3
                clear h3 b3
                go_wp2_with fail
                go_roundw
                case rel => exact ⟨A3, n3, c3, y * st, k2 - s, by omega, rfl, by go_num, H3.out, Lib.hid (by rw [HSE.out]; exact pow_step HE2.out g1), bthen HB2.out B3.out⟩
                case measure => simp [intOf]; omega
              · by_cases g1 : s ≤ k2
                · have hs0 : s ≤ 0 := by omega
                  have t6 : decide ((s : Int) ≤ (k2 : Int)) = true := by simp; omega
                  have t7 : decide ((0 : Int) < (s : Int)) = false := by simp; omega
                  have t7n : decide (0 < s) = false := by simp; omega
                  clear hgo
                  go_wp2_with fail
                  try simp only [t7n]
                  clear t6 t7 t7n hs0
                  go_loopw [0, 9] (fun a i wr => ∃ (A4 : Option Addr) (n4 c4 y4 j : Nat), j ≤ k2 ∧ a = .slice A4 n4 c4 ∧ i = .int .i64 (j : Nat) ∧ MAt wr A4 n4 y4 ∧ Hid (y4 * b ^ (k2 - j) = x * b ^ k) ∧ Below w.heap.size w wr) (fun _ i _ => k2 - (intOf i).toNat)
                  case atStart => exact ⟨A2, n2, c2, y, 0, Nat.zero_le _, rfl, rfl, HM2.out, HE2, HB2.out⟩
                  case round =>
                    obtain ⟨A4, n4, c4, y4, j, hj, rfl, rfl, hM4, HE4, hbel4⟩ := hrel
                    have hl4 := HLEN.out y4 (k2 - j) HE4.out
                    rw [← hM4.1] at hl4
                    have HM4 := Lib.hid hM4
                    have HB4 := Lib.hid hbel4
                    clear hM4 hbel4
                    by_cases hjk : j < k2
                    · have t8 : decide ((j : Int) < (k2 : Int)) = true := by simp; omega
                      have HT := Lib.hid (times_w A4 n4 c4 y4 b wr HM4.out (by omega) (by omega) (by omega))
                      go_wp2_with fail
                      refine HT.out.mono ?_
                      rintro e w5 ⟨A5, n5, c5, rfl, h5, b5⟩
                      have H5 := Lib.hid h5
                      have B5 := Lib.hid b5
                      clear h5 b5
                      go_wp2_with fail
                      go_roundw
                      case rel => exact ⟨A5, n5, c5, y4 * b, j + 1, by omega, rfl, by go_num, H5.out, Lib.hid (by have := pow_step (s := 1) HE4.out (by omega); rwa [Nat.pow_one, show k2 - j - 1 = k2 - (j + 1) by omega] at this), bthen HB4.out B5.out⟩
                      case measure => simp [intOf]; omega
                    · have t8 : decide ((j : Int) < (k2 : Int)) = false := by simp; omega
                      have HFIN := Lib.hid (show y4 = x * b ^ k by have := HE4.out; rwa [show k2 - j = 0 by omega, Nat.pow_zero, Nat.mul_one] at this)
                      go_wp2_with fail
                      go_ret
                      exact ⟨A4, n4, c4, rfl, by rw [← HFIN.out]; exact HM4.out, HB4.out⟩
                · have t6 : decide ((s : Int) ≤ (k2 : Int)) = false := by simp; omega
                  have t6n : decide (s ≤ k2) = false := by simp; omega
                  have g1' : k2 < s := by omega
                  clear g1 hgo
                  go_wp2_with fail
                  try simp only [t6n]
                  clear t6 t6n g1'
                  go_loopw [0, 9] (fun a i wr => ∃ (A4 : Option Addr) (n4 c4 y4 j : Nat), j ≤ k2 ∧ a = .slice A4 n4 c4 ∧ i = .int .i64 (j : Nat) ∧ MAt wr A4 n4 y4 ∧ Hid (y4 * b ^ (k2 - j) = x * b ^ k) ∧ Below w.heap.size w wr) (fun _ i _ => k2 - (intOf i).toNat)
                  case atStart => exact ⟨A2, n2, c2, y, 0, Nat.zero_le _, rfl, rfl, HM2.out, HE2, HB2.out⟩
                  case round =>
                    obtain ⟨A4, n4, c4, y4, j, hj, rfl, rfl, hM4, HE4, hbel4⟩ := hrel
                    have hl4 := HLEN.out y4 (k2 - j) HE4.out
                    rw [← hM4.1] at hl4
                    have HM4 := Lib.hid hM4
                    have HB4 := Lib.hid hbel4
                    clear hM4 hbel4
                    by_cases hjk : j < k2
                    · have t8 : decide ((j : Int) < (k2 : Int)) = true := by simp; omega
                      have HT := Lib.hid (times_w A4 n4 c4 y4 b wr HM4.out (by omega) (by omega) (by omega))
                      go_wp2_with fail
                      refine HT.out.mono ?_
                      rintro e w5 ⟨A5, n5, c5, rfl, h5, b5⟩
                      have H5 := Lib.hid h5
                      have B5 := Lib.hid b5
                      clear h5 b5
                      go_wp2_with fail
                      go_roundw
                      case rel => exact ⟨A5, n5, c5, y4 * b, j + 1, by omega, rfl, by go_num, H5.out, Lib.hid (by have := pow_step (s := 1) HE4.out (by omega); rwa [Nat.pow_one, show k2 - j - 1 = k2 - (j + 1) by omega] at this), bthen HB4.out B5.out⟩
                      case measure => simp [intOf]; omega
                    · have t8 : decide ((j : Int) < (k2 : Int)) = false := by simp; omega
                      have HFIN := Lib.hid (show y4 = x * b ^ k by have := HE4.out; rwa [show k2 - j = 0 by omega, Nat.pow_zero, Nat.mul_one] at this)
                      go_wp2_with fail
                      go_ret
                      exact ⟨A4, n4, c4, rfl, by rw [← HFIN.out]; exact HM4.out, HB4.out⟩
end Go.Proofs.YtabmalnandbocaaGreatDoor.Num
namespace Go.Proofs.YtabmalnandbocaaGreatDoor.Num
set_option exponentiation.threshold 3000
set_option linter.unusedVariables false
set_option linter.unusedSimpArgs false
open Go.RowKit Go.Proofs.YtabmalnandbocaaGreatDoor.Mem Go.Proofs.YtabmalnandbocaaGreatDoor.Own Go.Proofs.YtabmalnandbocaaGreatDoor.Big

theorem dval_fold (l : List UInt8) (a : Nat) : l.foldl (fun a c => a * 10 + (c.toNat - 48)) a = a * 10 ^ l.length + dval l := by
  induction l generalizing a with
  | nil => simp [dval]
  | cons c l ih =>
    have h1 := ih (a * 10 + (c.toNat - 48))
    have h2 := ih (0 * 10 + (c.toNat - 48))
    unfold dval
    simp only [List.foldl_cons, List.length_cons, Nat.pow_succ]
    rw [h1, h2]
    grind
theorem dval_app (l m : List UInt8) : dval (l ++ m) = dval l * 10 ^ m.length + dval m := by
  show (l ++ m).foldl _ 0 = _
  rw [List.foldl_append, dval_fold]; rfl
/-- The number that the digits of a part say. -/
def pval (l : List UInt8) (a i : Nat) : Nat := dval ((l.take i).drop a)
theorem pval_self (l : List UInt8) (a : Nat) : pval l a a = 0 := by
  unfold pval
  rw [List.drop_of_length_le (by rw [List.length_take]; omega)]; rfl
theorem pval_succ (s : ByteArray) {a i : Nat} (ha : a ≤ i) (hi : i < s.size) : pval s.data.toList a (i + 1) = pval s.data.toList a i * 10 + (s[i].toNat - 48) := by
  unfold pval
  have hl : s.data.toList.length = s.size := by simp
  rw [take_snoc_b s i hi, List.drop_append_of_le_length (by rw [List.length_take, hl]; omega), dval_snoc]
theorem pval_lt {l : List UInt8} (h : isDigs l) (a i : Nat) (hi : i ≤ a + 9) : pval l a i < 1000000000 := by
  unfold pval
  have h1 : isDigs ((l.take i).drop a) := fun c hc => h c (List.mem_of_mem_take (List.mem_of_mem_drop hc))
  refine Nat.lt_of_lt_of_le (dval_lt h1) ?_
  refine Nat.le_trans (Nat.pow_le_pow_right (by decide) (show ((l.take i).drop a).length ≤ 9 by rw [List.length_drop, List.length_take]; omega)) (by decide)
theorem pval_split {l : List UInt8} {a i : Nat} (ha : a ≤ i) (hi : i ≤ l.length) : dval (l.take i) = dval (l.take a) * 10 ^ (i - a) + pval l a i := by
  have e : l.take i = l.take a ++ (l.take i).drop a := by
    conv => lhs; rw [← List.take_append_drop a (l.take i)]
    rw [List.take_take, Nat.min_eq_left ha]
  unfold pval
  rw [e, dval_app]
  rw [← e]
  congr 2
  rw [List.length_drop, List.length_take, Nat.min_eq_left hi]
structure DigI (s : List UInt8) (t : Nat) (l : List Nat) : Prop where
  dig : Dig M l
  len : l.length + t ≤ s.length
  eq : val M l + M ^ l.length * dval (s.take t) = dval s
theorem DigI.start (s : List UInt8) : DigI s s.length [] := ⟨Dig.nil, by simp, by simp [val]⟩
theorem ten_M : (10 : Nat) ^ 9 = M := rfl
theorem dig_arith (v X m T p : Nat) : v + X * p + X * m * T = v + X * (T * m + p) := by
  rw [Nat.mul_add, Nat.mul_assoc, Nat.mul_comm T m]; omega
theorem DigI.step {s : List UInt8} {t : Nat} {l : List Nat} (h : DigI s t l) (hs : isDigs s) (ht : 0 < t) : DigI s (t - 9) (l ++ [pval s (t - 9) t]) := by
  have hl := h.len
  have h1 : Dig M (l ++ [pval s (t - 9) t]) := h.dig.append (Dig.one (pval_lt hs _ _ (by omega)))
  have h2 : (l ++ [pval s (t - 9) t]).length + (t - 9) ≤ s.length := by rw [List.length_append, List.length_singleton]; omega
  refine ⟨h1, h2, ?_⟩
  have hv : val M [pval s (t - 9) t] = pval s (t - 9) t := by simp only [val, Nat.mul_zero, Nat.add_zero]
  have h3 := pval_split (l := s) (a := t - 9) (i := t) (by omega) (by omega)
  rw [val_append, hv, List.length_append, List.length_singleton, Nat.pow_succ, ← h.eq, h3]
  by_cases h9 : 9 ≤ t
  · rw [show t - (t - 9) = 9 by omega, ten_M]
    exact dig_arith _ _ _ _ _
  · have h0 : dval (s.take (t - 9)) = 0 := by rw [show t - 9 = 0 by omega]; rfl
    rw [h0, Nat.mul_zero, Nat.zero_mul, Nat.zero_add, Nat.add_zero]
theorem DigI.end_ {s : List UInt8} {l : List Nat} (h : DigI s 0 l) : val M l = dval s := by
  have := h.eq
  simpa [dval] using this
end Go.Proofs.YtabmalnandbocaaGreatDoor.Num
namespace Go.Proofs.YtabmalnandbocaaGreatDoor.Num
set_option exponentiation.threshold 3000
set_option linter.unusedVariables false
set_option linter.unusedSimpArgs false
open Go.RowKit Go.Proofs.YtabmalnandbocaaGreatDoor.Mem Go.Proofs.YtabmalnandbocaaGreatDoor.Own Go.Proofs.YtabmalnandbocaaGreatDoor.Big

def ANum (l : List UInt8) (e e2 : Int) : Nat := dval l * 10 ^ e.toNat * 2 ^ (-e2).toNat
def ADen (m : Nat) (e e2 : Int) : Nat := m * 10 ^ (-e).toNat * 2 ^ e2.toNat
def AgnPost (w : World) (x y : Nat) (e : Ending) (w' : World) : Prop := e = .returned (.int .i64 (cmpI x y)) ∧ Below w.heap.size w w'
theorem dval_mlen {l : List UInt8} (h : isDigs l) : (digs M (dval l)).length ≤ l.length :=
  digs_len_le hM (Nat.lt_of_lt_of_le (dval_lt h) (Nat.pow_le_pow_left (by rw [M_eq]; decide) _))
theorem powl {x b k : Nat} (hb1 : 2 ≤ b) (hb : b ≤ 10) : (digs M (x * b ^ k)).length ≤ (digs M x).length + k :=
  powers_len (x := x) (k2 := 0) (k := k) rfl hb1 hb (by rw [Nat.pow_zero, Nat.mul_one])
theorem powers_10 (A : Option Addr) (n c x k : Nat) (w : World) (ha : MAt w A n x) (hn : n < 15000000000000) (hk : k < 4000000000) :
    Calls Tryz.prog 104 #[.slice A n c, .int .i64 10, .int .i64 (k : Nat)] w (MPost w (x * 10 ^ k)) := powers_w A n c x 10 k w ha hn (by decide) (by decide) hk
theorem powers_2 (A : Option Addr) (n c x k : Nat) (w : World) (ha : MAt w A n x) (hn : n < 15000000000000) (hk : k < 4000000000) :
    Calls Tryz.prog 104 #[.slice A n c, .int .i64 2, .int .i64 (k : Nat)] w (MPost w (x * 2 ^ k)) := powers_w A n c x 2 k w ha hn (by decide) (by decide) hk
abbrev DecO (neg : Bool) (s : ByteArray) (e : Int) : Obj := .cells #[.bool neg, .string s, .int .i64 e] 32
end Go.Proofs.YtabmalnandbocaaGreatDoor.Num
