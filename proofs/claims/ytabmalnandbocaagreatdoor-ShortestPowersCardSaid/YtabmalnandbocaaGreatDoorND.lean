/- Chapters 13 and 14 (floats, shortest): tidy, comes, fewest; ShortestFewest, ShortestPowers. No conditions beside those that each contract names. -/
import Derived.Deep.RegionHeld
import Derived.Test.YtabmalnandbocaaGreatDoorNC
import Derived.Deep.RegionHeld3
import Derived.Deep.DeepCutAuto
import Derived.Test.YtabmalnandbocaaGreatDoorMT
import Derived.Test.YtabmalnandbocaaGreatDoorMP
namespace Go.Proofs.YtabmalnandbocaaGreatDoor.Stg
set_option exponentiation.threshold 3000
set_option linter.unusedVariables false
open Go
section
variable {P : Program} {ops : Array Oper} {Q : Exit → Act → World → Prop} {md : Region.Mode} {S : World → Prop}
theorem wpAnyH_stage (I : Nat → Array Bool → Act → World → Prop) (k : Nat)
    (base : ∀ l a w, I 0 l a w → wpAnyH P md ops Q S k l a w)
    (step : ∀ m l a w, I (m + 1) l a w → Region.ready md ops l ≠ [] ∧ ∀ i ∈ Region.ready md ops l, wpOp P ops Q i (fun a' w' => S w' ∧ I m (l.setIfInBounds i true) a' w') a w) :
    ∀ m l a w, I m l a w → wpAnyH P md ops Q S (m + k) l a w := by
  intro m
  induction m with
  | zero => intro l a w h; rw [Nat.zero_add]; exact base l a w h
  | succ m ih =>
    intro l a w h
    obtain ⟨h1, h2⟩ := step m l a w h
    rw [show m + 1 + k = (m + k) + 1 by omega]
    exact ⟨fun h0 => absurd h0 h1, fun i hi => wpOp_mono (fun a' w' hh => ⟨hh.1, ih _ a' w' hh.2⟩) (h2 i hi)⟩
/-- One operation without a guard, whatever stands behind it. -/
theorem wpOp_run {i : Nat} {o : Oper} {a : Act} {w : World} {K : Act → World → Prop} (ho : ops[i]? = some o) (hg : o.guard = none)
    (h : ∀ K' : Act → World → Prop, Shut (∀ a w, K a w → K' a w) → Oper.wp P o a w K' Q) : wpOp P ops Q i K a w := by
  refine wpOp_step ho fun K' hK => ?_
  have : Region.wanted o (yielded ops a.tmps) = true := by unfold Region.wanted; rw [hg]
  rw [if_pos this]
  exact h K' hK
end
theorem put_get {a : Act} {k j : Nat} {v : Value} (h : k ≠ j) : (a.put (some k) v).tmps[j]?.getD undef = a.tmps[j]?.getD undef := by
  unfold Act.put
  simp [Array.getElem?_setIfInBounds, h]
theorem put_same {a : Act} {k : Nat} {v : Value} (h : k < a.tmps.size) : (a.put (some k) v).tmps[k]?.getD undef = v := by
  unfold Act.put
  simp [Array.getElem?_setIfInBounds, h]
theorem put_size {a : Act} {k : Nat} {v : Value} : (a.put (some k) v).tmps.size = a.tmps.size := by
  unfold Act.put
  simp
end Go.Proofs.YtabmalnandbocaaGreatDoor.Stg
namespace Go.Proofs.YtabmalnandbocaaGreatDoor.Num
set_option exponentiation.threshold 3000
set_option linter.unusedVariables false
set_option linter.unusedSimpArgs false
set_option exponentiation.threshold 3000
open Go.RowKit Go.Proofs.YtabmalnandbocaaGreatDoor.Mem Go.Proofs.YtabmalnandbocaaGreatDoor.Own Go.Proofs.YtabmalnandbocaaGreatDoor.Big Go.Proofs.YtabmalnandbocaaGreatDoor.Str
open Ieee (double single)
/-- The length of a string. -/
def strLen (v : Value) : Nat := match v with | .string p => p.size | _ => 0
theorem byte_at {P : ByteArray} {i : Nat} (h : i < P.size) : P.data.toList[i]? = some P[i] := by
  rw [List.getElem?_eq_getElem (by simpa using h)]
  rfl
def TdPost (w : World) (neg : Bool) (N : Nat) (X : Int) (en : Ending) (w' : World) : Prop := en = .returned (decV neg (tl N) (te N X)) ∧ Below w.heap.size w w'
theorem tl_zero : tl 0 = [] := (told_tl 0).zero
set_option maxHeartbeats 8000000 in
set_option maxRecDepth 100000 in
theorem tidy_w (neg : Bool) (s : ByteArray) (X : Int) (w : World) (hd : isDigs s.data.toList) (hsm : s.size < 140737488355328) (hX1 : -2000000000000000 ≤ X) (hX2 : X ≤ 2000000000000000) :
    Calls Tryz.prog 26 #[.bool neg, .string s, .int .i64 X] w (TdPost w neg (dval s.data.toList) X) := by
  have HLEN := Lib.hid (show s.data.toList.length = s.size by simp)
  have HD := Lib.hid hd
  clear hd
  go_enter Tryz.func26, Tryz.ntmps26
  go_wp2_with fail
  go_loop [1, 2] (fun dv ev => ∃ (P : ByteArray) (t d : Nat), t + d = s.size ∧ P.size = t ∧ dv = .string P ∧ ev = .int .i64 (X + (d : Int)) ∧ Hid (P.data.toList = s.data.toList.take t) ∧ Hid (∀ i, t ≤ i → i < s.size → s.data.toList[i]? = some 48)) (fun dv _ => strLen dv)
  case atStart => exact ⟨s, s.size, 0, by omega, rfl, rfl, by simp, Lib.hid (List.take_of_length_le (by rw [HLEN.out]; exact Nat.le_refl _)).symm, Lib.hid (fun i h h' => by omega)⟩
  case round =>
    obtain ⟨P, t, d, htd, hPt, rfl, rfl, HP, HZ⟩ := hrel
    subst hPt
    by_cases h0 : P.size = 0
    · have hall : dval s.data.toList = 0 := dval_none (fun i hi => HZ.out i (by omega) (by rw [HLEN.out] at hi; exact hi))
      have HALL := Lib.hid hall
      have g0 : decide (0 < (P.size : Int)) = false := decide_eq_false (by omega)
      have g1 : decide (0 < P.size) = false := decide_eq_false (by omega)
      have g2 : ((P.size : Int) == 0) = true := by rw [beq_iff_eq]; omega
      obtain rfl : P = ⟨#[]⟩ := by
        have := List.eq_nil_of_length_eq_zero (l := P.data.toList) (by simpa using h0)
        apply ByteArray.ext
        simpa using this
      clear hall h0 HP HZ g0 g1 g2
      go_wp2_with fail
      refine wp_loop_rounds 1 ?_
      rw [rounds_succ]
      go_wp2_with fail
      have hk1 := Blk.new w 32 #[.bool neg, .string ⟨([] : List UInt8).toArray⟩, .int .i64 0]
      have hbf := (Below.refl _ w).alloc (Nat.le_refl _) (.cells #[.bool neg, .string ⟨([] : List UInt8).toArray⟩, .int .i64 0] 32)
      refine bodyPost_ret (v := decV neg [] 0) (by simp [results, Tryz.results26, go_sem]) rfl ⟨?_, hbf⟩
      rw [HALL.out, tl_zero]
      rfl
    · have hk : P.size - 1 < P.size := by omega
      have t9 : (P.size : Int) - 1 = ((P.size - 1 : Nat) : Int) := by omega
      have t0 : decide (0 < (P.size : Int)) = true := decide_eq_true (by omega)
      have t00 : decide (0 < P.size) = true := decide_eq_true (by omega)
      have hsP : s.data.toList[P.size - 1]? = some (P[P.size - 1]'hk) := by
        have h1 := byte_at hk
        rw [HP.out, List.getElem?_take, if_pos (by omega)] at h1
        exact h1
      by_cases h48 : (P[P.size - 1]'hk).toNat = 48
      · have t1 : (((P[P.size - 1]'hk).toNat : Int) == 48) = true := by rw [beq_iff_eq]; omega
        have HZ2 := Lib.hid (show ∀ i, P.size - 1 ≤ i → i < s.size → s.data.toList[i]? = some 48 from fun i hi hi2 => by
          rcases Nat.lt_or_ge i P.size with h | h
          · obtain rfl : i = P.size - 1 := by omega
            rw [hsP, show P[P.size - 1]'hk = 48 from UInt8.toNat_inj.1 h48]
          · exact HZ.out i h hi2)
        obtain ⟨P2, hP2, hl2, hs2⟩ := sl_to P ((P.size - 1 : Nat) : Int) (P.size - 1) rfl (by omega)
        have HP2 := Lib.hid (show P2.data.toList = s.data.toList.take (P.size - 1) by rw [hl2, HP.out, List.take_take, Nat.min_eq_left (by omega)])
        have HS2 := Lib.hid hs2
        clear h48 hsP HZ HP hl2 hs2
        go_wp2_with (simp only [t9])
        go_round
        case rel => exact ⟨P2, P.size - 1, d + 1, by omega, HS2.out, rfl, by go_num, HP2, HZ2⟩
        case measure => show P2.size < P.size; rw [HS2.out]; omega
      · have t1 : (((P[P.size - 1]'hk).toNat : Int) == 48) = false := by rw [beq_eq_false_iff_ne]; omega
        have HLAST := Lib.hid (show s.data.toList[P.size - 1]? ≠ some 48 by
          rw [hsP]; intro h; injection h with h; exact h48 (by rw [h]; rfl))
        clear h48 hsP
        have HPS := Lib.hid (show P.size + d = s.size from htd)
        obtain ⟨t, ht⟩ : ∃ t, t = P.size := ⟨_, rfl⟩
        go_wp2_with (simp only [t9])
        go_loop [1] (fun dv => ∃ (R : ByteArray) (f : Nat), f < t ∧ R.size = t - f ∧ dv = .string R ∧ Hid (R.data.toList = (s.data.toList.take t).drop f) ∧ Hid (∀ i, i < f → s.data.toList[i]? = some 48)) (fun dv => strLen dv)
        case atStart => exact ⟨P, 0, by omega, by omega, rfl, Lib.hid (by rw [HP.out, ht]; rfl), Lib.hid (fun i hi => by omega)⟩
        case round =>
          obtain ⟨R, f, hft, hRs, rfl, HR, HF⟩ := hrel
          have hR0 : 0 < R.size := by omega
          have t3 : decide (0 < (R.size : Int)) = true := decide_eq_true (by omega)
          have t30 : decide (0 < R.size) = true := decide_eq_true hR0
          have hsf : s.data.toList[f]? = some (R[0]'hR0) := by
            have h1 := byte_at hR0
            rw [HR.out, List.getElem?_drop, List.getElem?_take, if_pos (by omega), Nat.add_zero] at h1
            exact h1
          by_cases h48 : (R[0]'hR0).toNat = 48
          · have t4 : (((R[0]'hR0).toNat : Int) == 48) = true := by rw [beq_iff_eq]; omega
            have hs48 : s.data.toList[f]? = some 48 := by rw [hsf, show R[0]'hR0 = 48 from UInt8.toNat_inj.1 h48]
            have hft1 : f + 1 < t := by
              rcases Nat.lt_or_ge (f + 1) t with h | h
              · exact h
              · obtain rfl : f = P.size - 1 := by omega
                exact absurd hs48 HLAST.out
            have HF2 := Lib.hid (show ∀ i, i < f + 1 → s.data.toList[i]? = some 48 from fun i hi => by
              rcases Nat.lt_or_ge i f with h | h
              · exact HF.out i h
              · obtain rfl : i = f := by omega
                exact hs48)
            obtain ⟨R2, hR2, hl2, hs2⟩ := sl_from R 1 1 rfl hR0
            have HR2 := Lib.hid (show R2.data.toList = (s.data.toList.take t).drop (f + 1) by rw [hl2, HR.out, List.drop_drop])
            have HS2 := Lib.hid hs2
            clear h48 hsf hs48 HF HR hl2 hs2
            go_wp2_with fail
            go_round
            case rel => exact ⟨R2, f + 1, hft1, by rw [HS2.out]; omega, rfl, HR2, HF2⟩
            case measure => show R2.size < R.size; rw [HS2.out]; omega
          · have t4 : (((R[0]'hR0).toNat : Int) == 48) = false := by rw [beq_eq_false_iff_ne]; omega
            have hne : s.data.toList[f]? ≠ some 48 := by
              rw [hsf]; intro h; injection h with h; exact h48 (by rw [h]; rfl)
            have hT := Told.cut HD.out rfl hft (by rw [HLEN.out]; omega) HF.out (fun i h1 h2 => HZ.out i (by omega) (by rw [HLEN.out] at h2; exact h2)) hne (by rw [ht]; exact HLAST.out)
            rw [HLEN.out, show s.size - t = d by omega] at hT
            have hN : dval s.data.toList ≠ 0 := by
              intro h0
              have h1 := hT
              rw [h0] at h1
              have := h1.zero
              have h2 := congrArg List.length this
              rw [List.length_take, List.length_drop, HLEN.out] at h2
              simp at h2; omega
            obtain ⟨o1, o2⟩ := hT.tl
            have o3 := o2 X
            rw [if_neg (hT.ne hN)] at o3
            have hRl : R.data.toList = tl (dval s.data.toList) := by
              rw [HR.out, ← o1, List.drop_take]
            have HO3 := Lib.hid o3
            have HRL := Lib.hid (str_of hRl)
            have t5 : ((R.size : Int) == 0) = false := by rw [beq_eq_false_iff_ne]; omega
            clear hne hT o1 o2 o3 hRl hsf h48 hN hRs hft
            generalize dval s.data.toList = N at *
            go_wp2_with fail
            have hk1 := Blk.new w 32 #[.bool neg, .string R, .int .i64 (X + (d : Int))]
            have hbf := (Below.refl _ w).alloc (Nat.le_refl _) (.cells #[.bool neg, .string R, .int .i64 (X + (d : Int))] 32)
            generalize w.alloc (.cells #[.bool neg, .string R, .int .i64 (X + (d : Int))] 32) = Wf at hk1 hbf ⊢
            have q0 : Wf.cell? ⟨w.heap.size, 0, none⟩ = some (.bool neg) := hk1.cell 0
            have q1 : Wf.cell? ⟨w.heap.size, 1, none⟩ = some (.string R) := hk1.cell 1
            have q2 : Wf.cell? ⟨w.heap.size, 2, none⟩ = some (.int .i64 (X + (d : Int))) := hk1.cell 2
            refine bodyPost_ret (v := .agg #[.bool neg, .string R, .int .i64 (X + (d : Int))]) (by simp [results, Tryz.results26, go_sem, q0, q1, q2]) rfl ⟨?_, hbf⟩
            rw [HRL.out, HO3.out]
def LvPost (w : World) (x : Nat) (c : Int) (en : Ending) (w' : World) : Prop := en = .returned (.tuple #[.float .f64 x, .int .i64 c]) ∧ Below w.heap.size w w'
theorem lflo_w (n : Bool) (l : List UInt8) (e : Int) (w : World) (hf : Form l e) (hl : l.length < 140737488355328) :
    Calls Tryz.prog 17 #[.agg #[.bool n, .string ⟨l.toArray⟩, .int .i64 e]] w (LvPost w (if near64 l e = 9218868437227405312 then 0 else double.word n (near64 l e)) (if near64 l e = 9218868437227405312 then 121 else 0)) := by
  have hs : (⟨l.toArray⟩ : ByteArray).size < 140737488355328 := by
    have : (⟨l.toArray⟩ : ByteArray).size = l.length := by simp [ByteArray.size]
    omega
  refine (of_yes n ⟨l.toArray⟩ e w hf hs).mono fun en w' h => ?_
  obtain ⟨rfl, hb⟩ := h
  refine ⟨?_, hb⟩
  show Ending.returned (ofV n (near64 l e)) = _
  unfold ofV
  by_cases h : near64 l e = 9218868437227405312
  · rw [if_pos h, if_pos h, if_pos h]
  · rw [if_neg h, if_neg h, if_neg h]
theorem word_eq {s : Bool} {n m : Nat} (h : double.word s n = double.word s m) : n = m := by
  have e : ∀ k, double.word s k = (if s then 9223372036854775808 + k else k) := fun k => rfl
  rw [e, e] at h
  cases s
  · simpa using h
  · simp at h; exact h
def BlPost (w : World) (b : Bool) (en : Ending) (w' : World) : Prop := en = .returned (.bool b) ∧ Below w.heap.size w w'
theorem comes_over (x : Nat) (s : Bool) (l : List UInt8) (e : Int) (w : World)
    (hF : ∀ W, Calls Tryz.prog 17 #[.agg #[.bool s, .string ⟨l.toArray⟩, .int .i64 e]] W (LvPost W 0 121)) :
    Calls Tryz.prog 25 #[.agg #[.bool s, .string ⟨l.toArray⟩, .int .i64 e], .int .u64 (x : Nat)] w (BlPost w false) := by
  have HF := Lib.hid hF
  have B0 := Lib.hid ((Below.refl _ w).alloc (Nat.le_refl _) (.cells #[.bool s, .string ⟨l.toArray⟩, .int .i64 e] 32))
  clear hF
  go_enter Tryz.func25, Tryz.ntmps25
  go_wp2_with fail
  refine (HF.out _).mono ?_
  rintro en w1 ⟨rfl, b1⟩
  have B1 := Lib.hid (bthen B0.out b1)
  clear b1
  go_wp2_with fail
  go_ret
  exact ⟨rfl, B1.out⟩
theorem comes_ok (x z : Nat) (b : Bool) (hb : (((z : Nat) : Int) == ((x : Nat) : Int)) = b) (s : Bool) (l : List UInt8) (e : Int) (w : World)
    (hF : ∀ W, Calls Tryz.prog 17 #[.agg #[.bool s, .string ⟨l.toArray⟩, .int .i64 e]] W (LvPost W z 0)) :
    Calls Tryz.prog 25 #[.agg #[.bool s, .string ⟨l.toArray⟩, .int .i64 e], .int .u64 (x : Nat)] w (BlPost w b) := by
  have hbr := bits_run z
  have HF := Lib.hid hF
  have B0 := Lib.hid ((Below.refl _ w).alloc (Nat.le_refl _) (.cells #[.bool s, .string ⟨l.toArray⟩, .int .i64 e] 32))
  clear hF
  go_enter Tryz.func25, Tryz.ntmps25
  go_wp2_with fail
  refine (HF.out _).mono ?_
  rintro en w1 ⟨rfl, b1⟩
  have B1 := Lib.hid (bthen B0.out b1)
  clear b1
  go_wp2_with fail
  go_ret
  exact ⟨rfl, B1.out⟩
theorem lcomes_w (s : Bool) (k : Nat) (l : List UInt8) (e : Int) (w : World) (hk : k < double.infRung) (hf : Form l e) (hl : l.length < 140737488355328) :
    Calls Tryz.prog 25 #[.agg #[.bool s, .string ⟨l.toArray⟩, .int .i64 e], .int .u64 ((double.word s k : Nat) : Int)] w (BlPost w (decide (near64 l e = k))) := by
  by_cases hi : near64 l e = 9218868437227405312
  · rw [decide_eq_false (by rw [hi]; rw [inf_num] at hk; omega)]
    refine comes_over _ s l e w (fun W => ?_)
    have := lflo_w s l e W hf hl
    rw [if_pos hi, if_pos hi] at this
    exact this
  · refine comes_ok _ (double.word s (near64 l e)) _ ?_ s l e w (fun W => ?_)
    · rw [Bool.eq_iff_iff, beq_iff_eq, decide_eq_true_iff]
      constructor
      · intro h; exact word_eq (Int.ofNat_inj.1 h)
      · intro h; rw [h]
    · have := lflo_w s l e W hf hl
      rw [if_neg hi, if_neg hi] at this
      exact this
end Go.Proofs.YtabmalnandbocaaGreatDoor.Num
namespace Go.Proofs.YtabmalnandbocaaGreatDoor.Num
set_option exponentiation.threshold 3000
set_option linter.unusedVariables false
set_option linter.unusedSimpArgs false
set_option exponentiation.threshold 3000
open Go.RowKit Go.Proofs.YtabmalnandbocaaGreatDoor.Mem Go.Proofs.YtabmalnandbocaaGreatDoor.Own Go.Proofs.YtabmalnandbocaaGreatDoor.Big Go.Proofs.YtabmalnandbocaaGreatDoor.Str Go.Proofs.YtabmalnandbocaaGreatDoor.Stg
open Ieee (double single)
section
variable {w W W' : World} {gx gd : Nat} {s : Bool} {XS DS : ByteArray} {ex de : Int}
/-- What is kept throughout. -/
def Kp (w : World) (gx gd : Nat) (s : Bool) (XS : ByteArray) (ex : Int) (DS : ByteArray) (de : Int) (W : World) : Prop := Blk W gx 32 #[.bool s, .string XS, .int .i64 ex] ∧ Blk W gd 32 #[.bool s, .string DS, .int .i64 de] ∧ Below w.heap.size w W
theorem Kp.below (h : Kp w gx gd s XS ex DS de W) (b : Below W.heap.size W W') : Kp w gx gd s XS ex DS de W' := ⟨h.1.below b h.1.lt, h.2.1.below b h.2.1.lt, bthen h.2.2 b⟩
theorem Kp.drew (h : Kp w gx gd s XS ex DS de W) : Kp w gx gd s XS ex DS de W.drew := ⟨h.1.drew, h.2.1.drew, ⟨h.2.2.os, h.2.2.tape, h.2.2.output, h.2.2.size, h.2.2.block⟩⟩
theorem Kp.alloc (h : Kp w gx gd s XS ex DS de W) (o : Obj) : Kp w gx gd s XS ex DS de (W.alloc o) := ⟨h.1.alloc o, h.2.1.alloc o, h.2.2.alloc h.2.2.size o⟩
/-- With the cells that are read. -/
def Kc (w : World) (gx gd : Nat) (s : Bool) (XS : ByteArray) (ex : Int) (DS : ByteArray) (de : Int) (W : World) : Prop := W.cell? ⟨gx, 0, none⟩ = some (.bool s) ∧ W.cell? ⟨gx, 1, none⟩ = some (.string XS) ∧ Hid (Kp w gx gd s XS ex DS de W)
theorem Kp.c (h : Kp w gx gd s XS ex DS de W) : W.cell? ⟨gx, 0, none⟩ = some (.bool s) ∧ W.cell? ⟨gx, 1, none⟩ = some (.string XS) ∧ Hid (Kp w gx gd s XS ex DS de W) := ⟨h.1.cell 0, h.1.cell 1, h⟩
end
def AgPost (w : World) (v : Value) (en : Ending) (w' : World) : Prop := en = .returned v ∧ Below w.heap.size w w'
/-- The frame of region 16, with what has come up so far. -/
def Ch (a0 : Act) (v1 v2 v3 p q : Value) : Act := ((((a0.put (some 122) v1).put (some 129) v2).put (some 131) v3).put (some 11) p).put (some 12) q
def L16 (c : Nat) (b17 b18 : Bool) : Array Bool := #[true, true, true, true, true, true, true, decide (1 ≤ c), true, true, true, true, true, true, decide (2 ≤ c), true, decide (3 ≤ c), b17, b18, false, false]
def St (w : World) (gx gd : Nat) (s : Bool) (XS : ByteArray) (ex : Int) (DS : ByteArray) (de : Int) (AL AH : Value) (G : List UInt8 → Prop) (a0 : Act) (c : Nat) (b17 b18 : Bool) (a : Act) (W : World) : Prop :=
  ∃ (Lp : List UInt8) (v1 v2 v3 p q : Value) (g17 g18 : Nat), a = Ch a0 v1 v2 v3 p q ∧ (1 ≤ c → v1 = AL) ∧ (2 ≤ c → v2 = .string ⟨Lp.toArray⟩ ∧ G Lp) ∧ (3 ≤ c → v3 = AH) ∧
    (b17 = true → p = .pointer (some ⟨g17, 0, none⟩) ∧ Blk W g17 32 #[.bool false, .string ⟨#[]⟩, .int .i64 0] ∧ g17 ≠ gx ∧ g17 ≠ gd ∧ w.heap.size ≤ g17) ∧
    (b18 = true → q = .pointer (some ⟨g18, 0, none⟩) ∧ Blk W g18 32 #[.bool false, .string ⟨#[]⟩, .int .i64 0] ∧ g18 ≠ gx ∧ g18 ≠ gd ∧ w.heap.size ≤ g18) ∧
    (b17 = true → b18 = true → g17 ≠ g18) ∧ Kp w gx gd s XS ex DS de W
theorem put_comm' {a : Act} {k j : Nat} {u v : Value} (h : k ≠ j) : (a.put (some k) u).put (some j) v = (a.put (some j) v).put (some k) u := by
  unfold Act.put
  simp only
  rw [Array.setIfInBounds_comm _ _ h]
theorem put_put' {a : Act} {k : Nat} {u v : Value} : (a.put (some k) u).put (some k) v = a.put (some k) v := by
  unfold Act.put
  simp
theorem put_own {a : Act} {k : Nat} (h : k < a.tmps.size) : a.put (some k) (a.tmps[k]?.getD undef) = a := by
  unfold Act.put
  simp only
  rw [Array.getElem?_eq_getElem h]
  have e : a.tmps.setIfInBounds k a.tmps[k] = a.tmps := by
    apply Array.ext
    · simp
    · intro i h1 h2
      rw [Array.getElem_setIfInBounds]
      split
      · rename_i hh; subst hh; rfl
      · rfl
  show (⟨a.tmps.setIfInBounds k a.tmps[k], a.defers⟩ : Act) = a
  rw [e]
section
variable {w W V : World} {gx gd : Nat} {s : Bool} {XS DS : ByteArray} {ex de : Int} {AL AH : Value} {G : List UInt8 → Prop} {a0 a : Act} {c : Nat} {b17 b18 : Bool}
theorem St.start (h : Kp w gx gd s XS ex DS de W) (hz : a0.tmps.size = 189) : St w gx gd s XS ex DS de AL AH G a0 0 false false a0 W := by
  refine ⟨[], a0.tmps[122]?.getD undef, a0.tmps[129]?.getD undef, a0.tmps[131]?.getD undef, a0.tmps[11]?.getD undef, a0.tmps[12]?.getD undef, 0, 0, ?_, (fun h => absurd h (by decide)), (fun h => absurd h (by decide)), (fun h => absurd h (by decide)), (fun h => by cases h), (fun h => by cases h), (fun h => by cases h), h⟩
  unfold Ch
  rw [put_own (by omega), put_own (by omega), put_own (by omega), put_own (by omega), put_own (by omega)]
theorem St.f (h : St w gx gd s XS ex DS de AL AH G a0 c b17 b18 a W) (j : Nat) (hj : 122 ≠ j ∧ 129 ≠ j ∧ 131 ≠ j ∧ 11 ≠ j ∧ 12 ≠ j) : a.tmps[j]?.getD undef = a0.tmps[j]?.getD undef := by
  obtain ⟨Lp, v1, v2, v3, p, q, g17, g18, rfl, -⟩ := h
  unfold Ch
  rw [put_get hj.2.2.2.2, put_get hj.2.2.2.1, put_get hj.2.2.1, put_get hj.2.1, put_get hj.1]
theorem St.str (h : St w gx gd s XS ex DS de AL AH G a0 2 b17 b18 a W) (hz : a0.tmps.size = 189) : ∃ Lp : List UInt8, a.tmps[129]?.getD undef = .string ⟨Lp.toArray⟩ ∧ G Lp := by
  obtain ⟨Lp, v1, v2, v3, p, q, g17, g18, rfl, -, h2, -⟩ := h
  obtain ⟨rfl, hg⟩ := h2 (by decide)
  refine ⟨Lp, ?_, hg⟩
  unfold Ch
  rw [put_get (by decide), put_get (by decide), put_get (by decide), put_same (by rw [put_size]; omega)]
theorem St.call1 (h : St w gx gd s XS ex DS de AL AH G a0 0 b17 b18 a W) (b : Below W.heap.size W V) : St w gx gd s XS ex DS de AL AH G a0 1 b17 b18 (a.put (some 122) AL) V := by
  obtain ⟨Lp, v1, v2, v3, p, q, g17, g18, rfl, h1, h2, h3, h17, h18, hn, hk⟩ := h
  refine ⟨Lp, AL, v2, v3, p, q, g17, g18, ?_, fun _ => rfl, fun h => absurd h (by decide), fun h => absurd h (by decide), fun e => ?_, fun e => ?_, hn, hk.below b⟩
  · unfold Ch
    rw [put_comm' (k := 12) (j := 122) (by decide), put_comm' (k := 11) (j := 122) (by decide), put_comm' (k := 131) (j := 122) (by decide), put_comm' (k := 129) (j := 122) (by decide), put_put']
  · obtain ⟨e1, e2, e3⟩ := h17 e; exact ⟨e1, e2.below b e2.lt, e3⟩
  · obtain ⟨e1, e2, e3⟩ := h18 e; exact ⟨e1, e2.below b e2.lt, e3⟩
theorem St.call2 (h : St w gx gd s XS ex DS de AL AH G a0 1 b17 b18 a W) {L' : List UInt8} (hG : G L') (b : Below W.heap.size W V) : St w gx gd s XS ex DS de AL AH G a0 2 b17 b18 (a.put (some 129) (.string ⟨L'.toArray⟩)) V := by
  obtain ⟨Lp, v1, v2, v3, p, q, g17, g18, rfl, h1, h2, h3, h17, h18, hn, hk⟩ := h
  refine ⟨L', v1, _, v3, p, q, g17, g18, ?_, fun _ => h1 (by decide), fun _ => ⟨rfl, hG⟩, fun h => absurd h (by decide), fun e => ?_, fun e => ?_, hn, hk.below b⟩
  · unfold Ch
    rw [put_comm' (k := 12) (j := 129) (by decide), put_comm' (k := 11) (j := 129) (by decide), put_comm' (k := 131) (j := 129) (by decide), put_put']
  · obtain ⟨e1, e2, e3⟩ := h17 e; exact ⟨e1, e2.below b e2.lt, e3⟩
  · obtain ⟨e1, e2, e3⟩ := h18 e; exact ⟨e1, e2.below b e2.lt, e3⟩
theorem St.call3 (h : St w gx gd s XS ex DS de AL AH G a0 2 b17 b18 a W) (b : Below W.heap.size W V) : St w gx gd s XS ex DS de AL AH G a0 3 b17 b18 (a.put (some 131) AH) V := by
  obtain ⟨Lp, v1, v2, v3, p, q, g17, g18, rfl, h1, h2, h3, h17, h18, hn, hk⟩ := h
  refine ⟨Lp, v1, v2, _, p, q, g17, g18, ?_, fun _ => h1 (by decide), fun _ => h2 (by decide), fun _ => rfl, fun e => ?_, fun e => ?_, hn, hk.below b⟩
  · unfold Ch
    rw [put_comm' (k := 12) (j := 131) (by decide), put_comm' (k := 11) (j := 131) (by decide), put_put']
  · obtain ⟨e1, e2, e3⟩ := h17 e; exact ⟨e1, e2.below b e2.lt, e3⟩
  · obtain ⟨e1, e2, e3⟩ := h18 e; exact ⟨e1, e2.below b e2.lt, e3⟩
theorem St.al17 (h : St w gx gd s XS ex DS de AL AH G a0 c false b18 a W) : St w gx gd s XS ex DS de AL AH G a0 c true b18 (a.put (some 11) (.pointer (some ⟨W.heap.size, 0, none⟩))) (W.alloc (.cells #[.bool false, .string ⟨#[]⟩, .int .i64 0] 32)) := by
  obtain ⟨Lp, v1, v2, v3, p, q, g17, g18, rfl, h1, h2, h3, h17, h18, hn, hk⟩ := h
  refine ⟨Lp, v1, v2, v3, _, q, W.heap.size, g18, ?_, h1, h2, h3, fun e => ⟨rfl, Blk.new _ _ _, ?_, ?_, ?_⟩, fun e => ?_, fun _ e => ?_, hk.alloc _⟩
  · unfold Ch
    rw [put_comm' (k := 12) (j := 11) (by decide), put_put']
  · have := hk.1.lt; omega
  · have := hk.2.1.lt; omega
  · exact hk.2.2.size
  · obtain ⟨e1, e2, e3⟩ := h18 e; exact ⟨e1, e2.alloc _, e3⟩
  · have := (h18 e).2.1.lt; omega
theorem St.al18 (h : St w gx gd s XS ex DS de AL AH G a0 c b17 false a W) : St w gx gd s XS ex DS de AL AH G a0 c b17 true (a.put (some 12) (.pointer (some ⟨W.heap.size, 0, none⟩))) (W.alloc (.cells #[.bool false, .string ⟨#[]⟩, .int .i64 0] 32)) := by
  obtain ⟨Lp, v1, v2, v3, p, q, g17, g18, rfl, h1, h2, h3, h17, h18, hn, hk⟩ := h
  refine ⟨Lp, v1, v2, v3, p, _, g17, W.heap.size, ?_, h1, h2, h3, fun e => ?_, fun e => ⟨rfl, Blk.new _ _ _, ?_, ?_, ?_⟩, fun e _ => ?_, hk.alloc _⟩
  · unfold Ch
    rw [put_put']
  · obtain ⟨e1, e2, e3⟩ := h17 e; exact ⟨e1, e2.alloc _, e3⟩
  · have := hk.1.lt; omega
  · have := hk.2.1.lt; omega
  · exact hk.2.2.size
  · have := (h17 e).2.1.lt; omega
theorem St.kp (h : St w gx gd s XS ex DS de AL AH G a0 c b17 b18 a W) : Kp w gx gd s XS ex DS de W := by
  obtain ⟨Lp, v1, v2, v3, p, q, g17, g18, rfl, h1, h2, h3, h17, h18, hn, hk⟩ := h
  exact hk
end
theorem dec_set {W : World} {h B : Nat} {t : TypeId} {a0 b0 c0 : Value} (hb : Blk W h t #[a0, b0, c0]) (hB : B ≤ h) (a b c : Value) : Blk (((W.setCell ⟨h, 0, none⟩ a).setCell ⟨h, 1, none⟩ b).setCell ⟨h, 2, none⟩ c) h t #[a, b, c] ∧ Below B W (((W.setCell ⟨h, 0, none⟩ a).setCell ⟨h, 1, none⟩ b).setCell ⟨h, 2, none⟩ c) :=
  ⟨((hb.set_ 0 a).set_ 1 b).set_ 2 c, (((Below.refl B W).setCell (p := ⟨h, 0, none⟩) hB a).setCell (p := ⟨h, 1, none⟩) hB b).setCell (p := ⟨h, 2, none⟩) hB c⟩
theorem Kp.set3 {w W : World} {gx gd g : Nat} {s : Bool} {XS DS : ByteArray} {ex de : Int} (h : Kp w gx gd s XS ex DS de W) (h1 : g ≠ gx) (h2 : g ≠ gd) (h3 : w.heap.size ≤ g) (a b c : Value) : Kp w gx gd s XS ex DS de (((W.setCell ⟨g, 0, none⟩ a).setCell ⟨g, 1, none⟩ b).setCell ⟨g, 2, none⟩ c) :=
  ⟨((h.1.far (p := ⟨g, 0, none⟩) (Ne.symm h1) a).far (p := ⟨g, 1, none⟩) (Ne.symm h1) b).far (p := ⟨g, 2, none⟩) (Ne.symm h1) c, ((h.2.1.far (p := ⟨g, 0, none⟩) (Ne.symm h2) a).far (p := ⟨g, 1, none⟩) (Ne.symm h2) b).far (p := ⟨g, 2, none⟩) (Ne.symm h2) c,
   ((h.2.2.setCell (p := ⟨g, 0, none⟩) h3 a).setCell (p := ⟨g, 1, none⟩) h3 b).setCell (p := ⟨g, 2, none⟩) h3 c⟩
theorem blk3 {W : World} {g h : Nat} {t : TypeId} {cs : Array Value} (hb : Blk W h t cs) (hn : g ≠ h) (a b c : Value) : Blk (((W.setCell ⟨g, 0, none⟩ a).setCell ⟨g, 1, none⟩ b).setCell ⟨g, 2, none⟩ c) h t cs := ((hb.far (p := ⟨g, 0, none⟩) (Ne.symm hn) a).far (p := ⟨g, 1, none⟩) (Ne.symm hn) b).far (p := ⟨g, 2, none⟩) (Ne.symm hn) c
theorem parity_of {c : Nat} {od : Bool} (h : 48 ≤ c) (hod : decide (c % 2 = 1) = od) : (((c : Int) - 48) % 2 == 0) = !od ∧ (((c : Int) - 48) % 2 == 1) = od := by
  subst hod
  by_cases h1 : c % 2 = 1
  · rw [decide_eq_true h1]
    exact ⟨by rw [beq_eq_false_iff_ne.2 (by omega)]; rfl, by rw [beq_iff_eq]; omega⟩
  · rw [decide_eq_false h1]
    exact ⟨by rw [beq_iff_eq.2 (by omega)]; rfl, by rw [beq_eq_false_iff_ne]; omega⟩
theorem ready_step {P : Program} {ops : Array Oper} {Q : Exit → Act → World → Prop} {md : Region.Mode} {l : Array Bool} {a : Act} {w : World} {K : Nat → Act → World → Prop} {rs : List Nat} (hr : Region.ready md ops l = rs) (hne : rs ≠ []) (h : ∀ i ∈ rs, wpOp P ops Q i (K i) a w) :
    Region.ready md ops l ≠ [] ∧ ∀ i ∈ Region.ready md ops l, wpOp P ops Q i (K i) a w := by rw [hr]; exact ⟨hne, h⟩
theorem all_cons {p : Nat → Prop} {i : Nat} {rs : List Nat} (h : p i) (h2 : ∀ j ∈ rs, p j) : ∀ j ∈ i :: rs, p j := fun j hj => by
  rcases List.mem_cons.1 hj with rfl | hj
  · exact h
  · exact h2 j hj
theorem all_nil {p : Nat → Prop} : ∀ j ∈ ([] : List Nat), p j := fun j hj => by cases hj
set_option maxHeartbeats 8000000 in
set_option maxRecDepth 1000000 in
theorem fewest_all (x : Nat) (s : Bool) (XS : ByteArray) (ex : Int) (w : World) (hds : XS.size ≤ 17) (hd0 : 0 < XS.size) (hxb : -5000 ≤ ex ∧ ex ≤ 5000)
    (hne : (FloatKind.f64.format.order x 0 == some .eq) = false)
    (hF : ∀ W, Calls Tryz.prog 14 #[.float .f64 x] W fun e w' => e = .returned (.bool true) ∧ W = w')
    (hX : ∀ W, Calls Tryz.prog 24 #[.float .f64 x] W (AgPost W (.tuple #[.agg #[.bool s, .string XS, .int .i64 ex], .int .i64 0])))
    (hD : ∀ W, Calls Tryz.prog 13 #[.float .f64 x] W (AgPost W (.tuple #[.agg #[.bool s, .string XS, .int .i64 ex], .int .i64 0]))) :
    Calls Tryz.prog 12 #[.int .u64 (x : Nat)] w (LwPost w) := by
  have hfb := frombits_run x
  have HF := Lib.hid hF
  have HX := Lib.hid hX
  have HD := Lib.hid hD
  clear hF hX hD
  have ta : ((XS.size : Int) == 0) = false := by rw [beq_eq_false_iff_ne]; omega
  have tb : decide (17 < (XS.size : Int)) = false := decide_eq_false (by omega)
  have t1 : decide ((XS.size : Int) ≤ (XS.size : Int)) = true := decide_eq_true (by omega)
  go_enter Tryz.func12, Tryz.ntmps12
  go_wp2_with fail
  refine (HF.out _).mono ?_
  rintro en wf ⟨rfl, hwf⟩
  subst hwf
  go_wp2_with fail
  refine (HX.out _).mono ?_
  rintro en w1 ⟨rfl, b1⟩
  have HK1 := Lib.hid (Blk.new w1 32 #[.bool s, .string XS, .int .i64 ex])
  have B1 := Lib.hid (b1.alloc b1.size (.cells #[.bool s, .string XS, .int .i64 ex] 32))
  clear b1
  go_wp2_with fail
  refine (HD.out _).mono ?_
  rintro en w2 ⟨rfl, b2⟩
  have HK2 := Lib.hid ((HK1.out.below b2 HK1.out.lt).alloc (.cells #[.bool s, .string XS, .int .i64 ex] 32))
  have HK3 := Lib.hid (Blk.new w2 32 #[.bool s, .string XS, .int .i64 ex])
  have B2 := Lib.hid ((bthen B1.out b2).alloc (bthen B1.out b2).size (.cells #[.bool s, .string XS, .int .i64 ex] 32))
  have x0 : w2.cell? ⟨w1.heap.size, 0, none⟩ = some (.bool s) := (HK1.out.below b2 HK1.out.lt).cell 0
  have x1 : w2.cell? ⟨w1.heap.size, 1, none⟩ = some (.string XS) := (HK1.out.below b2 HK1.out.lt).cell 1
  have x2 : w2.cell? ⟨w1.heap.size, 2, none⟩ = some (.int .i64 ex) := (HK1.out.below b2 HK1.out.lt).cell 2
  have hxl : w1.heap.size < w2.heap.size := (HK1.out.below b2 HK1.out.lt).lt
  clear b2
  go_wp2_with fail
  go_ret
  exact ⟨rfl, B2.out⟩
def PlPost (w : World) (G : List UInt8 → Prop) (en : Ending) (w' : World) : Prop := ∃ Lp : List UInt8, en = .returned (.string ⟨Lp.toArray⟩) ∧ G Lp ∧ Below w.heap.size w w'
set_option maxHeartbeats 8000000 in
set_option maxRecDepth 1000000 in
theorem fewest_some (x : Nat) (s : Bool) (XS DS : ByteArray) (ex de : Int) (w : World) (hxs : XS.size < 4000) (hds : DS.size ≤ 17) (hd0 : 0 < DS.size) (hxb : -5000 ≤ ex ∧ ex ≤ 5000)
    (hne : (FloatKind.f64.format.order x 0 == some .eq) = false)
    (hF : ∀ W, Calls Tryz.prog 14 #[.float .f64 x] W fun e w' => e = .returned (.bool true) ∧ W = w')
    (hX : ∀ W, Calls Tryz.prog 24 #[.float .f64 x] W (AgPost W (.tuple #[.agg #[.bool s, .string XS, .int .i64 ex], .int .i64 0])))
    (hD : ∀ W, Calls Tryz.prog 13 #[.float .f64 x] W (AgPost W (.tuple #[.agg #[.bool s, .string DS, .int .i64 de], .int .i64 0])))
    (hlt : DS.size < XS.size) (P1 P2 : ByteArray) (G1 G2 : List UInt8 → Prop) (a1 a2 : Array Value) (LS HS : ByteArray) (le he : Int) (bl bh : Bool) (O : ByteArray) (ab mi : Bool)
    (hp1 : 1 < DS.size → ∀ W : World, (Instr.slice 9 (.string XS) none (some (.int .i64 ((DS.size : Int) - 1))) none).run Tryz.prog W = .ok (.string P1) W)
    (hT1 : ∀ W, Calls Tryz.prog 26 #[.bool s, .string P1, .int .i64 (ex + (XS.size : Int) - (DS.size : Int) + 1)] W (AgPost W (.agg a1)))
    (hQ1 : ∀ W, Calls Tryz.prog 27 #[.string P1] W (PlPost W G1))
    (hT2 : ∀ Lp W, G1 Lp → Calls Tryz.prog 26 #[.bool s, .string ⟨Lp.toArray⟩, .int .i64 (ex + (XS.size : Int) - (DS.size : Int) + 1)] W (AgPost W (.agg a2)))
    (hC1 : 1 < DS.size → ∀ W, Calls Tryz.prog 25 #[.agg a1, .int .u64 (x : Nat)] W (BlPost W false))
    (hC2 : 1 < DS.size → ∀ W, Calls Tryz.prog 25 #[.agg a2, .int .u64 (x : Nat)] W (BlPost W false))
    (hp2 : ∀ W : World, (Instr.slice 9 (.string XS) none (some (.int .i64 (DS.size : Int))) none).run Tryz.prog W = .ok (.string P2) W)
    (hTl : ∀ W, Calls Tryz.prog 26 #[.bool s, .string P2, .int .i64 (ex + (XS.size : Int) - (DS.size : Int))] W (AgPost W (.agg #[.bool s, .string LS, .int .i64 le])))
    (hp3 : ∀ W : World, (Instr.slice 9 (.string XS) (some (.int .i64 (DS.size : Int))) none none).run Tryz.prog W = .ok (.string O) W)
    (hQ2 : ∀ W, Calls Tryz.prog 27 #[.string P2] W (PlPost W G2))
    (hTh : ∀ Lp W, G2 Lp → Calls Tryz.prog 26 #[.bool s, .string ⟨Lp.toArray⟩, .int .i64 (ex + (XS.size : Int) - (DS.size : Int))] W (AgPost W (.agg #[.bool s, .string HS, .int .i64 he])))
    (hab : Op.bytesLess O.toList [53] = ab) (hmi : (O.toList == [53]) = mi) (od : Bool) (hdg : 48 ≤ (XS[DS.size - 1]'(by omega)).toNat ∧ (XS[DS.size - 1]'(by omega)).toNat ≤ 57) (hod : decide ((XS[DS.size - 1]'(by omega)).toNat % 2 = 1) = od)
    (hCl : ∀ W, Calls Tryz.prog 25 #[.agg #[.bool s, .string LS, .int .i64 le], .int .u64 (x : Nat)] W (BlPost W bl))
    (hCh : ∀ W, Calls Tryz.prog 25 #[.agg #[.bool s, .string HS, .int .i64 he], .int .u64 (x : Nat)] W (BlPost W bh))
    (hcase : (LS = DS ∧ le = de ∧ (((!ab && !mi) || (mi && od)) = false ∨ bh = false)) ∨ (HS = DS ∧ he = de ∧ ¬ (LS = DS ∧ le = de) ∧ (((!ab && !mi) || (mi && od)) = true ∨ bl = false))) :
    Calls Tryz.prog 12 #[.int .u64 (x : Nat)] w (LwPost w) := by
  have hfb := frombits_run x
  have HF := Lib.hid hF
  have HX := Lib.hid hX
  have HD := Lib.hid hD
  clear hF hX hD
  have ta : ((DS.size : Int) == 0) = false := by rw [beq_eq_false_iff_ne]; omega
  have tb : decide (17 < (DS.size : Int)) = false := decide_eq_false (by omega)
  have HT1 := Lib.hid hT1
  have HQ1 := Lib.hid hQ1
  have HT2 := Lib.hid hT2
  have HC1 := Lib.hid hC1
  have HC2 := Lib.hid hC2
  have HP1 := Lib.hid hp1
  have HTl := Lib.hid hTl
  have HQ2 := Lib.hid hQ2
  have HTh := Lib.hid hTh
  have HCl := Lib.hid hCl
  have HCh := Lib.hid hCh
  have HCase := Lib.hid hcase
  have HAB := Lib.hid hab
  have HMI := Lib.hid hmi
  have HOD := Lib.hid hod
  have HDG := Lib.hid hdg
  clear hp1 hT1 hQ1 hT2 hC1 hC2 hTl hQ2 hTh hCl hCh hcase hab hmi hod hdg
  have t1 : decide ((XS.size : Int) ≤ (DS.size : Int)) = false := decide_eq_false (by omega)
  have t11 : decide (XS.size ≤ DS.size) = false := decide_eq_false (by omega)
  go_enter Tryz.func12, Tryz.ntmps12
  go_wp2_with fail
  refine (HF.out _).mono ?_
  rintro en wf ⟨rfl, hwf⟩
  subst hwf
  go_wp2_with fail
  refine (HX.out _).mono ?_
  rintro en w1 ⟨rfl, b1⟩
  have HK1 := Lib.hid (Blk.new w1 32 #[.bool s, .string XS, .int .i64 ex])
  have B1 := Lib.hid (b1.alloc b1.size (.cells #[.bool s, .string XS, .int .i64 ex] 32))
  clear b1
  go_wp2_with fail
  refine (HD.out _).mono ?_
  rintro en w2 ⟨rfl, b2⟩
  have HK2 := Lib.hid ((HK1.out.below b2 HK1.out.lt).alloc (.cells #[.bool s, .string DS, .int .i64 de] 32))
  have HK3 := Lib.hid (Blk.new w2 32 #[.bool s, .string DS, .int .i64 de])
  have B2 := Lib.hid ((bthen B1.out b2).alloc (bthen B1.out b2).size (.cells #[.bool s, .string DS, .int .i64 de] 32))
  have x0 : w2.cell? ⟨w1.heap.size, 0, none⟩ = some (.bool s) := (HK1.out.below b2 HK1.out.lt).cell 0
  have x1 : w2.cell? ⟨w1.heap.size, 1, none⟩ = some (.string XS) := (HK1.out.below b2 HK1.out.lt).cell 1
  have x2 : w2.cell? ⟨w1.heap.size, 2, none⟩ = some (.int .i64 ex) := (HK1.out.below b2 HK1.out.lt).cell 2
  have hxl : w1.heap.size < w2.heap.size := (HK1.out.below b2 HK1.out.lt).lt
  clear b2
  go_upto_if 72 with fail
  go_cut [] (fun wx => Hid (Kp w w1.heap.size w2.heap.size s XS ex DS de wx))
  case first =>
    have HK := Lib.hid (show Kp w w1.heap.size w2.heap.size s XS ex DS de _ from ⟨HK2.out, HK3.out, B2.out⟩)
    by_cases h1 : 1 < DS.size
    · have t2 : decide (1 < (DS.size : Int)) = true := decide_eq_true (by omega)
      have t22 : decide (1 < DS.size) = true := decide_eq_true h1
      have hp1 := HP1.out h1
      have HC1' := Lib.hid (HC1.out h1)
      have HC2' := Lib.hid (HC2.out h1)
      have h1i : (1 : Int) < (DS.size : Int) := by omega
      have tw : IntKind.i64.wrap ((DS.size : Int) - 1) = (DS.size : Int) - 1 := IntWalk.i64_in _ (by omega)
      clear HK1 HK2 HK3 B2 B1 HC1 HC2 HP1
      go_upto_region 13 with fail
      go_region_held3 (fun w' => w'.cell? ⟨w1.heap.size, 0, none⟩ = some (.bool s) ∧ w'.cell? ⟨w1.heap.size, 1, none⟩ = some (.string XS) ∧ Hid (Kp w w1.heap.size w2.heap.size s XS ex DS de w'))
        (first | exact (Kp.drew HK.out).c | (refine (Kp.below ?_ (by assumption)).c; exact Hid.out (And.right (And.right (by assumption)))))
        (first
          | (go_at_call 26; (with_reducible refine (HT1.out _).mono ?_); rintro en v1 ⟨rfl, b1⟩)
          | (go_at_call 27; (with_reducible refine (HQ1.out _).mono ?_); rintro en v1 ⟨Lp, rfl, hLp, b1⟩)
          | (go_at_call 26; (with_reducible refine (HT2.out _ _ (by assumption)).mono ?_); rintro en v1 ⟨rfl, b1⟩)
          | (go_at_call 25; (with_reducible refine (HC1'.out _).mono ?_); rintro en v1 ⟨rfl, b1⟩)
          | (go_at_call 25; (with_reducible refine (HC2'.out _).mono ?_); rintro en v1 ⟨rfl, b1⟩))
      all_goals
        have HKv : Hid (Kp w w1.heap.size w2.heap.size s XS ex DS de v1) := And.right (And.right (by assumption))
        go_wp2_with fail
        go_meet
        exact HKv
    · have t2 : decide (1 < (DS.size : Int)) = false := decide_eq_false (by omega)
      have t22 : decide (1 < DS.size) = false := decide_eq_false h1
      go_wp2_with fail
      go_meet
      exact HK
  case rest =>
    have HK := hcut
    have y0 := HK.out.1.cell 0
    have y1 := HK.out.1.cell 1
    have y2 := HK.out.1.cell 2
    simp at y0 y1 y2
    clear HK1 HK2 HK3 B2 B1 x0 x1 x2 hxl
    go_upto_region 16 with fail
    go_cut [11, 12] (fun lo hi wx => ∃ gl gh, lo = .pointer (some ⟨gl, 0, none⟩) ∧ hi = .pointer (some ⟨gh, 0, none⟩) ∧ Hid (Blk wx gl 32 #[.bool s, .string LS, .int .i64 le]) ∧ Hid (Blk wx gh 32 #[.bool s, .string HS, .int .i64 he]) ∧ Hid (Kp w w1.heap.size w2.heap.size s XS ex DS de wx))
    case first =>
      refine wp_region_held_drew (S := (fun w' => w'.cell? ⟨w1.heap.size, 0, none⟩ = some (.bool s) ∧ w'.cell? ⟨w1.heap.size, 1, none⟩ = some (.string XS) ∧ Hid (Kp w w1.heap.size w2.heap.size s XS ex DS de w'))) (by kernel_rfl) ?_ (fun hHeld => ?_)
      · exact (Kp.drew HK.out).c
      refine wpAnyH_take (i := 0) (oi := _) (v := ?_) rfl (by kernel_rfl) (by kernel_rfl) (by kernel_rfl) (fun _ _ _ h => h) (Or.inl ⟨by rfl, ?_⟩) (by assumption) ?_
      rotate_left 1
      · (intro w hSw; (try dsimp only at hSw); (go_simp <;> with_reducible rfl))
      (try simp only [Act.put, List.getElem_toArray, List.getElem_cons_zero, List.getElem_cons_succ, List.setIfInBounds_toArray, List.set_cons_zero, List.set_cons_succ])
      refine wpAnyH_take (i := 1) (oi := _) (v := ?_) rfl (by kernel_rfl) (by kernel_rfl) (by kernel_rfl) (fun _ _ _ h => h) (Or.inl ⟨by rfl, ?_⟩) (by assumption) ?_
      rotate_left 1
      · (intro w hSw; (try dsimp only at hSw); (go_simp <;> with_reducible rfl))
      (try simp only [Act.put, List.getElem_toArray, List.getElem_cons_zero, List.getElem_cons_succ, List.setIfInBounds_toArray, List.set_cons_zero, List.set_cons_succ])
      refine wpAnyH_take (i := 2) (oi := _) (v := ?_) rfl (by kernel_rfl) (by kernel_rfl) (by kernel_rfl) (fun _ _ _ h => h) (Or.inl ⟨by rfl, ?_⟩) (by assumption) ?_
      rotate_left 1
      · (intro w hSw; (try dsimp only at hSw); (go_simp <;> with_reducible rfl))
      (try simp only [Act.put, List.getElem_toArray, List.getElem_cons_zero, List.getElem_cons_succ, List.setIfInBounds_toArray, List.set_cons_zero, List.set_cons_succ])
      refine wpAnyH_take (i := 3) (oi := _) (v := ?_) rfl (by kernel_rfl) (by kernel_rfl) (by kernel_rfl) (fun _ _ _ h => h) (Or.inl ⟨by rfl, ?_⟩) (by assumption) ?_
      rotate_left 1
      · (intro w hSw; (try dsimp only at hSw); (go_simp <;> with_reducible rfl))
      (try simp only [Act.put, List.getElem_toArray, List.getElem_cons_zero, List.getElem_cons_succ, List.setIfInBounds_toArray, List.set_cons_zero, List.set_cons_succ])
      refine wpAnyH_take (i := 4) (oi := _) (v := ?_) rfl (by kernel_rfl) (by kernel_rfl) (by kernel_rfl) (fun _ _ _ h => h) (Or.inl ⟨by rfl, ?_⟩) (by assumption) ?_
      rotate_left 1
      · (intro w hSw; (try dsimp only at hSw); (go_simp <;> with_reducible rfl))
      (try simp only [Act.put, List.getElem_toArray, List.getElem_cons_zero, List.getElem_cons_succ, List.setIfInBounds_toArray, List.set_cons_zero, List.set_cons_succ])
      refine wpAnyH_take (i := 5) (oi := _) (v := ?_) rfl (by kernel_rfl) (by kernel_rfl) (by kernel_rfl) (fun _ _ _ h => h) (Or.inl ⟨by rfl, ?_⟩) (by assumption) ?_
      rotate_left 1
      · (intro w hSw; (try dsimp only at hSw); (go_simp <;> with_reducible rfl))
      (try simp only [Act.put, List.getElem_toArray, List.getElem_cons_zero, List.getElem_cons_succ, List.setIfInBounds_toArray, List.set_cons_zero, List.set_cons_succ])
      refine wpAnyH_take (i := 6) (oi := _) (v := ?_) rfl (by kernel_rfl) (by kernel_rfl) (by kernel_rfl) (fun _ _ _ h => h) (Or.inl ⟨by rfl, ?_⟩) (by assumption) ?_
      rotate_left 1
      · (intro w hSw; (try dsimp only at hSw); (go_simp <;> with_reducible rfl))
      (try simp only [Act.put, List.getElem_toArray, List.getElem_cons_zero, List.getElem_cons_succ, List.setIfInBounds_toArray, List.set_cons_zero, List.set_cons_succ])
      refine wpAnyH_take (i := 8) (oi := _) (v := ?_) rfl (by kernel_rfl) (by kernel_rfl) (by kernel_rfl) (fun _ _ _ h => h) (Or.inl ⟨by rfl, ?_⟩) (by assumption) ?_
      rotate_left 1
      · (intro w hSw; (try dsimp only at hSw); (go_simp <;> with_reducible rfl))
      (try simp only [Act.put, List.getElem_toArray, List.getElem_cons_zero, List.getElem_cons_succ, List.setIfInBounds_toArray, List.set_cons_zero, List.set_cons_succ])
      refine wpAnyH_take (i := 9) (oi := _) (v := ?_) rfl (by kernel_rfl) (by kernel_rfl) (by kernel_rfl) (fun _ _ _ h => h) (Or.inl ⟨by rfl, ?_⟩) (by assumption) ?_
      rotate_left 1
      · (intro w hSw; (try dsimp only at hSw); (go_simp <;> with_reducible rfl))
      (try simp only [Act.put, List.getElem_toArray, List.getElem_cons_zero, List.getElem_cons_succ, List.setIfInBounds_toArray, List.set_cons_zero, List.set_cons_succ])
      refine wpAnyH_take (i := 10) (oi := _) (v := ?_) rfl (by kernel_rfl) (by kernel_rfl) (by kernel_rfl) (fun _ _ _ h => h) (Or.inl ⟨by rfl, ?_⟩) (by assumption) ?_
      rotate_left 1
      · (intro w hSw; (try dsimp only at hSw); (go_simp <;> with_reducible rfl))
      (try simp only [Act.put, List.getElem_toArray, List.getElem_cons_zero, List.getElem_cons_succ, List.setIfInBounds_toArray, List.set_cons_zero, List.set_cons_succ])
      refine wpAnyH_take (i := 11) (oi := _) (v := ?_) rfl (by kernel_rfl) (by kernel_rfl) (by kernel_rfl) (fun _ _ _ h => h) (Or.inl ⟨by rfl, ?_⟩) (by assumption) ?_
      rotate_left 1
      · (intro w hSw; (try dsimp only at hSw); (go_simp <;> with_reducible rfl))
      (try simp only [Act.put, List.getElem_toArray, List.getElem_cons_zero, List.getElem_cons_succ, List.setIfInBounds_toArray, List.set_cons_zero, List.set_cons_succ])
      refine wpAnyH_take (i := 12) (oi := _) (v := ?_) rfl (by kernel_rfl) (by kernel_rfl) (by kernel_rfl) (fun _ _ _ h => h) (Or.inl ⟨by rfl, ?_⟩) (by assumption) ?_
      rotate_left 1
      · (intro w hSw; (try dsimp only at hSw); (go_simp <;> with_reducible rfl))
      (try simp only [Act.put, List.getElem_toArray, List.getElem_cons_zero, List.getElem_cons_succ, List.setIfInBounds_toArray, List.set_cons_zero, List.set_cons_succ])
      refine wpAnyH_take (i := 13) (oi := _) (v := ?_) rfl (by kernel_rfl) (by kernel_rfl) (by kernel_rfl) (fun _ _ _ h => h) (Or.inl ⟨by rfl, ?_⟩) (by assumption) ?_
      rotate_left 1
      · (intro w hSw; (try dsimp only at hSw); (go_simp <;> with_reducible rfl))
      (try simp only [Act.put, List.getElem_toArray, List.getElem_cons_zero, List.getElem_cons_succ, List.setIfInBounds_toArray, List.set_cons_zero, List.set_cons_succ])
      refine wpAnyH_take (i := 15) (oi := _) (v := ?_) rfl (by kernel_rfl) (by kernel_rfl) (by kernel_rfl) (fun _ _ _ h => h) (Or.inl ⟨by rfl, ?_⟩) (by assumption) ?_
      rotate_left 1
      · (intro w hSw; (try dsimp only at hSw); (go_simp <;> with_reducible rfl))
      (try simp only [Act.put, List.getElem_toArray, List.getElem_cons_zero, List.getElem_cons_succ, List.setIfInBounds_toArray, List.set_cons_zero, List.set_cons_succ])
      have HK0 := Lib.hid (Kp.drew HK.out)
      clear hHeld
      generalize ha0 : Act.mk _ _ = a0
      have hz0 : a0.tmps.size = 189 := by rw [← ha0]; rfl
      have f116 : a0.tmps[116]?.getD undef = .bool s := by rw [← ha0]; rfl
      have f120 : a0.tmps[120]?.getD undef = .string P2 := by rw [← ha0]; rfl
      have f121 : a0.tmps[121]?.getD undef = .int .i64 (ex + (XS.size : Int) - (DS.size : Int)) := by rw [← ha0]; rfl
      have f124 : a0.tmps[124]?.getD undef = .bool s := by rw [← ha0]; rfl
      have f128 : a0.tmps[128]?.getD undef = .string P2 := by rw [← ha0]; rfl
      have f130 : a0.tmps[130]?.getD undef = .int .i64 (ex + (XS.size : Int) - (DS.size : Int)) := by rw [← ha0]; rfl
      refine wpAnyH_stage (fun m l a W => ∃ c b17 b18, c ≤ 3 ∧ m + c + Bool.toNat b17 + Bool.toNat b18 = 5 ∧ l = L16 c b17 b18 ∧ St w w1.heap.size w2.heap.size s XS ex DS de (.agg #[.bool s, .string LS, .int .i64 le]) (.agg #[.bool s, .string HS, .int .i64 he]) G2 a0 c b17 b18 a W) 2 ?_ ?_ 5 _ _ _ ⟨0, false, false, by decide, rfl, by rfl, St.start HK0.out hz0⟩
      · rintro l a W ⟨c, b17, b18, hc, hm, rfl, hst⟩
        obtain rfl : c = 3 := by have := Bool.toNat_le b17; have := Bool.toNat_le b18; omega
        obtain rfl : b17 = true := by cases b17; (have := Bool.toNat_le b18; simp at hm; omega); rfl
        obtain rfl : b18 = true := by cases b18; (simp at hm); rfl
        obtain ⟨Lp, v1, v2, v3, p, q, g17, g18, rfl, h1, h2, h3, h17, h18, hn, hk⟩ := hst
        obtain rfl := h1 (by decide)
        obtain ⟨rfl, hg⟩ := h2 (by decide)
        obtain rfl := h3 (by decide)
        obtain ⟨rfl, k17, n17, m17, l17⟩ := h17 rfl
        obtain ⟨rfl, k18, n18, m18, l18⟩ := h18 rfl
        have hn' := hn rfl rfl
        unfold Ch
        rw [← ha0]
        simp only [Act.put, List.getElem_toArray, List.getElem_cons_zero, List.getElem_cons_succ, List.setIfInBounds_toArray, List.set_cons_zero, List.set_cons_succ]
        refine wpAnyH_ready (rs := [19]) (by kernel_rfl) (by simp) ?_
        refine AllReadyH.cons (o := _) rfl (fun K hK => ?_) ?_
        · have z0 := k17.cell 0
          have z1 := k17.cell 1
          have z2 := k17.cell 2
          simp at z0 z1 z2
          have fz0 := k17.frozen 0
          have fz1 := k17.frozen 1
          have fz2 := k17.frozen 2
          go_simp
          have k17b := (dec_set (B := 0) k17 (Nat.zero_le _) (.bool s) (.string LS) (.int .i64 le)).1
          have k18b := blk3 k18 (g := g17) hn' (.bool s) (.string LS) (.int .i64 le)
          have hkb := hk.set3 n17 m17 l17 (.bool s) (.string LS) (.int .i64 le)
          refine hK.out _ _ hkb.c (fun hHeld => ?_)
          clear hK K z0 z1 z2 fz0 fz1 fz2 k17 k18 hk
          (try simp only [Act.put, List.getElem_toArray, List.getElem_cons_zero, List.getElem_cons_succ, List.setIfInBounds_toArray, List.set_cons_zero, List.set_cons_succ])
          refine wpAnyH_ready (rs := [20]) (by kernel_rfl) (by simp) ?_
          refine AllReadyH.cons (o := _) rfl (fun K hK => ?_) ?_
          · have z0 := k18b.cell 0
            have z1 := k18b.cell 1
            have z2 := k18b.cell 2
            simp at z0 z1 z2
            have fz0 := k18b.frozen 0
            have fz1 := k18b.frozen 1
            have fz2 := k18b.frozen 2
            go_simp
            have k18c := (dec_set (B := 0) k18b (Nat.zero_le _) (.bool s) (.string HS) (.int .i64 he)).1
            have k17c := blk3 k17b (g := g18) (Ne.symm hn') (.bool s) (.string HS) (.int .i64 he)
            have hkc := hkb.set3 n18 m18 l18 (.bool s) (.string HS) (.int .i64 he)
            refine hK.out _ _ hkc.c (fun hHeld => ?_)
            clear hK K z0 z1 z2 fz0 fz1 fz2
            (try simp only [Act.put, List.getElem_toArray, List.getElem_cons_zero, List.getElem_cons_succ, List.setIfInBounds_toArray, List.set_cons_zero, List.set_cons_succ])
            refine wpAnyH_done (by kernel_rfl) ?_ _
            have H17 := Lib.hid k17c
            have H18 := Lib.hid k18c
            have HKc := Lib.hid hkc
            clear k17c k18c hkc k17b k18b hkb hHeld
            go_wp2_with fail
            go_meet
            exact ⟨g17, g18, rfl, rfl, H17, H18, HKc⟩
          exact AllReadyH.nil
        exact AllReadyH.nil
      · intro m l a W hI
        obtain ⟨c, b17, b18, hc, hm, rfl, hst⟩ := hI
        rcases c with _ | _ | _ | _ | c
        all_goals try (exfalso; omega)
        all_goals cases b17
        all_goals cases b18
        all_goals try (exfalso; simp at hm; done)
        · refine ready_step (K := fun i a' W' => (fun w' => w'.cell? ⟨w1.heap.size, 0, none⟩ = some (.bool s) ∧ w'.cell? ⟨w1.heap.size, 1, none⟩ = some (.string XS) ∧ Hid (Kp w w1.heap.size w2.heap.size s XS ex DS de w')) W' ∧ ∃ c b17 b18, c ≤ 3 ∧ m + c + Bool.toNat b17 + Bool.toNat b18 = 5 ∧ (L16 0 false false).setIfInBounds i true = L16 c b17 b18 ∧ St w w1.heap.size w2.heap.size s XS ex DS de (.agg #[.bool s, .string LS, .int .i64 le]) (.agg #[.bool s, .string HS, .int .i64 he]) G2 a0 c b17 b18 a' W') (rs := [7, 17, 18]) (by kernel_rfl) (by simp) ?_
          refine all_cons ?_ ?_
          · have g116 := (hst.f 116 (by decide)).trans f116
            have g120 := (hst.f 120 (by decide)).trans f120
            have g121 := (hst.f 121 (by decide)).trans f121
            refine wpOp_run (o := _) rfl rfl (fun K hK => ?_)
            have HST := Lib.hid hst
            clear hst
            go_simp
            refine (HTl.out _).mono ?_
            rintro en V ⟨rfl, bV⟩
            refine hK.out _ _ ⟨(HST.out.call1 bV).kp.c, ⟨1, false, false, by decide, by simp only [Bool.toNat_true, Bool.toNat_false]; simp only [Bool.toNat_true, Bool.toNat_false] at hm; omega, by rfl, HST.out.call1 bV⟩⟩
          refine all_cons ?_ ?_
          · refine wpOp_run (o := _) rfl rfl (fun K hK => ?_)
            have HST := Lib.hid hst
            clear hst
            go_simp
            refine hK.out _ _ ⟨HST.out.al17.kp.c, ⟨0, true, false, by decide, by simp only [Bool.toNat_true, Bool.toNat_false]; simp only [Bool.toNat_true, Bool.toNat_false] at hm; omega, by rfl, HST.out.al17⟩⟩
          refine all_cons ?_ ?_
          · refine wpOp_run (o := _) rfl rfl (fun K hK => ?_)
            have HST := Lib.hid hst
            clear hst
            go_simp
            refine hK.out _ _ ⟨HST.out.al18.kp.c, ⟨0, false, true, by decide, by simp only [Bool.toNat_true, Bool.toNat_false]; simp only [Bool.toNat_true, Bool.toNat_false] at hm; omega, by rfl, HST.out.al18⟩⟩
          exact all_nil
        · refine ready_step (K := fun i a' W' => (fun w' => w'.cell? ⟨w1.heap.size, 0, none⟩ = some (.bool s) ∧ w'.cell? ⟨w1.heap.size, 1, none⟩ = some (.string XS) ∧ Hid (Kp w w1.heap.size w2.heap.size s XS ex DS de w')) W' ∧ ∃ c b17 b18, c ≤ 3 ∧ m + c + Bool.toNat b17 + Bool.toNat b18 = 5 ∧ (L16 0 false true).setIfInBounds i true = L16 c b17 b18 ∧ St w w1.heap.size w2.heap.size s XS ex DS de (.agg #[.bool s, .string LS, .int .i64 le]) (.agg #[.bool s, .string HS, .int .i64 he]) G2 a0 c b17 b18 a' W') (rs := [7, 17]) (by kernel_rfl) (by simp) ?_
          refine all_cons ?_ ?_
          · have g116 := (hst.f 116 (by decide)).trans f116
            have g120 := (hst.f 120 (by decide)).trans f120
            have g121 := (hst.f 121 (by decide)).trans f121
            refine wpOp_run (o := _) rfl rfl (fun K hK => ?_)
            have HST := Lib.hid hst
            clear hst
            go_simp
            refine (HTl.out _).mono ?_
            rintro en V ⟨rfl, bV⟩
            refine hK.out _ _ ⟨(HST.out.call1 bV).kp.c, ⟨1, false, true, by decide, by simp only [Bool.toNat_true, Bool.toNat_false]; simp only [Bool.toNat_true, Bool.toNat_false] at hm; omega, by rfl, HST.out.call1 bV⟩⟩
          refine all_cons ?_ ?_
          · refine wpOp_run (o := _) rfl rfl (fun K hK => ?_)
            have HST := Lib.hid hst
            clear hst
            go_simp
            refine hK.out _ _ ⟨HST.out.al17.kp.c, ⟨0, true, true, by decide, by simp only [Bool.toNat_true, Bool.toNat_false]; simp only [Bool.toNat_true, Bool.toNat_false] at hm; omega, by rfl, HST.out.al17⟩⟩
          exact all_nil
        · refine ready_step (K := fun i a' W' => (fun w' => w'.cell? ⟨w1.heap.size, 0, none⟩ = some (.bool s) ∧ w'.cell? ⟨w1.heap.size, 1, none⟩ = some (.string XS) ∧ Hid (Kp w w1.heap.size w2.heap.size s XS ex DS de w')) W' ∧ ∃ c b17 b18, c ≤ 3 ∧ m + c + Bool.toNat b17 + Bool.toNat b18 = 5 ∧ (L16 0 true false).setIfInBounds i true = L16 c b17 b18 ∧ St w w1.heap.size w2.heap.size s XS ex DS de (.agg #[.bool s, .string LS, .int .i64 le]) (.agg #[.bool s, .string HS, .int .i64 he]) G2 a0 c b17 b18 a' W') (rs := [7, 18]) (by kernel_rfl) (by simp) ?_
          refine all_cons ?_ ?_
          · have g116 := (hst.f 116 (by decide)).trans f116
            have g120 := (hst.f 120 (by decide)).trans f120
            have g121 := (hst.f 121 (by decide)).trans f121
            refine wpOp_run (o := _) rfl rfl (fun K hK => ?_)
            have HST := Lib.hid hst
            clear hst
            go_simp
            refine (HTl.out _).mono ?_
            rintro en V ⟨rfl, bV⟩
            refine hK.out _ _ ⟨(HST.out.call1 bV).kp.c, ⟨1, true, false, by decide, by simp only [Bool.toNat_true, Bool.toNat_false]; simp only [Bool.toNat_true, Bool.toNat_false] at hm; omega, by rfl, HST.out.call1 bV⟩⟩
          refine all_cons ?_ ?_
          · refine wpOp_run (o := _) rfl rfl (fun K hK => ?_)
            have HST := Lib.hid hst
            clear hst
            go_simp
            refine hK.out _ _ ⟨HST.out.al18.kp.c, ⟨0, true, true, by decide, by simp only [Bool.toNat_true, Bool.toNat_false]; simp only [Bool.toNat_true, Bool.toNat_false] at hm; omega, by rfl, HST.out.al18⟩⟩
          exact all_nil
        · refine ready_step (K := fun i a' W' => (fun w' => w'.cell? ⟨w1.heap.size, 0, none⟩ = some (.bool s) ∧ w'.cell? ⟨w1.heap.size, 1, none⟩ = some (.string XS) ∧ Hid (Kp w w1.heap.size w2.heap.size s XS ex DS de w')) W' ∧ ∃ c b17 b18, c ≤ 3 ∧ m + c + Bool.toNat b17 + Bool.toNat b18 = 5 ∧ (L16 0 true true).setIfInBounds i true = L16 c b17 b18 ∧ St w w1.heap.size w2.heap.size s XS ex DS de (.agg #[.bool s, .string LS, .int .i64 le]) (.agg #[.bool s, .string HS, .int .i64 he]) G2 a0 c b17 b18 a' W') (rs := [7]) (by kernel_rfl) (by simp) ?_
          refine all_cons ?_ ?_
          · have g116 := (hst.f 116 (by decide)).trans f116
            have g120 := (hst.f 120 (by decide)).trans f120
            have g121 := (hst.f 121 (by decide)).trans f121
            refine wpOp_run (o := _) rfl rfl (fun K hK => ?_)
            have HST := Lib.hid hst
            clear hst
            go_simp
            refine (HTl.out _).mono ?_
            rintro en V ⟨rfl, bV⟩
            refine hK.out _ _ ⟨(HST.out.call1 bV).kp.c, ⟨1, true, true, by decide, by simp only [Bool.toNat_true, Bool.toNat_false]; simp only [Bool.toNat_true, Bool.toNat_false] at hm; omega, by rfl, HST.out.call1 bV⟩⟩
          exact all_nil
        · refine ready_step (K := fun i a' W' => (fun w' => w'.cell? ⟨w1.heap.size, 0, none⟩ = some (.bool s) ∧ w'.cell? ⟨w1.heap.size, 1, none⟩ = some (.string XS) ∧ Hid (Kp w w1.heap.size w2.heap.size s XS ex DS de w')) W' ∧ ∃ c b17 b18, c ≤ 3 ∧ m + c + Bool.toNat b17 + Bool.toNat b18 = 5 ∧ (L16 1 false false).setIfInBounds i true = L16 c b17 b18 ∧ St w w1.heap.size w2.heap.size s XS ex DS de (.agg #[.bool s, .string LS, .int .i64 le]) (.agg #[.bool s, .string HS, .int .i64 he]) G2 a0 c b17 b18 a' W') (rs := [14, 17, 18]) (by kernel_rfl) (by simp) ?_
          refine all_cons ?_ ?_
          · have g128 := (hst.f 128 (by decide)).trans f128
            refine wpOp_run (o := _) rfl rfl (fun K hK => ?_)
            have HST := Lib.hid hst
            clear hst
            go_simp
            refine (HQ2.out _).mono ?_
            rintro en V ⟨L', rfl, hL', bV⟩
            refine hK.out _ _ ⟨(HST.out.call2 hL' bV).kp.c, ⟨2, false, false, by decide, by simp only [Bool.toNat_true, Bool.toNat_false]; simp only [Bool.toNat_true, Bool.toNat_false] at hm; omega, by rfl, HST.out.call2 hL' bV⟩⟩
          refine all_cons ?_ ?_
          · refine wpOp_run (o := _) rfl rfl (fun K hK => ?_)
            have HST := Lib.hid hst
            clear hst
            go_simp
            refine hK.out _ _ ⟨HST.out.al17.kp.c, ⟨1, true, false, by decide, by simp only [Bool.toNat_true, Bool.toNat_false]; simp only [Bool.toNat_true, Bool.toNat_false] at hm; omega, by rfl, HST.out.al17⟩⟩
          refine all_cons ?_ ?_
          · refine wpOp_run (o := _) rfl rfl (fun K hK => ?_)
            have HST := Lib.hid hst
            clear hst
            go_simp
            refine hK.out _ _ ⟨HST.out.al18.kp.c, ⟨1, false, true, by decide, by simp only [Bool.toNat_true, Bool.toNat_false]; simp only [Bool.toNat_true, Bool.toNat_false] at hm; omega, by rfl, HST.out.al18⟩⟩
          exact all_nil
        · refine ready_step (K := fun i a' W' => (fun w' => w'.cell? ⟨w1.heap.size, 0, none⟩ = some (.bool s) ∧ w'.cell? ⟨w1.heap.size, 1, none⟩ = some (.string XS) ∧ Hid (Kp w w1.heap.size w2.heap.size s XS ex DS de w')) W' ∧ ∃ c b17 b18, c ≤ 3 ∧ m + c + Bool.toNat b17 + Bool.toNat b18 = 5 ∧ (L16 1 false true).setIfInBounds i true = L16 c b17 b18 ∧ St w w1.heap.size w2.heap.size s XS ex DS de (.agg #[.bool s, .string LS, .int .i64 le]) (.agg #[.bool s, .string HS, .int .i64 he]) G2 a0 c b17 b18 a' W') (rs := [14, 17]) (by kernel_rfl) (by simp) ?_
          refine all_cons ?_ ?_
          · have g128 := (hst.f 128 (by decide)).trans f128
            refine wpOp_run (o := _) rfl rfl (fun K hK => ?_)
            have HST := Lib.hid hst
            clear hst
            go_simp
            refine (HQ2.out _).mono ?_
            rintro en V ⟨L', rfl, hL', bV⟩
            refine hK.out _ _ ⟨(HST.out.call2 hL' bV).kp.c, ⟨2, false, true, by decide, by simp only [Bool.toNat_true, Bool.toNat_false]; simp only [Bool.toNat_true, Bool.toNat_false] at hm; omega, by rfl, HST.out.call2 hL' bV⟩⟩
          refine all_cons ?_ ?_
          · refine wpOp_run (o := _) rfl rfl (fun K hK => ?_)
            have HST := Lib.hid hst
            clear hst
            go_simp
            refine hK.out _ _ ⟨HST.out.al17.kp.c, ⟨1, true, true, by decide, by simp only [Bool.toNat_true, Bool.toNat_false]; simp only [Bool.toNat_true, Bool.toNat_false] at hm; omega, by rfl, HST.out.al17⟩⟩
          exact all_nil
        · refine ready_step (K := fun i a' W' => (fun w' => w'.cell? ⟨w1.heap.size, 0, none⟩ = some (.bool s) ∧ w'.cell? ⟨w1.heap.size, 1, none⟩ = some (.string XS) ∧ Hid (Kp w w1.heap.size w2.heap.size s XS ex DS de w')) W' ∧ ∃ c b17 b18, c ≤ 3 ∧ m + c + Bool.toNat b17 + Bool.toNat b18 = 5 ∧ (L16 1 true false).setIfInBounds i true = L16 c b17 b18 ∧ St w w1.heap.size w2.heap.size s XS ex DS de (.agg #[.bool s, .string LS, .int .i64 le]) (.agg #[.bool s, .string HS, .int .i64 he]) G2 a0 c b17 b18 a' W') (rs := [14, 18]) (by kernel_rfl) (by simp) ?_
          refine all_cons ?_ ?_
          · have g128 := (hst.f 128 (by decide)).trans f128
            refine wpOp_run (o := _) rfl rfl (fun K hK => ?_)
            have HST := Lib.hid hst
            clear hst
            go_simp
            refine (HQ2.out _).mono ?_
            rintro en V ⟨L', rfl, hL', bV⟩
            refine hK.out _ _ ⟨(HST.out.call2 hL' bV).kp.c, ⟨2, true, false, by decide, by simp only [Bool.toNat_true, Bool.toNat_false]; simp only [Bool.toNat_true, Bool.toNat_false] at hm; omega, by rfl, HST.out.call2 hL' bV⟩⟩
          refine all_cons ?_ ?_
          · refine wpOp_run (o := _) rfl rfl (fun K hK => ?_)
            have HST := Lib.hid hst
            clear hst
            go_simp
            refine hK.out _ _ ⟨HST.out.al18.kp.c, ⟨1, true, true, by decide, by simp only [Bool.toNat_true, Bool.toNat_false]; simp only [Bool.toNat_true, Bool.toNat_false] at hm; omega, by rfl, HST.out.al18⟩⟩
          exact all_nil
        · refine ready_step (K := fun i a' W' => (fun w' => w'.cell? ⟨w1.heap.size, 0, none⟩ = some (.bool s) ∧ w'.cell? ⟨w1.heap.size, 1, none⟩ = some (.string XS) ∧ Hid (Kp w w1.heap.size w2.heap.size s XS ex DS de w')) W' ∧ ∃ c b17 b18, c ≤ 3 ∧ m + c + Bool.toNat b17 + Bool.toNat b18 = 5 ∧ (L16 1 true true).setIfInBounds i true = L16 c b17 b18 ∧ St w w1.heap.size w2.heap.size s XS ex DS de (.agg #[.bool s, .string LS, .int .i64 le]) (.agg #[.bool s, .string HS, .int .i64 he]) G2 a0 c b17 b18 a' W') (rs := [14]) (by kernel_rfl) (by simp) ?_
          refine all_cons ?_ ?_
          · have g128 := (hst.f 128 (by decide)).trans f128
            refine wpOp_run (o := _) rfl rfl (fun K hK => ?_)
            have HST := Lib.hid hst
            clear hst
            go_simp
            refine (HQ2.out _).mono ?_
            rintro en V ⟨L', rfl, hL', bV⟩
            refine hK.out _ _ ⟨(HST.out.call2 hL' bV).kp.c, ⟨2, true, true, by decide, by simp only [Bool.toNat_true, Bool.toNat_false]; simp only [Bool.toNat_true, Bool.toNat_false] at hm; omega, by rfl, HST.out.call2 hL' bV⟩⟩
          exact all_nil
        · refine ready_step (K := fun i a' W' => (fun w' => w'.cell? ⟨w1.heap.size, 0, none⟩ = some (.bool s) ∧ w'.cell? ⟨w1.heap.size, 1, none⟩ = some (.string XS) ∧ Hid (Kp w w1.heap.size w2.heap.size s XS ex DS de w')) W' ∧ ∃ c b17 b18, c ≤ 3 ∧ m + c + Bool.toNat b17 + Bool.toNat b18 = 5 ∧ (L16 2 false false).setIfInBounds i true = L16 c b17 b18 ∧ St w w1.heap.size w2.heap.size s XS ex DS de (.agg #[.bool s, .string LS, .int .i64 le]) (.agg #[.bool s, .string HS, .int .i64 he]) G2 a0 c b17 b18 a' W') (rs := [16, 17, 18]) (by kernel_rfl) (by simp) ?_
          refine all_cons ?_ ?_
          · have g124 := (hst.f 124 (by decide)).trans f124
            have g130 := (hst.f 130 (by decide)).trans f130
            obtain ⟨L', g129, hL'⟩ := hst.str hz0
            refine wpOp_run (o := _) rfl rfl (fun K hK => ?_)
            have HST := Lib.hid hst
            clear hst
            go_simp
            refine (HTh.out _ _ hL').mono ?_
            rintro en V ⟨rfl, bV⟩
            refine hK.out _ _ ⟨(HST.out.call3 bV).kp.c, ⟨3, false, false, by decide, by simp only [Bool.toNat_true, Bool.toNat_false]; simp only [Bool.toNat_true, Bool.toNat_false] at hm; omega, by rfl, HST.out.call3 bV⟩⟩
          refine all_cons ?_ ?_
          · refine wpOp_run (o := _) rfl rfl (fun K hK => ?_)
            have HST := Lib.hid hst
            clear hst
            go_simp
            refine hK.out _ _ ⟨HST.out.al17.kp.c, ⟨2, true, false, by decide, by simp only [Bool.toNat_true, Bool.toNat_false]; simp only [Bool.toNat_true, Bool.toNat_false] at hm; omega, by rfl, HST.out.al17⟩⟩
          refine all_cons ?_ ?_
          · refine wpOp_run (o := _) rfl rfl (fun K hK => ?_)
            have HST := Lib.hid hst
            clear hst
            go_simp
            refine hK.out _ _ ⟨HST.out.al18.kp.c, ⟨2, false, true, by decide, by simp only [Bool.toNat_true, Bool.toNat_false]; simp only [Bool.toNat_true, Bool.toNat_false] at hm; omega, by rfl, HST.out.al18⟩⟩
          exact all_nil
        · refine ready_step (K := fun i a' W' => (fun w' => w'.cell? ⟨w1.heap.size, 0, none⟩ = some (.bool s) ∧ w'.cell? ⟨w1.heap.size, 1, none⟩ = some (.string XS) ∧ Hid (Kp w w1.heap.size w2.heap.size s XS ex DS de w')) W' ∧ ∃ c b17 b18, c ≤ 3 ∧ m + c + Bool.toNat b17 + Bool.toNat b18 = 5 ∧ (L16 2 false true).setIfInBounds i true = L16 c b17 b18 ∧ St w w1.heap.size w2.heap.size s XS ex DS de (.agg #[.bool s, .string LS, .int .i64 le]) (.agg #[.bool s, .string HS, .int .i64 he]) G2 a0 c b17 b18 a' W') (rs := [16, 17]) (by kernel_rfl) (by simp) ?_
          refine all_cons ?_ ?_
          · have g124 := (hst.f 124 (by decide)).trans f124
            have g130 := (hst.f 130 (by decide)).trans f130
            obtain ⟨L', g129, hL'⟩ := hst.str hz0
            refine wpOp_run (o := _) rfl rfl (fun K hK => ?_)
            have HST := Lib.hid hst
            clear hst
            go_simp
            refine (HTh.out _ _ hL').mono ?_
            rintro en V ⟨rfl, bV⟩
            refine hK.out _ _ ⟨(HST.out.call3 bV).kp.c, ⟨3, false, true, by decide, by simp only [Bool.toNat_true, Bool.toNat_false]; simp only [Bool.toNat_true, Bool.toNat_false] at hm; omega, by rfl, HST.out.call3 bV⟩⟩
          refine all_cons ?_ ?_
          · refine wpOp_run (o := _) rfl rfl (fun K hK => ?_)
            have HST := Lib.hid hst
            clear hst
            go_simp
            refine hK.out _ _ ⟨HST.out.al17.kp.c, ⟨2, true, true, by decide, by simp only [Bool.toNat_true, Bool.toNat_false]; simp only [Bool.toNat_true, Bool.toNat_false] at hm; omega, by rfl, HST.out.al17⟩⟩
          exact all_nil
        · refine ready_step (K := fun i a' W' => (fun w' => w'.cell? ⟨w1.heap.size, 0, none⟩ = some (.bool s) ∧ w'.cell? ⟨w1.heap.size, 1, none⟩ = some (.string XS) ∧ Hid (Kp w w1.heap.size w2.heap.size s XS ex DS de w')) W' ∧ ∃ c b17 b18, c ≤ 3 ∧ m + c + Bool.toNat b17 + Bool.toNat b18 = 5 ∧ (L16 2 true false).setIfInBounds i true = L16 c b17 b18 ∧ St w w1.heap.size w2.heap.size s XS ex DS de (.agg #[.bool s, .string LS, .int .i64 le]) (.agg #[.bool s, .string HS, .int .i64 he]) G2 a0 c b17 b18 a' W') (rs := [16, 18]) (by kernel_rfl) (by simp) ?_
          refine all_cons ?_ ?_
          · have g124 := (hst.f 124 (by decide)).trans f124
            have g130 := (hst.f 130 (by decide)).trans f130
            obtain ⟨L', g129, hL'⟩ := hst.str hz0
            refine wpOp_run (o := _) rfl rfl (fun K hK => ?_)
            have HST := Lib.hid hst
            clear hst
            go_simp
            refine (HTh.out _ _ hL').mono ?_
            rintro en V ⟨rfl, bV⟩
            refine hK.out _ _ ⟨(HST.out.call3 bV).kp.c, ⟨3, true, false, by decide, by simp only [Bool.toNat_true, Bool.toNat_false]; simp only [Bool.toNat_true, Bool.toNat_false] at hm; omega, by rfl, HST.out.call3 bV⟩⟩
          refine all_cons ?_ ?_
          · refine wpOp_run (o := _) rfl rfl (fun K hK => ?_)
            have HST := Lib.hid hst
            clear hst
            go_simp
            refine hK.out _ _ ⟨HST.out.al18.kp.c, ⟨2, true, true, by decide, by simp only [Bool.toNat_true, Bool.toNat_false]; simp only [Bool.toNat_true, Bool.toNat_false] at hm; omega, by rfl, HST.out.al18⟩⟩
          exact all_nil
        · refine ready_step (K := fun i a' W' => (fun w' => w'.cell? ⟨w1.heap.size, 0, none⟩ = some (.bool s) ∧ w'.cell? ⟨w1.heap.size, 1, none⟩ = some (.string XS) ∧ Hid (Kp w w1.heap.size w2.heap.size s XS ex DS de w')) W' ∧ ∃ c b17 b18, c ≤ 3 ∧ m + c + Bool.toNat b17 + Bool.toNat b18 = 5 ∧ (L16 2 true true).setIfInBounds i true = L16 c b17 b18 ∧ St w w1.heap.size w2.heap.size s XS ex DS de (.agg #[.bool s, .string LS, .int .i64 le]) (.agg #[.bool s, .string HS, .int .i64 he]) G2 a0 c b17 b18 a' W') (rs := [16]) (by kernel_rfl) (by simp) ?_
          refine all_cons ?_ ?_
          · have g124 := (hst.f 124 (by decide)).trans f124
            have g130 := (hst.f 130 (by decide)).trans f130
            obtain ⟨L', g129, hL'⟩ := hst.str hz0
            refine wpOp_run (o := _) rfl rfl (fun K hK => ?_)
            have HST := Lib.hid hst
            clear hst
            go_simp
            refine (HTh.out _ _ hL').mono ?_
            rintro en V ⟨rfl, bV⟩
            refine hK.out _ _ ⟨(HST.out.call3 bV).kp.c, ⟨3, true, true, by decide, by simp only [Bool.toNat_true, Bool.toNat_false]; simp only [Bool.toNat_true, Bool.toNat_false] at hm; omega, by rfl, HST.out.call3 bV⟩⟩
          exact all_nil
        · refine ready_step (K := fun i a' W' => (fun w' => w'.cell? ⟨w1.heap.size, 0, none⟩ = some (.bool s) ∧ w'.cell? ⟨w1.heap.size, 1, none⟩ = some (.string XS) ∧ Hid (Kp w w1.heap.size w2.heap.size s XS ex DS de w')) W' ∧ ∃ c b17 b18, c ≤ 3 ∧ m + c + Bool.toNat b17 + Bool.toNat b18 = 5 ∧ (L16 3 false false).setIfInBounds i true = L16 c b17 b18 ∧ St w w1.heap.size w2.heap.size s XS ex DS de (.agg #[.bool s, .string LS, .int .i64 le]) (.agg #[.bool s, .string HS, .int .i64 he]) G2 a0 c b17 b18 a' W') (rs := [17, 18]) (by kernel_rfl) (by simp) ?_
          refine all_cons ?_ ?_
          · refine wpOp_run (o := _) rfl rfl (fun K hK => ?_)
            have HST := Lib.hid hst
            clear hst
            go_simp
            refine hK.out _ _ ⟨HST.out.al17.kp.c, ⟨3, true, false, by decide, by simp only [Bool.toNat_true, Bool.toNat_false]; simp only [Bool.toNat_true, Bool.toNat_false] at hm; omega, by rfl, HST.out.al17⟩⟩
          refine all_cons ?_ ?_
          · refine wpOp_run (o := _) rfl rfl (fun K hK => ?_)
            have HST := Lib.hid hst
            clear hst
            go_simp
            refine hK.out _ _ ⟨HST.out.al18.kp.c, ⟨3, false, true, by decide, by simp only [Bool.toNat_true, Bool.toNat_false]; simp only [Bool.toNat_true, Bool.toNat_false] at hm; omega, by rfl, HST.out.al18⟩⟩
          exact all_nil
        · refine ready_step (K := fun i a' W' => (fun w' => w'.cell? ⟨w1.heap.size, 0, none⟩ = some (.bool s) ∧ w'.cell? ⟨w1.heap.size, 1, none⟩ = some (.string XS) ∧ Hid (Kp w w1.heap.size w2.heap.size s XS ex DS de w')) W' ∧ ∃ c b17 b18, c ≤ 3 ∧ m + c + Bool.toNat b17 + Bool.toNat b18 = 5 ∧ (L16 3 false true).setIfInBounds i true = L16 c b17 b18 ∧ St w w1.heap.size w2.heap.size s XS ex DS de (.agg #[.bool s, .string LS, .int .i64 le]) (.agg #[.bool s, .string HS, .int .i64 he]) G2 a0 c b17 b18 a' W') (rs := [17]) (by kernel_rfl) (by simp) ?_
          refine all_cons ?_ ?_
          · refine wpOp_run (o := _) rfl rfl (fun K hK => ?_)
            have HST := Lib.hid hst
            clear hst
            go_simp
            refine hK.out _ _ ⟨HST.out.al17.kp.c, ⟨3, true, true, by decide, by simp only [Bool.toNat_true, Bool.toNat_false]; simp only [Bool.toNat_true, Bool.toNat_false] at hm; omega, by rfl, HST.out.al17⟩⟩
          exact all_nil
        · refine ready_step (K := fun i a' W' => (fun w' => w'.cell? ⟨w1.heap.size, 0, none⟩ = some (.bool s) ∧ w'.cell? ⟨w1.heap.size, 1, none⟩ = some (.string XS) ∧ Hid (Kp w w1.heap.size w2.heap.size s XS ex DS de w')) W' ∧ ∃ c b17 b18, c ≤ 3 ∧ m + c + Bool.toNat b17 + Bool.toNat b18 = 5 ∧ (L16 3 true false).setIfInBounds i true = L16 c b17 b18 ∧ St w w1.heap.size w2.heap.size s XS ex DS de (.agg #[.bool s, .string LS, .int .i64 le]) (.agg #[.bool s, .string HS, .int .i64 he]) G2 a0 c b17 b18 a' W') (rs := [18]) (by kernel_rfl) (by simp) ?_
          refine all_cons ?_ ?_
          · refine wpOp_run (o := _) rfl rfl (fun K hK => ?_)
            have HST := Lib.hid hst
            clear hst
            go_simp
            refine hK.out _ _ ⟨HST.out.al18.kp.c, ⟨3, true, true, by decide, by simp only [Bool.toNat_true, Bool.toNat_false]; simp only [Bool.toNat_true, Bool.toNat_false] at hm; omega, by rfl, HST.out.al18⟩⟩
          exact all_nil
    case rest =>
      obtain ⟨gl, gh, rfl, rfl, HL, HH, HK⟩ := hcut
      have y0 := HK.out.1.cell 0
      have y1 := HK.out.1.cell 1
      have y2 := HK.out.1.cell 2
      have d0 := HK.out.2.1.cell 0
      have d1 := HK.out.2.1.cell 1
      have d2 := HK.out.2.1.cell 2
      have l0 := HL.out.cell 0
      have l1 := HL.out.cell 1
      have l2 := HL.out.cell 2
      have h0 := HH.out.cell 0
      have h1 := HH.out.cell 1
      have h2 := HH.out.cell 2
      simp at y0 y1 y2 d0 d1 d2 l0 l1 l2 h0 h1 h2
      have t9 : (DS.size : Int) - 1 = ((DS.size - 1 : Nat) : Int) := by omega
      have hix : DS.size - 1 < XS.size := by omega
      obtain ⟨tq0, tq1⟩ := parity_of HDG.out.1 HOD.out
      obtain ⟨hd1, hd2⟩ := HDG.out
      have hd3 : (48 : Int) ≤ ((XS[DS.size - 1]'hix).toNat : Int) := by omega
      have hab := HAB.out
      have hmi := HMI.out
      rcases HCase.out with ⟨rfl, rfl, hv⟩ | ⟨rfl, rfl, hnn, hv⟩
      · have HV := Lib.hid hv
        clear hv HOD HAB HMI HDG
        cases ab <;> cases mi <;> cases od
        · have hbh : bh = false := by simpa using HV.out
          subst hbh
          simp only [Bool.not_true, Bool.not_false] at tq0
          clear tq0 tq1
          have hmi2 : ¬ O.toList = [53] := by simpa using hmi
          go_wp2_with (simp only [t9])
          refine (HCh.out _).mono ?_
          rintro en v3 ⟨rfl, b3⟩
          have HB3 := Lib.hid (bthen HK.out.2.2 b3)
          clear b3
          go_wp2_with fail
          go_ret
          exact ⟨rfl, HB3.out⟩
        · have hbh : bh = false := by simpa using HV.out
          subst hbh
          simp only [Bool.not_true, Bool.not_false] at tq0
          clear tq0 tq1
          have hmi2 : ¬ O.toList = [53] := by simpa using hmi
          go_wp2_with (simp only [t9])
          refine (HCh.out _).mono ?_
          rintro en v3 ⟨rfl, b3⟩
          have HB3 := Lib.hid (bthen HK.out.2.2 b3)
          clear b3
          go_wp2_with fail
          go_ret
          exact ⟨rfl, HB3.out⟩
        · simp only [Bool.not_true, Bool.not_false] at tq0
          have hmi2 : O.toList = [53] := by simpa using hmi
          go_wp2_with (simp only [t9])
          go_ret
          exact ⟨rfl, HK.out.2.2⟩
        · have hbh : bh = false := by simpa using HV.out
          subst hbh
          simp only [Bool.not_true, Bool.not_false] at tq0
          have hmi2 : O.toList = [53] := by simpa using hmi
          go_wp2_with (simp only [t9])
          refine (HCh.out _).mono ?_
          rintro en v3 ⟨rfl, b3⟩
          have HB3 := Lib.hid (bthen HK.out.2.2 b3)
          clear b3
          go_wp2_with fail
          go_ret
          exact ⟨rfl, HB3.out⟩
        · simp only [Bool.not_true, Bool.not_false] at tq0
          clear tq0 tq1
          have hmi2 : ¬ O.toList = [53] := by simpa using hmi
          go_wp2_with (simp only [t9])
          go_ret
          exact ⟨rfl, HK.out.2.2⟩
        · simp only [Bool.not_true, Bool.not_false] at tq0
          clear tq0 tq1
          have hmi2 : ¬ O.toList = [53] := by simpa using hmi
          go_wp2_with (simp only [t9])
          go_ret
          exact ⟨rfl, HK.out.2.2⟩
        · rw [beq_iff_eq] at hmi
          rw [hmi] at hab
          exact absurd hab (by decide)
        · rw [beq_iff_eq] at hmi
          rw [hmi] at hab
          exact absurd hab (by decide)
      · have HV := Lib.hid hv
        have hnn' : ¬ (HS.toList = LS.toList ∧ he = le) := fun e => hnn ⟨ByteArray.ext (by rw [← Array.toList_inj, ← ByteArray.toList_eq, ← ByteArray.toList_eq]; exact e.1.symm), e.2.symm⟩
        clear hv hnn HOD HAB HMI HDG
        by_cases hle2 : HS.toList = LS.toList
        · have hne2 : ¬ he = le := fun e => hnn' ⟨hle2, e⟩
          clear hnn'
          cases ab <;> cases mi <;> cases od
          · simp only [Bool.not_true, Bool.not_false] at tq0
            clear tq0 tq1
            have hmi2 : ¬ O.toList = [53] := by simpa using hmi
            go_wp2_with (simp only [t9])
            go_ret
            exact ⟨rfl, HK.out.2.2⟩
          · simp only [Bool.not_true, Bool.not_false] at tq0
            clear tq0 tq1
            have hmi2 : ¬ O.toList = [53] := by simpa using hmi
            go_wp2_with (simp only [t9])
            go_ret
            exact ⟨rfl, HK.out.2.2⟩
          · have hbl : bl = false := by simpa using HV.out
            subst hbl
            simp only [Bool.not_true, Bool.not_false] at tq0
            have hmi2 : O.toList = [53] := by simpa using hmi
            go_wp2_with (simp only [t9])
            refine (HCl.out _).mono ?_
            rintro en v3 ⟨rfl, b3⟩
            have HB3 := Lib.hid (bthen HK.out.2.2 b3)
            clear b3
            go_wp2_with fail
            go_ret
            exact ⟨rfl, HB3.out⟩
          · simp only [Bool.not_true, Bool.not_false] at tq0
            have hmi2 : O.toList = [53] := by simpa using hmi
            go_wp2_with (simp only [t9])
            go_ret
            exact ⟨rfl, HK.out.2.2⟩
          · have hbl : bl = false := by simpa using HV.out
            subst hbl
            simp only [Bool.not_true, Bool.not_false] at tq0
            clear tq0 tq1
            have hmi2 : ¬ O.toList = [53] := by simpa using hmi
            go_wp2_with (simp only [t9])
            refine (HCl.out _).mono ?_
            rintro en v3 ⟨rfl, b3⟩
            have HB3 := Lib.hid (bthen HK.out.2.2 b3)
            clear b3
            go_wp2_with fail
            go_ret
            exact ⟨rfl, HB3.out⟩
          · have hbl : bl = false := by simpa using HV.out
            subst hbl
            simp only [Bool.not_true, Bool.not_false] at tq0
            clear tq0 tq1
            have hmi2 : ¬ O.toList = [53] := by simpa using hmi
            go_wp2_with (simp only [t9])
            refine (HCl.out _).mono ?_
            rintro en v3 ⟨rfl, b3⟩
            have HB3 := Lib.hid (bthen HK.out.2.2 b3)
            clear b3
            go_wp2_with fail
            go_ret
            exact ⟨rfl, HB3.out⟩
          · rw [beq_iff_eq] at hmi
            rw [hmi] at hab
            exact absurd hab (by decide)
          · rw [beq_iff_eq] at hmi
            rw [hmi] at hab
            exact absurd hab (by decide)
        · clear hnn'
          cases ab <;> cases mi <;> cases od
          · simp only [Bool.not_true, Bool.not_false] at tq0
            clear tq0 tq1
            have hmi2 : ¬ O.toList = [53] := by simpa using hmi
            go_wp2_with (simp only [t9])
            go_ret
            exact ⟨rfl, HK.out.2.2⟩
          · simp only [Bool.not_true, Bool.not_false] at tq0
            clear tq0 tq1
            have hmi2 : ¬ O.toList = [53] := by simpa using hmi
            go_wp2_with (simp only [t9])
            go_ret
            exact ⟨rfl, HK.out.2.2⟩
          · have hbl : bl = false := by simpa using HV.out
            subst hbl
            simp only [Bool.not_true, Bool.not_false] at tq0
            have hmi2 : O.toList = [53] := by simpa using hmi
            go_wp2_with (simp only [t9])
            refine (HCl.out _).mono ?_
            rintro en v3 ⟨rfl, b3⟩
            have HB3 := Lib.hid (bthen HK.out.2.2 b3)
            clear b3
            go_wp2_with fail
            go_ret
            exact ⟨rfl, HB3.out⟩
          · simp only [Bool.not_true, Bool.not_false] at tq0
            have hmi2 : O.toList = [53] := by simpa using hmi
            go_wp2_with (simp only [t9])
            go_ret
            exact ⟨rfl, HK.out.2.2⟩
          · have hbl : bl = false := by simpa using HV.out
            subst hbl
            simp only [Bool.not_true, Bool.not_false] at tq0
            clear tq0 tq1
            have hmi2 : ¬ O.toList = [53] := by simpa using hmi
            go_wp2_with (simp only [t9])
            refine (HCl.out _).mono ?_
            rintro en v3 ⟨rfl, b3⟩
            have HB3 := Lib.hid (bthen HK.out.2.2 b3)
            clear b3
            go_wp2_with fail
            go_ret
            exact ⟨rfl, HB3.out⟩
          · have hbl : bl = false := by simpa using HV.out
            subst hbl
            simp only [Bool.not_true, Bool.not_false] at tq0
            clear tq0 tq1
            have hmi2 : ¬ O.toList = [53] := by simpa using hmi
            go_wp2_with (simp only [t9])
            refine (HCl.out _).mono ?_
            rintro en v3 ⟨rfl, b3⟩
            have HB3 := Lib.hid (bthen HK.out.2.2 b3)
            clear b3
            go_wp2_with fail
            go_ret
            exact ⟨rfl, HB3.out⟩
          · rw [beq_iff_eq] at hmi
            rw [hmi] at hab
            exact absurd hab (by decide)
          · rw [beq_iff_eq] at hmi
            rw [hmi] at hab
            exact absurd hab (by decide)
end Go.Proofs.YtabmalnandbocaaGreatDoor.Num
namespace Go.Proofs.YtabmalnandbocaaGreatDoor.Num
set_option exponentiation.threshold 3000
set_option linter.unusedVariables false
set_option linter.unusedSimpArgs false
set_option exponentiation.threshold 3000
open Go.RowKit Go.Proofs.YtabmalnandbocaaGreatDoor.Mem Go.Proofs.YtabmalnandbocaaGreatDoor.Own Go.Proofs.YtabmalnandbocaaGreatDoor.Big Go.Proofs.YtabmalnandbocaaGreatDoor.Str
open Ieee (double single)
theorem eql_cb : ∀ l m : List UInt8, (l == m) = decide (Lib.compareBytes l m = 0) := by
  intro l
  induction l with
  | nil => intro m; cases m <;> rfl
  | cons a l ih =>
    intro m
    cases m with
    | nil => rfl
    | cons b m =>
      unfold Lib.compareBytes
      by_cases h1 : a < b
      · have hne : a ≠ b := fun e => by rw [e] at h1; exact absurd h1 (UInt8.lt_irrefl b)
        simp [h1, hne]
      · by_cases h2 : b < a
        · have hne : a ≠ b := fun e => by rw [e] at h2; exact absurd h2 (UInt8.lt_irrefl b)
          simp [h1, h2, hne]
        · have hab : a = b := UInt8.le_antisymm (UInt8.not_lt.1 h2) (UInt8.not_lt.1 h1)
          subst hab
          simp only [h1, if_false, List.cons_beq_cons, beq_self_eq_true, Bool.true_and]
          exact ih m
theorem nr_is {l : List UInt8} (h : Canon l) {n : Nat} (h1 : 1 ≤ n) (h2 : n < l.length) :
    nrF l n = ((!Op.bytesLess (l.drop n) [53] && !(l.drop n == [53])) || ((l.drop n == [53]) && decide ((l[n - 1]'(by omega)).toNat % 2 = 1))) := by
  rw [nr_cmp h h1 h2, eql_cb, ← Bool.not_or, ← eql_cb, gtr_cb, eql_cb]
  rcases cb_bd (l.drop n) [53] with e | e | e <;> rw [e] <;> rfl
theorem td_is {w : World} {neg : Bool} {N : Nat} {X : Int} {l : List UInt8} {e : Int} {f : Nat} {args : Array Value} (h : Calls Tryz.prog f args w (TdPost w neg N X)) (hl : l = tl N) (he : e = te N X) : Calls Tryz.prog f args w (AgPost w (.agg #[.bool neg, .string ⟨l.toArray⟩, .int .i64 e])) := by
  subst hl he
  refine h.mono fun en w' hh => ?_
  obtain ⟨rfl, hb⟩ := hh
  exact ⟨rfl, hb⟩
theorem fewest_w (s : Bool) (k : Nat) (w : World) (hk : k < double.infRung) (h0 : 0 < k) :
    Calls Tryz.prog 12 #[.int .u64 ((double.word s k : Nat) : Int)] w (LwPost w) := by
  obtain ⟨q1, q2, q3, q4⟩ := fewest_law hk h0
  have hc : Canon (exL k) := told_canon _
  obtain ⟨b1, b2, b3⟩ := ex_bounds hk
  have hxs : (⟨(exL k).toArray⟩ : ByteArray).size = (exL k).length := by simp [ByteArray.size]
  have hds : (⟨(dL k).toArray⟩ : ByteArray).size = (dL k).length := by simp [ByteArray.size]
  have hd0 : 0 < (dL k).length := List.length_pos_iff.2 q1
  have hne : (FloatKind.f64.format.order (double.word s k) 0 == some .eq) = false := by
    have h1 := (ord_zero (s := s) hk (o := compare (Rung.sgn s k) 0) rfl).eq
    rw [h1]
    cases s
    · rw [cmp_gt (by unfold Rung.sgn; simp; exact h0)]; rfl
    · rw [cmp_lt (by unfold Rung.sgn; simp; omega)]; rfl
  have hF := fun W => finite_yes s k W hk
  have hX : ∀ W, Calls Tryz.prog 24 #[.float .f64 (double.word s k)] W (AgPost W (.tuple #[.agg #[.bool s, .string ⟨(exL k).toArray⟩, .int .i64 (exE k)], .int .i64 0])) := fun W => exw_w s k W hk
  have hD : ∀ W, Calls Tryz.prog 13 #[.float .f64 (double.word s k)] W (AgPost W (.tuple #[.agg #[.bool s, .string ⟨(dL k).toArray⟩, .int .i64 (dE k)], .int .i64 0])) := fun W => digits_yes s k W hk
  by_cases hle : (exL k).length ≤ (dL k).length
  · obtain ⟨e1, e2⟩ := q3 hle
    rw [e1, e2] at hD
    rw [e1] at hd0 q2
    exact fewest_all _ s ⟨(exL k).toArray⟩ (exE k) w (by omega) (by omega) (by omega) hne hF hX hD
  · have hlt : (dL k).length < (exL k).length := by omega
    obtain ⟨q5, u, q6, q7, q8⟩ := q4 hlt
    obtain ⟨n, hn⟩ : ∃ n, n = (dL k).length := ⟨_, rfl⟩
    obtain ⟨L, hL⟩ : ∃ L, L = exL k := ⟨_, rfl⟩
    have hlist : (⟨L.toArray⟩ : ByteArray).data.toList = L := rfl
    obtain ⟨P1, r1, l1, z1⟩ := sl_to ⟨L.toArray⟩ ((n : Int) - 1) (n - 1) (by omega) (by simp [ByteArray.size]; rw [hL]; omega)
    obtain rfl := str_of l1
    obtain ⟨P2, r2, l2, z2⟩ := sl_to ⟨L.toArray⟩ (n : Int) n rfl (by simp [ByteArray.size]; rw [hL]; omega)
    obtain rfl := str_of l2
    obtain ⟨O, r3, l3, z3⟩ := sl_from ⟨L.toArray⟩ (n : Int) n rfl (by simp [ByteArray.size]; rw [hL]; omega)
    obtain rfl := str_of l3
    rw [hlist] at r1 r2 r3
    have hdL : isDigs L := by rw [hL]; exact hc.digs
    have hs1 : ∀ m, isDigs ((⟨(L.take m).toArray⟩ : ByteArray).data.toList) := fun m c hc => hdL c (List.mem_of_mem_take hc)
    have hzz : ∀ l : List UInt8, l.length ≤ 4000 → (⟨l.toArray⟩ : ByteArray).size < 140737488355327 := fun l h => by
      have : (⟨l.toArray⟩ : ByteArray).size = l.length := by simp [ByteArray.size]
      omega
    have hLl : L.length ≤ 3000 := by rw [hL]; exact b1
    have htk : ∀ m, (L.take m).length ≤ 3000 := fun m => by rw [List.length_take]; omega
    have cN0 : ∀ m, cN L m false = dval (L.take m) := fun m => rfl
    have cN1 : ∀ m, cN L m true = dval (L.take m) + 1 := fun m => rfl
    have hT : ∀ (m : Nat) (X : Int), m ≤ L.length → X = exE k + ((L.length - m : Nat) : Int) → ∀ W, Calls Tryz.prog 26 #[.bool s, .string ⟨(L.take m).toArray⟩, .int .i64 X] W (AgPost W (.agg #[.bool s, .string ⟨(cL L m false).toArray⟩, .int .i64 (cE L (exE k) m false)])) := fun m X hm hX W => by
      refine td_is (tidy_w s ⟨(L.take m).toArray⟩ X W (hs1 m) (by have := hzz _ (Nat.le_trans (htk m) (by decide)); omega) (by omega) (by omega)) ?_ ?_
      · unfold cL; rw [cN0]
      · unfold cE; rw [cN0, hX]
    have hQ : ∀ m, ∀ W, Calls Tryz.prog 27 #[.string ⟨(L.take m).toArray⟩] W (PlPost W (fun Lp => isDigs Lp ∧ dval Lp = dval (L.take m) + 1 ∧ Lp.length ≤ 4000)) := fun m W => by
      refine (lplus_w ⟨(L.take m).toArray⟩ W (hs1 m) (hzz _ (Nat.le_trans (htk m) (by decide)))).mono fun en w' hh => ?_
      obtain ⟨Lp, rfl, a1, a2, a3, a4, a5⟩ := hh
      refine ⟨Lp, rfl, ⟨a1, a2, ?_⟩, a5⟩
      have := htk m
      have a3' : Lp.length ≤ (L.take m).length + 1 := a3
      omega
    have hT' : ∀ (m : Nat) (X : Int), m ≤ L.length → X = exE k + ((L.length - m : Nat) : Int) → ∀ (Lp : List UInt8) W, (isDigs Lp ∧ dval Lp = dval (L.take m) + 1 ∧ Lp.length ≤ 4000) → Calls Tryz.prog 26 #[.bool s, .string ⟨Lp.toArray⟩, .int .i64 X] W (AgPost W (.agg #[.bool s, .string ⟨(cL L m true).toArray⟩, .int .i64 (cE L (exE k) m true)])) := fun m X hm hX Lp W hG => by
      refine td_is (tidy_w s ⟨Lp.toArray⟩ X W hG.1 (by have := hzz _ hG.2.2; omega) (by omega) (by omega)) ?_ ?_
      · unfold cL; rw [cN1]; exact (congrArg tl hG.2.1).symm
      · unfold cE; rw [cN1, hX]; exact (congrArg (fun N => te N _) hG.2.1).symm
    have hC : ∀ m v, 1 ≤ m → m < L.length → ∀ W, Calls Tryz.prog 25 #[.agg #[.bool s, .string ⟨(cL L m v).toArray⟩, .int .i64 (cE L (exE k) m v)], .int .u64 ((double.word s k : Nat) : Int)] W (BlPost W (okF k m v)) := fun m v h1 h2 W => by
      obtain ⟨f1, f2⟩ := cand_form hk h1 (by rw [← hL]; exact h2) v
      rw [← hL] at f1 f2
      have := lcomes_w s k (cL L m v) (cE L (exE k) m v) W hk f1 (by omega)
      unfold okF
      rw [← hL]
      exact this
    have hds' : (⟨(dL k).toArray⟩ : ByteArray).size = n := by rw [hds, hn]
    have hxs' : (⟨L.toArray⟩ : ByteArray).size = L.length := by simp [ByteArray.size]
    rw [← hL] at hX b1 hlt hxs
    rw [← hn] at hlt hd0 q2
    have hnn := nr_is (l := L) (by rw [hL]; exact hc) (n := n) hd0 hlt
    have hix : n - 1 < (⟨L.toArray⟩ : ByteArray).size := by omega
    have hget : (⟨L.toArray⟩ : ByteArray)[n - 1]'hix = L[n - 1]'(by omega) := rfl
    have hOl : (⟨(L.drop n).toArray⟩ : ByteArray).toList = L.drop n := by rw [ByteArray.toList_eq]
    refine fewest_some (double.word s k) s ⟨L.toArray⟩ ⟨(dL k).toArray⟩ (exE k) (dE k) w (by omega) (by omega) (by omega) (by omega) hne hF hX hD (by omega)
      ⟨(L.take (n - 1)).toArray⟩ ⟨(L.take n).toArray⟩ (fun Lp => isDigs Lp ∧ dval Lp = dval (L.take (n - 1)) + 1 ∧ Lp.length ≤ 4000) (fun Lp => isDigs Lp ∧ dval Lp = dval (L.take n) + 1 ∧ Lp.length ≤ 4000)
      #[.bool s, .string ⟨(cL L (n - 1) false).toArray⟩, .int .i64 (cE L (exE k) (n - 1) false)] #[.bool s, .string ⟨(cL L (n - 1) true).toArray⟩, .int .i64 (cE L (exE k) (n - 1) true)]
      ⟨(cL L n false).toArray⟩ ⟨(cL L n true).toArray⟩ (cE L (exE k) n false) (cE L (exE k) n true) (okF k n false) (okF k n true) ⟨(L.drop n).toArray⟩ (Op.bytesLess (L.drop n) [53]) (L.drop n == [53])
      (fun h W => by rw [hds']; exact r1 W) (hT (n - 1) _ (by omega) (by rw [hxs', hds']; omega)) (hQ (n - 1)) (hT' (n - 1) _ (by omega) (by rw [hxs', hds']; omega))
      (fun h W => ?_) (fun h W => ?_) (fun W => by rw [hds']; exact r2 W) (hT n _ (by omega) (by rw [hxs', hds']; omega)) (fun W => by rw [hds']; exact r3 W) (hQ n) (hT' n _ (by omega) (by rw [hxs', hds']; omega))
      (by rw [hOl]) (by rw [hOl]) (decide ((L[n - 1]'(by omega)).toNat % 2 = 1)) ?_ ?_ (hC n false hd0 hlt) (hC n true hd0 hlt) ?_
    · rw [hds'] at h
      have := hC (n - 1) false (by omega) (by omega) W
      rw [hn, q5 false (by rw [← hn]; exact h), ← hn] at this
      exact this
    · rw [hds'] at h
      have := hC (n - 1) true (by omega) (by omega) W
      rw [hn, q5 true (by rw [← hn]; exact h), ← hn] at this
      exact this
    · simp only [hds']
      rw [hget]
      exact hdL _ (List.getElem_mem _)
    · simp only [hds']
      rw [hget]
    · rw [← hL, ← hn] at q6 q7 q8
      have hstr : ∀ v, dL k = cL L n v → (⟨(cL L n v).toArray⟩ : ByteArray) = ⟨(dL k).toArray⟩ := fun v h => by rw [h]
      rw [← hnn]
      cases u
      · refine .inl ⟨hstr false q6, q7.symm, ?_⟩
        rcases q8 with q8 | q8
        · exact .inl q8.symm
        · exact .inr q8
      · refine .inr ⟨hstr true q6, q7.symm, ?_, ?_⟩
        · rintro ⟨e1, e2⟩
          have e3 : cL L n false = dL k := by
            have := congrArg (fun b : ByteArray => b.data.toList) e1
            exact this
          exact cand_ne L (exE k) n ⟨q6.symm.trans e3.symm, q7.symm.trans e2.symm⟩
        · rcases q8 with q8 | q8
          · exact .inl q8.symm
          · exact .inr q8
end Go.Proofs.YtabmalnandbocaaGreatDoor.Num
namespace Go.Proofs.YtabmalnandbocaaGreatDoor.Num
set_option exponentiation.threshold 3000
set_option linter.unusedVariables false
set_option linter.unusedSimpArgs false
set_option exponentiation.threshold 3000
open Go.RowKit Go.Proofs.YtabmalnandbocaaGreatDoor.Mem Go.Proofs.YtabmalnandbocaaGreatDoor.Own Go.Proofs.YtabmalnandbocaaGreatDoor.Big Go.Proofs.YtabmalnandbocaaGreatDoor.Str
open Ieee (double single)
set_option maxHeartbeats 4000000 in
set_option maxRecDepth 1000000 in
theorem fewest_no (x : Nat) (w : World)
    (hF : ∀ W, Calls Tryz.prog 14 #[.float .f64 x] W fun e w' => e = .returned (.bool false) ∧ W = w') :
    Calls Tryz.prog 12 #[.int .u64 (x : Nat)] w (LwPost w) := by
  have hfb := frombits_run x
  have HF := Lib.hid hF
  clear hF
  go_enter Tryz.func12, Tryz.ntmps12
  go_wp2_with fail
  refine (HF.out _).mono ?_
  rintro en wf ⟨rfl, hwf⟩
  subst hwf
  go_wp2_with fail
  go_ret
  exact ⟨rfl, Below.refl _ _⟩
set_option maxHeartbeats 4000000 in
set_option maxRecDepth 1000000 in
theorem fewest_nought (x : Nat) (w : World) (hne : (FloatKind.f64.format.order x 0 == some .eq) = true)
    (hF : ∀ W, Calls Tryz.prog 14 #[.float .f64 x] W fun e w' => e = .returned (.bool true) ∧ W = w') :
    Calls Tryz.prog 12 #[.int .u64 (x : Nat)] w (LwPost w) := by
  have hfb := frombits_run x
  have HF := Lib.hid hF
  clear hF
  go_enter Tryz.func12, Tryz.ntmps12
  go_wp2_with fail
  refine (HF.out _).mono ?_
  rintro en wf ⟨rfl, hwf⟩
  subst hwf
  go_wp2_with fail
  go_ret
  exact ⟨rfl, Below.refl _ _⟩
theorem fewest_x (x : Nat) (w : World) (hx : x < 18446744073709551616) : Calls Tryz.prog 12 #[.int .u64 (x : Nat)] w (LwPost w) := by
  obtain ⟨s, n, hn, rfl⟩ := Rung.word_of (f := double) (x := x) (Nat.lt_of_lt_of_le hx (by decide))
  by_cases h : n < double.infRung
  · by_cases h0 : n = 0
    · subst h0
      refine fewest_nought _ w ?_ (fun W => finite_yes s 0 W h)
      have h1 := (ord_zero (s := s) h (o := .eq) (cmp_eq (by cases s <;> rfl))).eq
      rw [h1]; rfl
    · exact fewest_w s n w h (by omega)
  · exact fewest_no _ w (fun W => finite_no s n W (by omega) hn)
theorem shortestFewest_w (x : Nat) (w : World) (hx : x < 18446744073709551616) (ht : Tens w) : Calls Tryz.prog 4 #[.int .u64 (x : Nat)] w (LwPost w) := by
  have H0 := Lib.hid (awake_w w ht)
  have H1 := Lib.hid (fun W => fewest_x x W hx)
  clear ht
  go_enter Tryz.func4, Tryz.ntmps4
  go_wp2_with fail
  refine H0.out.mono ?_
  rintro en w1 ⟨rfl, b1⟩
  have B1 := Lib.hid b1
  clear b1
  go_wp2_with fail
  refine (H1.out _).mono ?_
  rintro en w2 ⟨rfl, b2⟩
  have B2 := Lib.hid (bthen B1.out b2)
  clear b2
  go_wp2_with fail
  go_ret
  exact ⟨rfl, B2.out⟩
set_option maxHeartbeats 4000000 in
theorem shortestPowers_w (w : World) (ht : Tens w) : Calls Tryz.prog 5 #[] w (LwPost w) := by
  have HT := Lib.hid ht
  clear ht
  go_enter Tryz.func5, Tryz.ntmps5
  go_wp2_with fail
  go_loopw [1] (fun i wl => ∃ k : Nat, k ≤ 52 ∧ i = .int .i64 (k : Nat) ∧ Hid (Below w.heap.size w wl)) (fun i _ => 52 - (intOf i).toNat)
  case atStart => exact ⟨0, by decide, rfl, Lib.hid (Below.refl _ _)⟩
  case round =>
    obtain ⟨k, hk, rfl, HB⟩ := hrel
    by_cases hlt : k < 52
    · have t1 : decide ((k : Int) < 52) = true := decide_eq_true (by omega)
      have hp : 2 ^ k < 18446744073709551616 := by have := Nat.pow_lt_pow_right (a := 2) (by decide) hlt; omega
      have hw : IntKind.u64.wrap ((2 : Int) ^ k) = ((2 ^ k : Nat) : Int) := by
        rw [show ((2 : Int) ^ k) = ((2 ^ k : Nat) : Int) by simp]
        have h0 : (0 : Int) ≤ ((2 ^ k : Nat) : Int) := Int.natCast_nonneg _
        generalize 2 ^ k = z at hp h0 ⊢
        exact IntWalk.u64_in _ (by omega)
      have HF := Lib.hid (fun W => (show Calls Tryz.prog 12 #[.int .u64 (IntKind.u64.wrap ((2 : Int) ^ k))] W (LwPost W) by rw [hw]; exact fewest_x (2 ^ k) W hp))
      clear hw hp
      go_wp2_with fail
      refine (HF.out _).mono ?_
      rintro en w1 ⟨rfl, b1⟩
      have HB1 := Lib.hid (bthen HB.out b1)
      clear b1
      go_wp2_with fail
      go_roundw
      case rel => exact ⟨k + 1, by omega, by go_num, HB1⟩
      case measure => simp [intOf]; omega
    · have t1 : decide ((k : Int) < 52) = false := decide_eq_false (by omega)
      have B0 := HB
      clear hlt hk
      go_wp2_with fail
      go_loopw [2] (fun i wl => ∃ k : Nat, 1 ≤ k ∧ k ≤ 2047 ∧ i = .int .u64 (k : Nat) ∧ Hid (Below w.heap.size w wl)) (fun i _ => 2047 - (intOf i).toNat)
      case atStart => exact ⟨1, by decide, by decide, rfl, B0⟩
      case round =>
        obtain ⟨j, hk1, hk, rfl, HB⟩ := hrel
        by_cases hlt : j < 2047
        · have t1 : decide ((j : Int) < 2047) = true := decide_eq_true (by omega)
          have HF := Lib.hid (fun W => (show Calls Tryz.prog 12 #[.int .u64 ((j : Int) * 4503599627370496)] W (LwPost W) from fewest_x (j * 4503599627370496) W (by omega)))
          go_wp2_with fail
          refine (HF.out _).mono ?_
          rintro en w1 ⟨rfl, b1⟩
          have HB1 := Lib.hid (bthen HB.out b1)
          clear b1
          go_wp2_with fail
          go_roundw
          case rel => exact ⟨j + 1, by omega, by omega, by go_num, HB1⟩
          case measure => simp [intOf]; omega
        · have t1 : decide ((j : Int) < 2047) = false := decide_eq_false (by omega)
          go_wp2_with fail
          refine (awake_w _ (HT.out.below HB.out)).mono ?_
          rintro en w2 ⟨rfl, b2⟩
          have B2 := Lib.hid (bthen HB.out b2)
          clear b2
          go_wp2_with fail
          go_ret
          exact ⟨rfl, B2.out⟩
end Go.Proofs.YtabmalnandbocaaGreatDoor.Num
