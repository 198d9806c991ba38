/- The walks of awake and learns. -/
import Derived.Test.YtcgfkmjlgblkcaaPatX
namespace Go.Proofs.Ytcgfkmjlgblkcaa.Pat
set_option linter.unusedVariables false
set_option linter.unusedSimpArgs false
open Go.RowKit Go.Proofs.Ytcgfkmjlgblkcaa.Mem Go.Proofs.Ytcgfkmjlgblkcaa.Own

theorem touch_below {w w1 w2 : World} {p : Nat} {F : Nat → Prop} {room : Int} {R : List Rec} {a : Int} (h : PatS w1 w.heap.size p F room R a) (hb : Below w.heap.size w w1) (ht : Touch F w1 w2) : Below w.heap.size w w2 :=
  hb.trans (ht.below (fun b hb' => (h.lt hb').2) hb.size)
theorem recs_nil (w : World) : RecsAt w none [] := ⟨fun i hi => absurd hi (by simp)⟩
def sA : ByteArray := ⟨#[97]⟩
def sB : ByteArray := ⟨#[98]⟩
def sC : ByteArray := ⟨#[99]⟩
def sS : ByteArray := ⟨#[47]⟩
def sX : ByteArray := ⟨#[120]⟩
theorem allF_two (x y : Rec) (h : y.hits ≤ x.hits) : allF [x, y] = [x, y] := by
  simp [allF, srt, List.merge, leR, h]
theorem awake_learns : learnF 2 (learnF 2 (learnF 2 (learnF 2 [] ⟨#[47]⟩ ⟨#[97]⟩ 3) ⟨#[47]⟩ ⟨#[98]⟩ 0) ⟨#[47]⟩ ⟨#[98]⟩ 0) ⟨#[120]⟩ ⟨#[99]⟩ 7 = [⟨⟨#[47]⟩, ⟨#[98]⟩, 0, 2⟩, ⟨⟨#[120]⟩, ⟨#[99]⟩, 7, 1⟩] := by
  kernel_rfl
theorem awake_list : allF (learnF 2 (learnF 2 (learnF 2 (learnF 2 [] ⟨#[47]⟩ ⟨#[97]⟩ 3) ⟨#[47]⟩ ⟨#[98]⟩ 0) ⟨#[47]⟩ ⟨#[98]⟩ 0) ⟨#[120]⟩ ⟨#[99]⟩ 7) = [⟨⟨#[47]⟩, ⟨#[98]⟩, 0, 2⟩, ⟨⟨#[120]⟩, ⟨#[99]⟩, 7, 1⟩] := by
  rw [awake_learns]
  exact allF_two _ _ (by simp)
/-- A list written out lies where it is built. -/
theorem recs_two (w : World) (x y : Rec) : RecsAt (w.alloc (.cells #[.string x.route, .string x.name, .int .i64 x.place, .int .i64 x.hits, .string y.route, .string y.name, .int .i64 y.place, .int .i64 y.hits] 31)) (some ⟨w.heap.size, 0, none⟩) [x, y] := by
  have hb := Blk.new w 31 #[.string x.route, .string x.name, .int .i64 x.place, .int .i64 x.hits, .string y.route, .string y.name, .int .i64 y.place, .int .i64 y.hits]
  refine ⟨fun i hi => ?_⟩
  match i, hi with
  | 0, _ => exact ⟨_, _, rfl, by simp, Blk.cell hb 0, Blk.cell hb 1, Blk.cell hb 2, Blk.cell hb 3⟩
  | 1, _ => exact ⟨_, _, rfl, by simp, Blk.cell hb 4, Blk.cell hb 5, Blk.cell hb 6, Blk.cell hb 7⟩
  | i + 2, hi => exact absurd hi (by simp)
def AwakePost (w : World) (e : Ending) (w' : World) : Prop := e = .returned (.bool true) ∧ Below w.heap.size w w'
theorem ok_nil (room : Int) : OkR room [] := ⟨.inr rfl, by simp, by simp⟩
theorem str_small (a : Array UInt8) (h : a.size ≤ 100) : (ByteArray.mk a).size ≤ maxLen := by show a.size ≤ _; unfold maxLen; omega
set_option maxHeartbeats 4000000 in
set_option maxRecDepth 100000 in
theorem awake_w (w : World) : Calls Try.prog 8 #[] w (AwakePost w) := by
  have HN := Lib.hid (new_s 2 none 0 0 [] w (by omega) (by omega) rfl (by omega) (recs_nil w) (by simp) (ok_nil 2))
  have HL := Lib.hid learn_s
  have HAL := Lib.hid all_s
  have HSM := Lib.hid same_yes
  go_enter Try.func8, Try.ntmps8
  go_wp2_with fail
  refine HN.out.mono ?_; rintro e w1 ⟨p, F1, rfl, h1, hb1⟩
  have hz1 := hb1.size
  go_wp2_with fail
  refine (HL.out w1 w.heap.size p F1 2 _ _ ⟨#[47]⟩ ⟨#[97]⟩ 3 h1 hz1 (by simp) (str_small _ (by simp)) (str_small _ (by simp)) (by omega)).mono ?_
  rintro e w2 ⟨rfl, F2, h2, hF2, t2⟩
  have hb2 := touch_below h1 hb1 t2
  have hz2 := hb2.size
  go_wp2_with fail
  refine (HL.out w2 w.heap.size p F2 2 _ _ ⟨#[47]⟩ ⟨#[98]⟩ 0 h2 hz2 (by simp) (str_small _ (by simp)) (str_small _ (by simp)) (by omega)).mono ?_
  rintro e w3 ⟨rfl, F3, h3, hF3, t3⟩
  have hb3 := touch_below h2 hb2 t3
  have hz3 := hb3.size
  go_wp2_with fail
  refine (HL.out w3 w.heap.size p F3 2 _ _ ⟨#[47]⟩ ⟨#[98]⟩ 0 h3 hz3 (by simp) (str_small _ (by simp)) (str_small _ (by simp)) (by omega)).mono ?_
  rintro e w4 ⟨rfl, F4, h4, hF4, t4⟩
  have hb4 := touch_below h3 hb3 t4
  have hz4 := hb4.size
  go_wp2_with fail
  refine (HL.out w4 w.heap.size p F4 2 _ _ ⟨#[120]⟩ ⟨#[99]⟩ 7 h4 hz4 (by simp) (str_small _ (by simp)) (str_small _ (by simp)) (by omega)).mono ?_
  rintro e w5 ⟨rfl, F5, h5, hF5, t5⟩
  have hb5 := touch_below h4 hb4 t5
  have hz5 := hb5.size
  go_wp2_with fail
  refine (HAL.out w5 w.heap.size p F5 2 _ _ h5).mono ?_
  rintro e w6 ⟨v6, rfl, hrow, hb6⟩
  rw [awake_list] at hrow
  obtain ⟨a0, cap, rfl, hrec, -⟩ := hrow.form
  have hb26 := hb5.trans (hb6.mono hz5)
  have hz6 := hb26.size
  have HREC := Lib.hid hrec
  clear hrec hrow
  go_wp2_with fail
  have hr2 := recs_two w6 ⟨⟨#[47]⟩, ⟨#[98]⟩, 0, 2⟩ ⟨⟨#[120]⟩, ⟨#[99]⟩, 7, 1⟩
  have hr1 := HREC.out.below ((Below.refl _ w6).alloc (Nat.le_refl _) (.cells #[.string ⟨#[47]⟩, .string ⟨#[98]⟩, .int .i64 0, .int .i64 2, .string ⟨#[120]⟩, .string ⟨#[99]⟩, .int .i64 7, .int .i64 1] 31))
  refine (HSM.out _ _ _ _ 2 _ _ rfl (by omega) hr1 hr2).mono ?_
  rintro e w7 ⟨rfl, q, rfl⟩
  clear hr1 hr2
  go_wp2_with fail
  go_ret
  exact ⟨rfl, bdrewN (hb26.alloc hz6 _) _⟩
/-- A call on a pattern, as the laws' scripts have them. -/
structure OpR where
  on : Int
  kind : Int
  route : ByteArray
  name : ByteArray
  place : Int
instance : Inhabited OpR := ⟨⟨0, 0, .empty, .empty, 0⟩⟩
def oa (R : List OpR) (i : Nat) : OpR := R.getD i default
theorem oa_get (R : List OpR) (j : Nat) (h : j < R.length) : R[j]? = some (oa R j) := by
  unfold oa
  rw [List.getD_eq_getElem?_getD, List.getElem?_eq_getElem h]; rfl
theorem oa_mem {R : List OpR} {j : Nat} (h : j < R.length) : oa R j ∈ R := List.mem_of_getElem? (oa_get R j h)
def oWf (x : OpR) : Prop := x.route.size ≤ maxLen ∧ x.name.size ≤ maxLen ∧ -9223372036854775808 ≤ x.place ∧ x.place ≤ 9223372036854775807
structure OpsAt (w : World) (a0 : Option Addr) (R : List OpR) : Prop where
  at_ : ∀ i, i < R.length → ∃ b off, a0 = some ⟨b, off, none⟩ ∧ b < w.heap.size ∧ w.cell? ⟨b, off + i * 5, none⟩ = some (.int .i64 (oa R i).on) ∧ w.cell? ⟨b, off + i * 5 + 1, none⟩ = some (.int .i64 (oa R i).kind) ∧
    w.cell? ⟨b, off + i * 5 + 2, none⟩ = some (.string (oa R i).route) ∧ w.cell? ⟨b, off + i * 5 + 3, none⟩ = some (.string (oa R i).name) ∧ w.cell? ⟨b, off + i * 5 + 4, none⟩ = some (.int .i64 (oa R i).place)
theorem OpsAt.below {w w' : World} {a0 : Option Addr} {R : List OpR} (h : OpsAt w a0 R) (hb : Below w.heap.size w w') : OpsAt w' a0 R := by
  refine ⟨fun i hi => ?_⟩
  obtain ⟨b, off, rfl, hlt, h0, h1, h2, h3, h4⟩ := h.at_ i hi
  exact ⟨b, off, rfl, Nat.lt_of_lt_of_le hlt hb.size, (hb.cell (p := ⟨b, _, none⟩) hlt).trans h0, (hb.cell (p := ⟨b, _, none⟩) hlt).trans h1, (hb.cell (p := ⟨b, _, none⟩) hlt).trans h2, (hb.cell (p := ⟨b, _, none⟩) hlt).trans h3, (hb.cell (p := ⟨b, _, none⟩) hlt).trans h4⟩
def learnAll (room : Int) (R : List Rec) (ops : List OpR) : List Rec := ops.foldl (fun R o => learnF room R o.route o.name o.place) R
theorem learnAll_snoc (room : Int) (R : List Rec) (ops : List OpR) (o : OpR) : learnAll room R (ops ++ [o]) = learnF room (learnAll room R ops) o.route o.name o.place := by simp [learnAll, List.foldl_append]
theorem take_snoc_o (R : List OpR) (k : Nat) (h : k < R.length) : R.take (k + 1) = R.take k ++ [oa R k] := by
  rw [List.take_succ_eq_append_getElem h]
  have e := oa_get R k h
  rw [List.getElem?_eq_getElem h] at e
  rw [Option.some.inj e]
def LearnAny (w : World) (B p : Nat) (F : Nat → Prop) (room : Int) (R : List Rec) (a : Int) (r n : ByteArray) (pl : Int) (e : Ending) (w' : World) : Prop :=
  ∃ c F', e = .returned (.int .i64 c) ∧ PatS w' B p F' room (learnF room R r n pl) (a + 1) ∧ (∀ b, F' b → F b ∨ w.heap.size ≤ b) ∧ Touch F w w'
theorem learn_any (w : World) (B p : Nat) (F : Nat → Prop) (room : Int) (R : List Rec) (a : Int) (r n : ByteArray) (pl : Int) (h : PatS w B p F room R a) (hB : B ≤ w.heap.size) (ha : a < 4611686018427387904) (hr : r.size ≤ maxLen) (hn : n.size ≤ maxLen) (hpl : pl ≤ 9223372036854775807) :
    Calls Try.prog 13 #[.pointer (some ⟨p, 0, none⟩), .string r, .string n, .int .i64 pl] w (LearnAny w B p F room R a r n pl) :=
  (learn_s w B p F room R a r n pl h hB ha hr hn hpl).mono fun _ _ ⟨he, F', h1, h2, h3⟩ => ⟨_, F', he, h1, h2, h3⟩
def LearnsPost (w : World) (room : Int) (ops : List OpR) (e : Ending) (w' : World) : Prop :=
  ∃ p F, e = .returned (.pointer (some ⟨p, 0, none⟩)) ∧ PatS w' w.heap.size p F room (learnAll room [] ops) (ops.length : Int) ∧ Below w.heap.size w w'
set_option maxHeartbeats 4000000 in
set_option maxRecDepth 100000 in
theorem learns_w (room : Int) (a0 : Option Addr) (n cap : Nat) (ops : List OpR) (w : World) (h0 : 0 ≤ room) (h1 : room ≤ 4096) (hn : n = ops.length) (hm : n < 17592186044400) (ho : OpsAt w a0 ops) (hw : ∀ x ∈ ops, oWf x) :
    Calls Try.prog 9 #[.int .i64 room, .slice a0 n cap] w (LearnsPost w room ops) := by
  have HN := Lib.hid (new_s room none 0 0 [] w h0 h1 rfl (by omega) (recs_nil w) (by simp) (ok_nil room))
  have HL := Lib.hid learn_any
  have HO := Lib.hid ho; clear ho
  have HW := Lib.hid hw; clear hw
  have HNN := Lib.hid hn; clear hn
  go_enter Try.func9, Try.ntmps9
  go_wp2_with fail
  refine HN.out.mono ?_; rintro e w1 ⟨p, F1, rfl, h1, hb1⟩
  go_wp2_with fail
  go_loopw [7] (fun i wr => ∃ (k : Nat) (F : Nat → Prop), k ≤ n ∧ i = .int .i64 k ∧ PatS wr w.heap.size p F room (learnAll room [] (ops.take k)) (k : Int) ∧ Below w.heap.size w wr) (fun i _ => n - (intOf i).toNat)
  case atStart => exact ⟨0, F1, Nat.zero_le _, rfl, h1, hb1⟩
  case round =>
    obtain ⟨k, F, hk, rfl, hpat, hbel⟩ := hrel
    by_cases hkn : k < n
    · have hkR : k < ops.length := by rw [← HNN.out]; exact hkn
      obtain ⟨b, off, rfl, hblt, c0, c1, o2, o3, o4⟩ := HO.out.at_ k hkR
      have c2 := (hbel.cell (p := ⟨b, off + k * 5 + 2, none⟩) hblt).trans o2
      have c3 := (hbel.cell (p := ⟨b, off + k * 5 + 3, none⟩) hblt).trans o3
      have c4 := (hbel.cell (p := ⟨b, off + k * 5 + 4, none⟩) hblt).trans o4
      have hwf := HW.out _ (oa_mem hkR)
      have hts := Lib.hid (take_snoc_o ops k hkR)
      generalize oa ops k = x at *
      have tk : decide ((k : Int) < (n : Int)) = true := by simp; omega
      have hr0 : (0 : Int) ≤ (k : Int) := by omega
      have hr1 : (k : Int) < (n : Int) := by omega
      have HC := Lib.hid (HL.out wr.drew w.heap.size p F room _ (k : Int) x.route x.name x.place (hpat.touch ((Touch.refl noS wr).drewN 1) (fun _ _ => id)) hbel.size (by omega) hwf.1 hwf.2.1 hwf.2.2.2)
      clear hkR c0 c1 hwf
      go_wp2_with fail
      go_region_held3 (fun w' => w'.cell? ⟨b, off + k * 5 + 2, none⟩ = some (.string x.route) ∧ w'.cell? ⟨b, off + k * 5 + 3, none⟩ = some (.string x.name) ∧ w'.cell? ⟨b, off + k * 5 + 4, none⟩ = some (.int .i64 x.place)) (first | exact ⟨c2, c3, c4⟩ | exact ⟨d2, d3, d4⟩)
        ((go_at_call 13; refine HC.out.mono ?_; rintro e w2 ⟨cc, F2, rfl, h2, hF2, t2⟩; have hb2 := touch_below hpat hbel (⟨t2.os, t2.tape, t2.output, t2.size, t2.block⟩ : Touch F wr w2); have d2 := (hb2.cell (p := ⟨b, off + k * 5 + 2, none⟩) hblt).trans o2; have d3 := (hb2.cell (p := ⟨b, off + k * 5 + 3, none⟩) hblt).trans o3; have d4 := (hb2.cell (p := ⟨b, off + k * 5 + 4, none⟩) hblt).trans o4))
      all_goals
        go_wp2_with fail
        go_roundw
        case rel =>
          refine ⟨k + 1, F2, by omega, by go_num, ?_, hb2⟩
          rw [hts.out, learnAll_snoc]
          exact_mod_cast h2
        case measure => simp [intOf]; omega
    · obtain rfl : n = k := by omega
      have tk : decide ((n : Int) < (n : Int)) = false := by simp
      have e : ops.take n = ops := by rw [HNN.out, List.take_length]
      rw [e] at hpat
      clear e
      go_wp2_with fail
      go_ret
      exact ⟨p, F, rfl, by rw [← HNN.out]; exact hpat, hbel⟩
end Go.Proofs.Ytcgfkmjlgblkcaa.Pat
