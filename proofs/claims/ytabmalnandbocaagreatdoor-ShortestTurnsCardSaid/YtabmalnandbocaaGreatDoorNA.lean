/- Chapters 13 and 14 (floats, shortest): contracts of decimal.Read, decimal.Of and shortest.Read. No conditions beside those that each contract names. -/
import Derived.Test.YtabmalnandbocaaGreatDoorMZ
import Derived.Test.YtabmalnandbocaaGreatDoorMN
namespace Go.Proofs.YtabmalnandbocaaGreatDoor.Rdr
set_option exponentiation.threshold 3000
set_option linter.unusedVariables false
set_option linter.unusedSimpArgs false
open Go.RowKit Go.Proofs.YtabmalnandbocaaGreatDoor.Lbl Go.Proofs.YtabmalnandbocaaGreatDoor.Mem Go.Proofs.YtabmalnandbocaaGreatDoor.Own Go.Proofs.YtabmalnandbocaaGreatDoor.Num Go.Proofs.YtabmalnandbocaaGreatDoor.Str Go.Proofs.YtabmalnandbocaaGreatDoor.Big
def R3Post (w : World) (neg : Bool) (l : List UInt8) (e : Int) (j : Int) (c : Int) (en : Ending) (w' : World) : Prop := en = .returned (.tuple #[decV neg l e, .int .i64 j, .int .i64 c]) ∧ Below w.heap.size w w'
def R3None (w : World) (en : Ending) (w' : World) : Prop := ∃ j : Int, R3Post w false [] 0 j 110 en w'
theorem bdrew1 {B : Nat} {w A : World} (h : Below B w A) : Below B w A.drew := ⟨h.os, h.tape, h.output, h.size, h.block⟩
theorem dec_set {W : World} {h B : Nat} {t : TypeId} {a0 b0 c0 : Value} (hb : Blk W h t #[a0, b0, c0]) (hB : B ≤ h) (a b c : Value) : Blk (((W.setCell ⟨h, 0, none⟩ a).setCell ⟨h, 1, none⟩ b).setCell ⟨h, 2, none⟩ c) h t #[a, b, c] ∧ Below B W (((W.setCell ⟨h, 0, none⟩ a).setCell ⟨h, 1, none⟩ b).setCell ⟨h, 2, none⟩ c) :=
  ⟨((hb.set_ 0 a).set_ 1 b).set_ 2 c, (((Below.refl B W).setCell (p := ⟨h, 0, none⟩) hB a).setCell (p := ⟨h, 1, none⟩) hB b).setCell (p := ⟨h, 2, none⟩) hB c⟩
set_option maxHeartbeats 8000000 in
set_option maxRecDepth 100000 in
theorem dread_none (s : ByteArray) (p : Nat) (q : Nat) (neg : Bool) (w : World) (hp : p ≤ s.size) (hsm : s.size < 140737488355328) (hneg : neg = bAt s.data.toList p 45 45) (hq : q = if neg = true then p + 1 else p) (hr : readR s.data.toList q = none) :
    Calls Tryz.prog 33 #[.string s, .int .i64 (p : Nat)] w (R3None w) := by
  have hb1 := (Blk.new w 32 #[.bool false, .string ⟨#[]⟩, .int .i64 0]).alloc (.cells (rdr s p false (.slice none 0 0) 0 0) 85)
  have hb2 := Blk.new (w.alloc (.cells #[.bool false, .string ⟨#[]⟩, .int .i64 0] 32)) 85 (rdr s p false (.slice none 0 0) 0 0)
  simp only [World.size_alloc] at hb2
  have HB1 := Lib.hid hb1
  have HR := Lib.hid (read_any _ s p neg q none _ hb2 hp hsm hneg hq hr.symm)
  have t0 : decide ((s.size : Int) < (p : Int)) = false := decide_eq_false (by omega)
  have HBL := Lib.hid (((Below.refl _ w).alloc (Nat.le_refl _) (.cells #[.bool false, .string ⟨#[]⟩, .int .i64 0] 32)).alloc (by simp) (.cells (rdr s p false (.slice none 0 0) 0 0) 85))
  clear hb1 hb2 hneg hq hr
  go_enter Tryz.func33, Tryz.ntmps33
  go_wp2_with fail
  refine HR.out.mono ?_
  rintro en w1 ⟨rfl, o1, hno, -⟩
  obtain ⟨k, v, dn, hb⟩ := hno rfl
  have hr1 := o1.blk HB1.out (by omega)
  have HR1 := Lib.hid hr1
  have y0 := hr1.cell 0
  have y1 := hr1.cell 1
  have y2 := hr1.cell 2
  simp at y0 y1 y2
  have fy0 := hr1.frozen 0
  have fy1 := hr1.frozen 1
  have fy2 := hr1.frozen 2
  have d1 := (rdr_cells hb).2.1
  have HB1' := Lib.hid (HBL.out.trans (o1.below (Nat.le_succ _) (by simp; omega)))
  have hne : w.heap.size ≠ w.heap.size + 1 := by omega
  clear o1 hb hno hr1 t0
  go_wp2_with fail
  go_region
  all_goals
    go_wp2_with fail
    obtain ⟨hk3, hbf⟩ := dec_set (B := w.heap.size) HR1.out (Nat.le_refl _) (.bool false) (.string ⟨#[]⟩) (.int .i64 0)
    replace hbf := bdrew1 (HB1'.out.trans hbf)
    replace hk3 := hk3.drew
    generalize World.drew (((World.setCell _ _ _).setCell _ _).setCell _ _) = Wf at hk3 hbf ⊢
    have q0 : Wf.cell? ⟨w.heap.size, 0, none⟩ = some (.bool false) := hk3.cell 0
    have q1 : Wf.cell? ⟨w.heap.size, 1, none⟩ = some (.string ⟨#[]⟩) := hk3.cell 1
    have q2 : Wf.cell? ⟨w.heap.size, 2, none⟩ = some (.int .i64 0) := hk3.cell 2
    exact bodyPost_ret (v := .tuple #[decV false [] 0, .int .i64 (k : Nat), .int .i64 110]) (by simp [results, Tryz.results33, go_sem, q0, q1, q2]) rfl ⟨_, rfl, hbf⟩
set_option maxHeartbeats 8000000 in
set_option maxRecDepth 100000 in
theorem dread_big (s : ByteArray) (p : Nat) (q : Nat) (neg : Bool) (w : World) (hp : p ≤ s.size) (hsm : s.size < 140737488355328) (hneg : neg = bAt s.data.toList p 45 45) (hq : q = if neg = true then p + 1 else p) (ds : List UInt8) (dn : Nat) (en0 : Bool) (x : List UInt8) (j : Nat) (hr : readR s.data.toList q = some (ds, dn, en0, x, j))
    (hm : madeF neg (dval ds) (sgn en0 (x.foldl tenP 0) - (dn : Nat)) = none) :
    Calls Tryz.prog 33 #[.string s, .int .i64 (p : Nat)] w (R3Post w false [] 0 (j : Nat) 111) := by
  have hb1 := (Blk.new w 32 #[.bool false, .string ⟨#[]⟩, .int .i64 0]).alloc (.cells (rdr s p false (.slice none 0 0) 0 0) 85)
  have hb2 := Blk.new (w.alloc (.cells #[.bool false, .string ⟨#[]⟩, .int .i64 0] 32)) 85 (rdr s p false (.slice none 0 0) 0 0)
  simp only [World.size_alloc] at hb2
  have HB1 := Lib.hid hb1
  have HR := Lib.hid (read_any _ s p neg q _ _ hb2 hp hsm hneg hq hr.symm)
  have t0 : decide ((s.size : Int) < (p : Int)) = false := decide_eq_false (by omega)
  have HBL := Lib.hid (((Below.refl _ w).alloc (Nat.le_refl _) (.cells #[.bool false, .string ⟨#[]⟩, .int .i64 0] 32)).alloc (by simp) (.cells (rdr s p false (.slice none 0 0) 0 0) 85))
  obtain ⟨r1, r2, r3, r4, r5, r6⟩ := readR_some hr
  have hll : s.data.toList.length = s.size := by simp
  have hfx := foldP_lt r5
  have hsx : -11258999068426250 < sgn en0 (x.foldl tenP 0) ∧ sgn en0 (x.foldl tenP 0) < 11258999068426250 := by unfold sgn; split <;> omega
  have HNUM := Lib.hid (fun (v : Value) (base : Nat) (W : World) (hbk : Blk W (w.heap.size + 1) 85 (rdr s j neg v (dn : Nat) (sgn en0 (x.foldl tenP 0)))) (hrw : DRow W base v ds) => number_w (w.heap.size + 1) s j neg v dn (sgn en0 (x.foldl tenP 0)) ds base W hbk hrw r2 r1 (by omega) r4 hsx.1 hsx.2)
  clear hb1 hb2 hneg hq hr r1 r2 r3 r4 r5 r6 hll hfx hsx
  have HM := Lib.hid hm
  clear hm
  go_enter Tryz.func33, Tryz.ntmps33
  go_wp2_with fail
  refine HR.out.mono ?_
  rintro en w1 ⟨rfl, o1, -, hsome⟩
  obtain ⟨v, hb, hrow⟩ := hsome _ _ _ _ _ rfl
  have hr1 := o1.blk HB1.out (by omega)
  have HR1 := Lib.hid hr1
  have HC := Lib.hid (HNUM.out v _ w1 hb hrow)
  rw [HM.out] at HC
  have HB := Lib.hid hb
  have HB1' := Lib.hid (HBL.out.trans (o1.below (Nat.le_succ _) (by simp; omega)))
  clear o1 hb hsome hrow hr1 t0 HR HNUM
  go_wp2_with fail
  refine HC.out.mono ?_
  rintro en w2 ⟨rfl, b2⟩
  have hr2 := HR1.out.below b2 HR1.out.lt
  have HR2 := Lib.hid hr2
  have y0 := hr2.cell 0
  have y1 := hr2.cell 1
  have y2 := hr2.cell 2
  simp at y0 y1 y2
  have fy0 := hr2.frozen 0
  have fy1 := hr2.frozen 1
  have fy2 := hr2.frozen 2
  have HRD := Lib.hid (HB.out.below b2 HB.out.lt)
  have d1 := (rdr_cells HRD.out).2.1
  have HB2' := Lib.hid (bthen HB1'.out b2)
  have hne : w.heap.size ≠ w.heap.size + 1 := by omega
  unfold mkV
  clear b2 hr2 HC HB
  go_wp2_with fail
  obtain ⟨hk3, hbf⟩ := dec_set (B := w.heap.size) HR2.out (Nat.le_refl _) (.bool false) (.string ⟨#[]⟩) (.int .i64 0)
  have hrd := ((HRD.out.far (p := ⟨w.heap.size, 0, none⟩) (by simp) (.bool false)).far (p := ⟨w.heap.size, 1, none⟩) (by simp) (.string ⟨#[]⟩)).far (p := ⟨w.heap.size, 2, none⟩) (by simp) (.int .i64 0)
  replace hbf := HB2'.out.trans hbf
  clear y0 y1 y2 fy0 fy1 fy2 d1 HB2' HR2
  generalize ((World.setCell _ _ _).setCell _ _).setCell _ _ = W3 at hk3 hbf hrd ⊢
  have y0 : W3.cell? ⟨w.heap.size, 0, none⟩ = some (.bool false) := hk3.cell 0
  have y1 : W3.cell? ⟨w.heap.size, 1, none⟩ = some (.string ⟨#[]⟩) := hk3.cell 1
  have y2 : W3.cell? ⟨w.heap.size, 2, none⟩ = some (.int .i64 0) := hk3.cell 2
  have fy0 := hk3.frozen 0
  have fy1 := hk3.frozen 1
  have fy2 := hk3.frozen 2
  have d1 := (rdr_cells hrd).2.1
  have HK := Lib.hid hk3
  have HBF := Lib.hid hbf
  clear hk3 hbf hrd
  go_region
  all_goals
    go_wp2_with fail
    obtain ⟨hk3, hbf⟩ := dec_set (B := w.heap.size) HK.out (Nat.le_refl _) (.bool false) (.string ⟨#[]⟩) (.int .i64 0)
    replace hbf := bdrew1 (HBF.out.trans hbf)
    replace hk3 := hk3.drew
    generalize World.drew (((World.setCell _ _ _).setCell _ _).setCell _ _) = Wf at hk3 hbf ⊢
    have q0 : Wf.cell? ⟨w.heap.size, 0, none⟩ = some (.bool false) := hk3.cell 0
    have q1 : Wf.cell? ⟨w.heap.size, 1, none⟩ = some (.string ⟨#[]⟩) := hk3.cell 1
    have q2 : Wf.cell? ⟨w.heap.size, 2, none⟩ = some (.int .i64 0) := hk3.cell 2
    exact bodyPost_ret (v := .tuple #[decV false [] 0, .int .i64 (j : Nat), .int .i64 111]) (by simp [results, Tryz.results33, go_sem, q0, q1, q2]) rfl ⟨rfl, hbf⟩
set_option maxHeartbeats 8000000 in
set_option maxRecDepth 100000 in
theorem dread_ok (s : ByteArray) (p : Nat) (q : Nat) (neg : Bool) (w : World) (hp : p ≤ s.size) (hsm : s.size < 140737488355328) (hneg : neg = bAt s.data.toList p 45 45) (hq : q = if neg = true then p + 1 else p) (ds : List UInt8) (dn : Nat) (en0 : Bool) (x : List UInt8) (j : Nat) (hr : readR s.data.toList q = some (ds, dn, en0, x, j))
    (n0 : Bool) (l0 : List UInt8) (e0 : Int) (hm : madeF neg (dval ds) (sgn en0 (x.foldl tenP 0) - (dn : Nat)) = some (n0, l0, e0)) :
    Calls Tryz.prog 33 #[.string s, .int .i64 (p : Nat)] w (R3Post w n0 l0 e0 (j : Nat) 0) := by
  have hb1 := (Blk.new w 32 #[.bool false, .string ⟨#[]⟩, .int .i64 0]).alloc (.cells (rdr s p false (.slice none 0 0) 0 0) 85)
  have hb2 := Blk.new (w.alloc (.cells #[.bool false, .string ⟨#[]⟩, .int .i64 0] 32)) 85 (rdr s p false (.slice none 0 0) 0 0)
  simp only [World.size_alloc] at hb2
  have HB1 := Lib.hid hb1
  have HR := Lib.hid (read_any _ s p neg q _ _ hb2 hp hsm hneg hq hr.symm)
  have t0 : decide ((s.size : Int) < (p : Int)) = false := decide_eq_false (by omega)
  have HBL := Lib.hid (((Below.refl _ w).alloc (Nat.le_refl _) (.cells #[.bool false, .string ⟨#[]⟩, .int .i64 0] 32)).alloc (by simp) (.cells (rdr s p false (.slice none 0 0) 0 0) 85))
  obtain ⟨r1, r2, r3, r4, r5, r6⟩ := readR_some hr
  have hll : s.data.toList.length = s.size := by simp
  have hfx := foldP_lt r5
  have hsx : -11258999068426250 < sgn en0 (x.foldl tenP 0) ∧ sgn en0 (x.foldl tenP 0) < 11258999068426250 := by unfold sgn; split <;> omega
  have HNUM := Lib.hid (fun (v : Value) (base : Nat) (W : World) (hbk : Blk W (w.heap.size + 1) 85 (rdr s j neg v (dn : Nat) (sgn en0 (x.foldl tenP 0)))) (hrw : DRow W base v ds) => number_w (w.heap.size + 1) s j neg v dn (sgn en0 (x.foldl tenP 0)) ds base W hbk hrw r2 r1 (by omega) r4 hsx.1 hsx.2)
  clear hb1 hb2 hneg hq hr r1 r2 r3 r4 r5 r6 hll hfx hsx
  have HM := Lib.hid hm
  clear hm
  go_enter Tryz.func33, Tryz.ntmps33
  go_wp2_with fail
  refine HR.out.mono ?_
  rintro en w1 ⟨rfl, o1, -, hsome⟩
  obtain ⟨v, hb, hrow⟩ := hsome _ _ _ _ _ rfl
  have hr1 := o1.blk HB1.out (by omega)
  have HR1 := Lib.hid hr1
  have HC := Lib.hid (HNUM.out v _ w1 hb hrow)
  rw [HM.out] at HC
  have HB := Lib.hid hb
  have HB1' := Lib.hid (HBL.out.trans (o1.below (Nat.le_succ _) (by simp; omega)))
  clear o1 hb hsome hrow hr1 t0 HR HNUM
  go_wp2_with fail
  refine HC.out.mono ?_
  rintro en w2 ⟨rfl, b2⟩
  have hr2 := HR1.out.below b2 HR1.out.lt
  have HR2 := Lib.hid hr2
  have y0 := hr2.cell 0
  have y1 := hr2.cell 1
  have y2 := hr2.cell 2
  simp at y0 y1 y2
  have fy0 := hr2.frozen 0
  have fy1 := hr2.frozen 1
  have fy2 := hr2.frozen 2
  have HRD := Lib.hid (HB.out.below b2 HB.out.lt)
  have d1 := (rdr_cells HRD.out).2.1
  have HB2' := Lib.hid (bthen HB1'.out b2)
  have hne : w.heap.size ≠ w.heap.size + 1 := by omega
  unfold mkV
  clear b2 hr2 HC HB
  go_wp2_with fail
  obtain ⟨hk3, hbf⟩ := dec_set (B := w.heap.size) HR2.out (Nat.le_refl _) (.bool n0) (.string ⟨l0.toArray⟩) (.int .i64 e0)
  have hrd := ((HRD.out.far (p := ⟨w.heap.size, 0, none⟩) (by simp) (.bool n0)).far (p := ⟨w.heap.size, 1, none⟩) (by simp) (.string ⟨l0.toArray⟩)).far (p := ⟨w.heap.size, 2, none⟩) (by simp) (.int .i64 e0)
  replace hbf := HB2'.out.trans hbf
  clear y0 y1 y2 fy0 fy1 fy2 d1 HB2' HR2
  generalize ((World.setCell _ _ _).setCell _ _).setCell _ _ = W3 at hk3 hbf hrd ⊢
  have y0 : W3.cell? ⟨w.heap.size, 0, none⟩ = some (.bool n0) := hk3.cell 0
  have y1 : W3.cell? ⟨w.heap.size, 1, none⟩ = some (.string ⟨l0.toArray⟩) := hk3.cell 1
  have y2 : W3.cell? ⟨w.heap.size, 2, none⟩ = some (.int .i64 e0) := hk3.cell 2
  have fy0 := hk3.frozen 0
  have fy1 := hk3.frozen 1
  have fy2 := hk3.frozen 2
  have d1 := (rdr_cells hrd).2.1
  have HK := Lib.hid hk3
  have HBF := Lib.hid hbf
  clear hk3 hbf hrd
  go_region
  all_goals
    go_wp2_with fail
    obtain ⟨hk3, hbf⟩ := dec_set (B := w.heap.size) HK.out (Nat.le_refl _) (.bool n0) (.string ⟨l0.toArray⟩) (.int .i64 e0)
    replace hbf := bdrew1 (HBF.out.trans hbf)
    replace hk3 := hk3.drew
    generalize World.drew (((World.setCell _ _ _).setCell _ _).setCell _ _) = Wf at hk3 hbf ⊢
    have q0 : Wf.cell? ⟨w.heap.size, 0, none⟩ = some (.bool n0) := hk3.cell 0
    have q1 : Wf.cell? ⟨w.heap.size, 1, none⟩ = some (.string ⟨l0.toArray⟩) := hk3.cell 1
    have q2 : Wf.cell? ⟨w.heap.size, 2, none⟩ = some (.int .i64 e0) := hk3.cell 2
    exact bodyPost_ret (v := .tuple #[decV n0 l0 e0, .int .i64 (j : Nat), .int .i64 0]) (by simp [results, Tryz.results33, go_sem, q0, q1, q2]) rfl ⟨rfl, hbf⟩
end Go.Proofs.YtabmalnandbocaaGreatDoor.Rdr
namespace Go.Proofs.YtabmalnandbocaaGreatDoor.Rdr
set_option exponentiation.threshold 3000
set_option linter.unusedVariables false
set_option linter.unusedSimpArgs false
open Go.RowKit Go.Proofs.YtabmalnandbocaaGreatDoor.Lbl Go.Proofs.YtabmalnandbocaaGreatDoor.Mem Go.Proofs.YtabmalnandbocaaGreatDoor.Own Go.Proofs.YtabmalnandbocaaGreatDoor.Num Go.Proofs.YtabmalnandbocaaGreatDoor.Str Go.Proofs.YtabmalnandbocaaGreatDoor.Big
def dofV : Except Int (Bool × List UInt8 × Int) → Value
  | .error c => .tuple #[decV false [] 0, .int .i64 c]
  | .ok (n, l, e) => .tuple #[decV n l e, .int .i64 0]
def DoPost (w : World) (r : Except Int (Bool × List UInt8 × Int)) (en : Ending) (w' : World) : Prop := en = .returned (dofV r) ∧ Below w.heap.size w w'
def D2Post (w : World) (n : Bool) (l : List UInt8) (e c : Int) (en : Ending) (w' : World) : Prop := en = .returned (.tuple #[decV n l e, .int .i64 c]) ∧ Below w.heap.size w w'
set_option maxHeartbeats 8000000 in
set_option maxRecDepth 100000 in
theorem of_none (s : ByteArray) (w : World) (hC : Calls Tryz.prog 33 #[.string s, .int .i64 0] (w.alloc (.cells #[.bool false, .string ⟨#[]⟩, .int .i64 0] 32)) (R3None (w.alloc (.cells #[.bool false, .string ⟨#[]⟩, .int .i64 0] 32)))) :
    Calls Tryz.prog 16 #[.string s] w (D2Post w false [] 0 110) := by
  have hb1 := Blk.new w 32 #[.bool false, .string ⟨#[]⟩, .int .i64 0]
  have HB1 := Lib.hid hb1
  have HC := Lib.hid hC
  have HBL := Lib.hid ((Below.refl _ w).alloc (Nat.le_refl _) (.cells #[.bool false, .string ⟨#[]⟩, .int .i64 0] 32))
  clear hb1 hC
  go_enter Tryz.func16, Tryz.ntmps16
  go_wp2_with fail
  refine HC.out.mono ?_
  rintro en w1 ⟨j, rfl, b1⟩
  have hr1 := HB1.out.below b1 HB1.out.lt
  have HR1 := Lib.hid hr1
  have y0 := hr1.cell 0
  have y1 := hr1.cell 1
  have y2 := hr1.cell 2
  simp at y0 y1 y2
  have fy0 := hr1.frozen 0
  have fy1 := hr1.frozen 1
  have fy2 := hr1.frozen 2
  have hlt := hr1.lt
  have HB2 := Lib.hid (bthen HBL.out b1)
  clear hr1 b1
  go_wp2_with fail
  obtain ⟨hk3, hbf⟩ := dec_set (B := w.heap.size) HR1.out (Nat.le_refl _) (.bool false) (.string ⟨#[]⟩) (.int .i64 0)
  replace hbf := HB2.out.trans hbf
  replace hbf := hbf.alloc hbf.size (.cells #[.bool false, .string ⟨#[]⟩, .int .i64 0] 32)
  replace hk3 := hk3.alloc (.cells #[.bool false, .string ⟨#[]⟩, .int .i64 0] 32)
  generalize World.alloc (((World.setCell _ _ _).setCell _ _).setCell _ _) _ = Wf at hk3 hbf ⊢
  have q0 : Wf.cell? ⟨w.heap.size, 0, none⟩ = some (.bool false) := hk3.cell 0
  have q1 : Wf.cell? ⟨w.heap.size, 1, none⟩ = some (.string ⟨#[]⟩) := hk3.cell 1
  have q2 : Wf.cell? ⟨w.heap.size, 2, none⟩ = some (.int .i64 0) := hk3.cell 2
  exact bodyPost_ret (v := .tuple #[decV false [] 0, .int .i64 110]) (by simp [results, Tryz.results16, go_sem, q0, q1, q2]) rfl ⟨rfl, hbf⟩
set_option maxHeartbeats 8000000 in
set_option maxRecDepth 100000 in
theorem of_bad (s : ByteArray) (n : Bool) (l : List UInt8) (e : Int) (j c : Int) (w : World) (hC : Calls Tryz.prog 33 #[.string s, .int .i64 0] (w.alloc (.cells #[.bool false, .string ⟨#[]⟩, .int .i64 0] 32)) (R3Post (w.alloc (.cells #[.bool false, .string ⟨#[]⟩, .int .i64 0] 32)) n l e j c)) (hc : c = 110 ∨ c ≠ 110 ∧ j < s.size) :
    Calls Tryz.prog 16 #[.string s] w (D2Post w false [] 0 110) := by
  have hb1 := Blk.new w 32 #[.bool false, .string ⟨#[]⟩, .int .i64 0]
  have HB1 := Lib.hid hb1
  have HC := Lib.hid hC
  have HBL := Lib.hid ((Below.refl _ w).alloc (Nat.le_refl _) (.cells #[.bool false, .string ⟨#[]⟩, .int .i64 0] 32))
  have HCC := Lib.hid hc
  clear hb1 hC hc
  go_enter Tryz.func16, Tryz.ntmps16
  go_wp2_with fail
  refine HC.out.mono ?_
  rintro en w1 ⟨rfl, b1⟩
  have hr1 := HB1.out.below b1 HB1.out.lt
  have HR1 := Lib.hid hr1
  have y0 := hr1.cell 0
  have y1 := hr1.cell 1
  have y2 := hr1.cell 2
  simp at y0 y1 y2
  have fy0 := hr1.frozen 0
  have fy1 := hr1.frozen 1
  have fy2 := hr1.frozen 2
  have hlt := hr1.lt
  have HB2 := Lib.hid (bthen HBL.out b1)
  clear hr1 b1
  rcases HCC.out with rfl | ⟨h1, h2⟩
  · go_wp2_with fail
    obtain ⟨hk3, hbf⟩ := dec_set (B := w.heap.size) HR1.out (Nat.le_refl _) (.bool false) (.string ⟨#[]⟩) (.int .i64 0)
    replace hbf := HB2.out.trans hbf
    replace hbf := hbf.alloc hbf.size (.cells #[.bool n, .string ⟨l.toArray⟩, .int .i64 e] 32)
    replace hk3 := hk3.alloc (.cells #[.bool n, .string ⟨l.toArray⟩, .int .i64 e] 32)
    generalize World.alloc (((World.setCell _ _ _).setCell _ _).setCell _ _) _ = Wf at hk3 hbf ⊢
    have q0 : Wf.cell? ⟨w.heap.size, 0, none⟩ = some (.bool false) := hk3.cell 0
    have q1 : Wf.cell? ⟨w.heap.size, 1, none⟩ = some (.string ⟨#[]⟩) := hk3.cell 1
    have q2 : Wf.cell? ⟨w.heap.size, 2, none⟩ = some (.int .i64 0) := hk3.cell 2
    exact bodyPost_ret (v := .tuple #[decV false [] 0, .int .i64 110]) (by simp [results, Tryz.results16, go_sem, q0, q1, q2]) rfl ⟨rfl, hbf⟩
  · have t1 : ((c : Int) == 110) = false := beq_eq_false_iff_ne.2 h1
    have t2 : decide (j < (s.size : Int)) = true := decide_eq_true h2
    clear h1 h2
    go_wp2_with fail
    obtain ⟨hk3, hbf⟩ := dec_set (B := w.heap.size) HR1.out (Nat.le_refl _) (.bool false) (.string ⟨#[]⟩) (.int .i64 0)
    replace hbf := HB2.out.trans hbf
    replace hbf := hbf.alloc hbf.size (.cells #[.bool n, .string ⟨l.toArray⟩, .int .i64 e] 32)
    replace hk3 := hk3.alloc (.cells #[.bool n, .string ⟨l.toArray⟩, .int .i64 e] 32)
    generalize World.alloc (((World.setCell _ _ _).setCell _ _).setCell _ _) _ = Wf at hk3 hbf ⊢
    have q0 : Wf.cell? ⟨w.heap.size, 0, none⟩ = some (.bool false) := hk3.cell 0
    have q1 : Wf.cell? ⟨w.heap.size, 1, none⟩ = some (.string ⟨#[]⟩) := hk3.cell 1
    have q2 : Wf.cell? ⟨w.heap.size, 2, none⟩ = some (.int .i64 0) := hk3.cell 2
    exact bodyPost_ret (v := .tuple #[decV false [] 0, .int .i64 110]) (by simp [results, Tryz.results16, go_sem, q0, q1, q2]) rfl ⟨rfl, hbf⟩
set_option maxHeartbeats 8000000 in
set_option maxRecDepth 100000 in
theorem of_good (s : ByteArray) (n : Bool) (l : List UInt8) (e : Int) (j c : Int) (w : World) (hC : Calls Tryz.prog 33 #[.string s, .int .i64 0] (w.alloc (.cells #[.bool false, .string ⟨#[]⟩, .int .i64 0] 32)) (R3Post (w.alloc (.cells #[.bool false, .string ⟨#[]⟩, .int .i64 0] 32)) n l e j c)) (h1 : c ≠ 110) (h2 : ¬ j < s.size) :
    Calls Tryz.prog 16 #[.string s] w (D2Post w n l e c) := by
  have hb1 := Blk.new w 32 #[.bool false, .string ⟨#[]⟩, .int .i64 0]
  have HB1 := Lib.hid hb1
  have HC := Lib.hid hC
  have HBL := Lib.hid ((Below.refl _ w).alloc (Nat.le_refl _) (.cells #[.bool false, .string ⟨#[]⟩, .int .i64 0] 32))
  have t1 : ((c : Int) == 110) = false := beq_eq_false_iff_ne.2 h1
  have t2 : decide (j < (s.size : Int)) = false := decide_eq_false h2
  clear hb1 hC h1 h2
  go_enter Tryz.func16, Tryz.ntmps16
  go_wp2_with fail
  refine HC.out.mono ?_
  rintro en w1 ⟨rfl, b1⟩
  have hr1 := HB1.out.below b1 HB1.out.lt
  have HR1 := Lib.hid hr1
  have y0 := hr1.cell 0
  have y1 := hr1.cell 1
  have y2 := hr1.cell 2
  simp at y0 y1 y2
  have fy0 := hr1.frozen 0
  have fy1 := hr1.frozen 1
  have fy2 := hr1.frozen 2
  have hlt := hr1.lt
  have HB2 := Lib.hid (bthen HBL.out b1)
  clear hr1 b1
  go_wp2_with fail
  obtain ⟨hk3, hbf⟩ := dec_set (B := w.heap.size) HR1.out (Nat.le_refl _) (.bool n) (.string ⟨l.toArray⟩) (.int .i64 e)
  replace hbf := HB2.out.trans hbf
  replace hbf := hbf.alloc hbf.size (.cells #[.bool n, .string ⟨l.toArray⟩, .int .i64 e] 32)
  replace hk3 := hk3.alloc (.cells #[.bool n, .string ⟨l.toArray⟩, .int .i64 e] 32)
  generalize World.alloc (((World.setCell _ _ _).setCell _ _).setCell _ _) _ = Wf at hk3 hbf ⊢
  have q0 : Wf.cell? ⟨w.heap.size, 0, none⟩ = some (.bool n) := hk3.cell 0
  have q1 : Wf.cell? ⟨w.heap.size, 1, none⟩ = some (.string ⟨l.toArray⟩) := hk3.cell 1
  have q2 : Wf.cell? ⟨w.heap.size, 2, none⟩ = some (.int .i64 e) := hk3.cell 2
  exact bodyPost_ret (v := .tuple #[decV n l e, .int .i64 c]) (by simp [results, Tryz.results16, go_sem, q0, q1, q2]) rfl ⟨rfl, hbf⟩
theorem dof_w (s : ByteArray) (w : World) (hsm : s.size < 140737488355328) : Calls Tryz.prog 16 #[.string s] w (DoPost w (textF s.data.toList)) := by
  have hl : s.data.toList.length = s.size := by simp
  rw [text_is (by omega)]
  unfold textP
  have hq : ∀ b : Bool, b = bAt s.data.toList 0 45 45 → (if b = true then 1 else 0) = if b = true then 0 + 1 else 0 := fun b _ => rfl
  cases hr : readR s.data.toList (if bAt s.data.toList 0 45 45 = true then 1 else 0) with
  | none =>
    have h := dread_none s 0 _ _ (w.alloc (.cells #[.bool false, .string ⟨#[]⟩, .int .i64 0] 32)) (Nat.zero_le _) hsm rfl rfl hr
    have h2 : ∃ j : Int, True := ⟨0, trivial⟩
    refine of_none s w h
  | some q =>
    obtain ⟨ds, dn, en, x, j⟩ := q
    have hj := (readR_some hr).2.2.2.2.2
    simp only
    by_cases hjl : j ≠ s.data.toList.length
    · rw [if_pos hjl]
      cases hm : madeF (bAt s.data.toList 0 45 45) (dval ds) (sgn en (x.foldl tenP 0) - (dn : Nat)) with
      | none => exact of_bad s _ _ _ _ _ w (dread_big s 0 _ _ _ (Nat.zero_le _) hsm rfl rfl ds dn en x j hr hm) (.inr ⟨by decide, by omega⟩)
      | some d => obtain ⟨n0, l0, e0⟩ := d; exact of_bad s _ _ _ _ _ w (dread_ok s 0 _ _ _ (Nat.zero_le _) hsm rfl rfl ds dn en x j hr n0 l0 e0 hm) (.inr ⟨by decide, by omega⟩)
    · rw [if_neg hjl]
      cases hm : madeF (bAt s.data.toList 0 45 45) (dval ds) (sgn en (x.foldl tenP 0) - (dn : Nat)) with
      | none => exact of_good s _ _ _ _ _ w (dread_big s 0 _ _ _ (Nat.zero_le _) hsm rfl rfl ds dn en x j hr hm) (by decide) (by omega)
      | some d => obtain ⟨n0, l0, e0⟩ := d; exact of_good s _ _ _ _ _ w (dread_ok s 0 _ _ _ (Nat.zero_le _) hsm rfl rfl ds dn en x j hr n0 l0 e0 hm) (by decide) (by omega)
end Go.Proofs.YtabmalnandbocaaGreatDoor.Rdr
namespace Go.Proofs.YtabmalnandbocaaGreatDoor.Rdr
set_option exponentiation.threshold 3000
set_option linter.unusedVariables false
set_option linter.unusedSimpArgs false
set_option exponentiation.threshold 3000
open Go.RowKit Go.Proofs.YtabmalnandbocaaGreatDoor.Lbl Go.Proofs.YtabmalnandbocaaGreatDoor.Mem Go.Proofs.YtabmalnandbocaaGreatDoor.Own Go.Proofs.YtabmalnandbocaaGreatDoor.Num Go.Proofs.YtabmalnandbocaaGreatDoor.Str Go.Proofs.YtabmalnandbocaaGreatDoor.Big
open Ieee (double single)
theorem tl_le {N b : Nat} (h : N < 10 ^ b) : (tl N).length ≤ b := by
  by_cases h0 : tl N = []
  · rw [h0]; simp
  · have hb := (canon_bounds (told_canon N) h0).1
    have hv := (told_tl N).val
    have h3 : 10 ^ ((tl N).length - 1) < 10 ^ b := by
      refine Nat.lt_of_le_of_lt hb (Nat.lt_of_le_of_lt ?_ h)
      conv => rhs; rw [← hv]
      exact Nat.le_mul_of_pos_right _ (Nat.pow_pos (by decide))
    have := (Nat.pow_lt_pow_iff_right (by decide)).1 h3
    omega
/-- The digits of a text's decimal are no more than its letters. -/
theorem text_len {l : List UInt8} (hl : l.length < 140737488355328) {d : Bool × List UInt8 × Int} (h : textF l = .ok d) : d.2.1.length ≤ l.length := by
  rw [text_is hl] at h
  unfold textP at h
  cases hr : readR l (if bAt l 0 45 45 = true then 1 else 0) with
  | none => rw [hr] at h; cases h
  | some q =>
    obtain ⟨ds, dn, en, x, j⟩ := q
    rw [hr] at h
    simp only at h
    by_cases hj : j ≠ l.length
    · rw [if_pos hj] at h; cases h
    · rw [if_neg hj] at h
      obtain ⟨r1, r2, r3, r4, r5, r6⟩ := readR_some hr
      cases hm : madeF (bAt l 0 45 45) (dval ds) (sgn en (x.foldl tenP 0) - (dn : Nat)) with
      | none => rw [hm] at h; cases h
      | some d' =>
        rw [hm] at h
        injection h with h
        subst h
        unfold madeF at hm
        by_cases h0 : dval ds = 0
        · rw [if_pos h0] at hm
          injection hm with hm
          rw [← hm]; simp
        · rw [if_neg h0] at hm
          split at hm
          · cases hm
          · injection hm with hm
            rw [← hm]
            exact Nat.le_trans (tl_le (dval_lt r1)) r3
theorem text_err {l : List UInt8} {c : Int} (h : textF l = .error c) : c = 110 ∨ c = 111 := by
  unfold textF at h
  split at h
  · injection h with h; exact .inl h.symm
  · split at h
    · injection h with h; exact .inl h.symm
    · split at h
      · injection h with h; exact .inl h.symm
      · split at h
        · injection h with h; exact .inr h.symm
        · cases h
/-- The float of a text, and the code. -/
noncomputable def flF (l : List UInt8) : Nat × Int := match textF l with
  | .error c => (0, c)
  | .ok (n, d, e) => if near64 d e = 9218868437227405312 then (0, 121) else (double.word n (near64 d e), 0)
def FlPost (w : World) (x : Nat) (c : Int) (en : Ending) (w' : World) : Prop := en = .returned (.tuple #[.float .f64 x, .int .i64 c]) ∧ Below w.heap.size w w'
set_option maxHeartbeats 8000000 in
set_option maxRecDepth 100000 in
theorem sread_bad (s : ByteArray) (c : Int) (w : World) (hc : c ≠ 0) (hC : Calls Tryz.prog 16 #[.string s] w (D2Post w false [] 0 c)) :
    Calls Tryz.prog 15 #[.string s] w (FlPost w 0 c) := by
  have HC := Lib.hid hC
  have t1 : (c != 0) = true := by rw [bne_iff_ne]; exact hc
  clear hC hc
  go_enter Tryz.func15, Tryz.ntmps15
  go_wp2_with fail
  refine HC.out.mono ?_
  rintro en w1 ⟨rfl, b1⟩
  have HB := Lib.hid b1
  clear b1
  go_wp2_with fail
  go_ret2
  exact ⟨rfl, HB.out.alloc HB.out.size _⟩
set_option maxHeartbeats 8000000 in
set_option maxRecDepth 100000 in
theorem sread_good (s : ByteArray) (n : Bool) (l : List UInt8) (e : Int) (x : Nat) (c : Int) (w : World) (hC : Calls Tryz.prog 16 #[.string s] w (D2Post w n l e 0))
    (hF : ∀ W, Calls Tryz.prog 17 #[.agg #[.bool n, .string ⟨l.toArray⟩, .int .i64 e]] W (FlPost W x c)) :
    Calls Tryz.prog 15 #[.string s] w (FlPost w x c) := by
  have HC := Lib.hid hC
  have HF := Lib.hid hF
  clear hC hF
  go_enter Tryz.func15, Tryz.ntmps15
  go_wp2_with fail
  refine HC.out.mono ?_
  rintro en w1 ⟨rfl, b1⟩
  have HB := Lib.hid b1
  clear b1
  go_wp2_with fail
  refine (HF.out _).mono ?_
  rintro en w2 ⟨rfl, b2⟩
  have HB2 := Lib.hid (bthen (HB.out.alloc HB.out.size (.cells #[.bool n, .string ⟨l.toArray⟩, .int .i64 e] 32)) b2)
  clear b2
  go_wp2_with fail
  go_ret2
  exact ⟨rfl, HB2.out⟩
theorem flo_w (n : Bool) (l : List UInt8) (e : Int) (w : World) (hf : Num.Form l e) (hl : l.length < 140737488355328) :
    Calls Tryz.prog 17 #[.agg #[.bool n, .string ⟨l.toArray⟩, .int .i64 e]] w (FlPost w (if near64 l e = 9218868437227405312 then 0 else double.word n (near64 l e)) (if near64 l e = 9218868437227405312 then 121 else 0)) := by
  have hs : (⟨l.toArray⟩ : ByteArray).size < 140737488355328 := by
    have : (⟨l.toArray⟩ : ByteArray).size = l.length := by simp [ByteArray.size]
    omega
  refine (of_yes n ⟨l.toArray⟩ e w hf hs).mono fun en w' h => ?_
  obtain ⟨rfl, hb⟩ := h
  refine ⟨?_, hb⟩
  show Ending.returned (ofV n (near64 l e)) = _
  unfold ofV
  by_cases h : near64 l e = 9218868437227405312
  · rw [if_pos h, if_pos h, if_pos h]
  · rw [if_neg h, if_neg h, if_neg h]
theorem dof_bad {s : ByteArray} (w : World) (hsm : s.size < 140737488355328) {c : Int} (h : textF s.data.toList = .error c) : Calls Tryz.prog 16 #[.string s] w (D2Post w false [] 0 c) := by
  refine (dof_w s w hsm).mono fun en w' hh => ?_
  obtain ⟨rfl, hb⟩ := hh
  exact ⟨by rw [h]; rfl, hb⟩
theorem dof_good {s : ByteArray} (w : World) (hsm : s.size < 140737488355328) {n : Bool} {l : List UInt8} {e : Int} (h : textF s.data.toList = .ok (n, l, e)) : Calls Tryz.prog 16 #[.string s] w (D2Post w n l e 0) := by
  refine (dof_w s w hsm).mono fun en w' hh => ?_
  obtain ⟨rfl, hb⟩ := hh
  exact ⟨by rw [h]; rfl, hb⟩
theorem sread_w (s : ByteArray) (w : World) (hsm : s.size < 140737488355328) : Calls Tryz.prog 15 #[.string s] w (FlPost w (flF s.data.toList).1 (flF s.data.toList).2) := by
  have hl : s.data.toList.length = s.size := by simp
  unfold flF
  cases h : textF s.data.toList with
  | error c => exact sread_bad s c w (by rcases text_err h with rfl | rfl <;> decide) (dof_bad w hsm h)
  | ok d =>
    obtain ⟨n, l, e⟩ := d
    have hf := text_form h
    have hll := text_len (by omega) h
    have := sread_good s n l e _ _ w (dof_good w hsm h) (fun W => flo_w n l e W hf (by show l.length < _; have : l.length ≤ _ := hll; omega))
    simp only
    by_cases hi : near64 l e = 9218868437227405312
    · rw [if_pos hi, if_pos hi] at this
      rw [if_pos hi]; exact this
    · rw [if_neg hi, if_neg hi] at this
      rw [if_neg hi]; exact this
end Go.Proofs.YtabmalnandbocaaGreatDoor.Rdr
