/- Chapters 13 and 14 (floats, shortest): contracts of both Text. No conditions beside those that each contract names. -/
import Derived.Test.YtabmalnandbocaaGreatDoorMV
import Derived.Test.YtabmalnandbocaaGreatDoorMT
import Derived.Test.YtabmalnandbocaaGreatDoorShelf
import Derived.Deep.QuietTactic
import Derived.BigQuiet
import Derived.Deep.RegionHeld3
import Derived.Shelf.Unicode.PredsPay
namespace Go.Proofs.YtabmalnandbocaaGreatDoor.Num
set_option exponentiation.threshold 3000
set_option linter.unusedVariables false
set_option linter.unusedSimpArgs false
set_option exponentiation.threshold 3000
open Go.RowKit Go.Proofs.YtabmalnandbocaaGreatDoor.Mem Go.Proofs.YtabmalnandbocaaGreatDoor.Own Go.Proofs.YtabmalnandbocaaGreatDoor.Big Go.Proofs.YtabmalnandbocaaGreatDoor.Str
def TxPost (w : World) (l : List UInt8) (en : Ending) (w' : World) : Prop := en = .returned (.tuple #[.string ⟨l.toArray⟩, .int .i64 0]) ∧ Below w.heap.size w w'
def DxPost (w : World) (v : Value) (e : Int) (en : Ending) (w' : World) : Prop := en = .returned (.tuple #[v, .int .i64 e]) ∧ Below w.heap.size w w'
def RpPost (w : World) (q : Nat) (en : Ending) (w' : World) : Prop := en = .returned (.string ⟨(List.replicate q 48).toArray⟩) ∧ Below w.heap.size w w'
theorem repeat_one (q : Nat) : Lib.repeatL [48] q = List.replicate q (48 : UInt8) := by
  induction q with
  | zero => rfl
  | succ q ih => rw [List.replicate_succ, ← ih]; rfl
theorem repeat_w (q : Nat) (w : World) (hq : q ≤ 3000) : Calls Tryz.prog 19 #[.string ⟨#[48]⟩, .int .i64 (q : Nat)] w (RpPost w q) := by
  refine (Tryz.strings_Repeat ⟨#[48]⟩ q w (by omega) (by show 1 * q ≤ _; omega)).mono fun en w' hh => ?_
  obtain ⟨rfl, hb⟩ := hh
  exact ⟨by rw [show (⟨#[48]⟩ : ByteArray).data.toList = [48] from rfl, repeat_one], hb⟩
theorem repeat_z (z : Int) (q : Nat) (w : World) (hz : z = (q : Nat)) (hq : q ≤ 3000) : Calls Tryz.prog 19 #[.string ⟨#[48]⟩, .int .i64 z] w (RpPost w q) := by subst hz; exact repeat_w q w hq
theorem tx_end (S : ByteArray) (L : List UInt8) (w w' : World) (h : S.data.toList = L) (hb : Below w.heap.size w w') : TxPost w L (.returned (.tuple #[.string S, .int .i64 0])) w' := ⟨by rw [str_of h], hb⟩
set_option maxHeartbeats 8000000 in
set_option maxRecDepth 100000 in
theorem text_1 (x : Nat) (neg : Bool) (l : List UInt8) (e : Int) (w : World) (h1 : ∀ W, Calls Tryz.prog 13 #[.float .f64 x] W (DxPost W (.agg #[.bool neg, .string ⟨l.toArray⟩, .int .i64 e]) 0)) (hl : l.length ≤ 3000) (he1 : -9000 ≤ e) (he2 : e ≤ 9000) (hn : l.length = 0) :
    Calls Tryz.prog 9 #[.float .f64 x] w (TxPost w (writeF neg l e)) := by
  have HD := Lib.hid h1
  clear h1
  have hlz : (⟨l.toArray⟩ : ByteArray).size = l.length := by simp [ByteArray.size]
  have HW := Lib.hid (show ∀ b, writeF b l e = (if b then [45] else []) ++ [48] from fun b => by show _ ++ bodyF l e = _; congr 1; unfold bodyF; rw [if_pos hn])
  have t1 : ((l.length : Int) == 0) = true := by rw [beq_iff_eq]; omega
  cases neg
  · go_enter Tryz.func9, Tryz.ntmps9
    go_wp2_with fail
    refine (HD.out _).mono ?_
    rintro en w1 ⟨rfl, b1⟩
    have HK := Lib.hid (Blk.new w1 32 #[.bool false, .string ⟨l.toArray⟩, .int .i64 e])
    have B1 := Lib.hid (b1.alloc b1.size (.cells #[.bool false, .string ⟨l.toArray⟩, .int .i64 e] 32))
    clear b1
    go_wp2_with fail
    go_quiet (fail)
    have c0 : ((w1.alloc (.cells #[.bool false, .string ⟨l.toArray⟩, .int .i64 e] 32)).drewN nq).cell? ⟨w1.heap.size, 0, none⟩ = some (.bool false) := HK.out.cell 0
    have c1 : ((w1.alloc (.cells #[.bool false, .string ⟨l.toArray⟩, .int .i64 e] 32)).drewN nq).cell? ⟨w1.heap.size, 1, none⟩ = some (.string ⟨l.toArray⟩) := HK.out.cell 1
    have c2 : ((w1.alloc (.cells #[.bool false, .string ⟨l.toArray⟩, .int .i64 e] 32)).drewN nq).cell? ⟨w1.heap.size, 2, none⟩ = some (.int .i64 e) := HK.out.cell 2
    have B2 : Hid (Below w.heap.size w ((w1.alloc (.cells #[.bool false, .string ⟨l.toArray⟩, .int .i64 e] 32)).drewN nq)) := Lib.hid (bdrewN B1.out nq)
    generalize (w1.alloc (.cells #[.bool false, .string ⟨l.toArray⟩, .int .i64 e] 32)).drewN nq = W3 at *
    clear HK B1
    go_wp2_with fail
    go_ret2
    exact tx_end _ _ _ _ (by rw [HW.out]; simp) B2.out
  · go_enter Tryz.func9, Tryz.ntmps9
    go_wp2_with fail
    refine (HD.out _).mono ?_
    rintro en w1 ⟨rfl, b1⟩
    have HK := Lib.hid (Blk.new w1 32 #[.bool true, .string ⟨l.toArray⟩, .int .i64 e])
    have B1 := Lib.hid (b1.alloc b1.size (.cells #[.bool true, .string ⟨l.toArray⟩, .int .i64 e] 32))
    clear b1
    go_wp2_with fail
    go_quiet (fail)
    have c0 : ((w1.alloc (.cells #[.bool true, .string ⟨l.toArray⟩, .int .i64 e] 32)).drewN nq).cell? ⟨w1.heap.size, 0, none⟩ = some (.bool true) := HK.out.cell 0
    have c1 : ((w1.alloc (.cells #[.bool true, .string ⟨l.toArray⟩, .int .i64 e] 32)).drewN nq).cell? ⟨w1.heap.size, 1, none⟩ = some (.string ⟨l.toArray⟩) := HK.out.cell 1
    have c2 : ((w1.alloc (.cells #[.bool true, .string ⟨l.toArray⟩, .int .i64 e] 32)).drewN nq).cell? ⟨w1.heap.size, 2, none⟩ = some (.int .i64 e) := HK.out.cell 2
    have B2 : Hid (Below w.heap.size w ((w1.alloc (.cells #[.bool true, .string ⟨l.toArray⟩, .int .i64 e] 32)).drewN nq)) := Lib.hid (bdrewN B1.out nq)
    generalize (w1.alloc (.cells #[.bool true, .string ⟨l.toArray⟩, .int .i64 e] 32)).drewN nq = W3 at *
    clear HK B1
    go_wp2_with fail
    go_ret2
    exact tx_end _ _ _ _ (by rw [HW.out]; simp) B2.out
set_option maxHeartbeats 8000000 in
set_option maxRecDepth 100000 in
theorem text_2 (x : Nat) (neg : Bool) (l : List UInt8) (e : Int) (w : World) (h1 : ∀ W, Calls Tryz.prog 13 #[.float .f64 x] W (DxPost W (.agg #[.bool neg, .string ⟨l.toArray⟩, .int .i64 e]) 0)) (hl : l.length ≤ 3000) (he1 : -9000 ≤ e) (he2 : e ≤ 9000) (hn : 1 ≤ l.length) (h0 : 0 ≤ e) (h21 : e + l.length ≤ 21) :
    Calls Tryz.prog 9 #[.float .f64 x] w (TxPost w (writeF neg l e)) := by
  have HD := Lib.hid h1
  clear h1
  have hlz : (⟨l.toArray⟩ : ByteArray).size = l.length := by simp [ByteArray.size]
  obtain ⟨q, rfl⟩ := Int.eq_ofNat_of_zero_le h0
  have HW := Lib.hid (show ∀ b, writeF b l (q : Int) = (if b then [45] else []) ++ (l ++ List.replicate q 48) from fun b => by show _ ++ bodyF l (q : Int) = _; congr 1; unfold bodyF; rw [if_neg (by omega), if_pos ⟨by omega, h21⟩]; rfl)
  have t1 : ((l.length : Int) == 0) = false := by rw [beq_eq_false_iff_ne]; omega
  have hq : q ≤ 21 := by omega
  have hwq : IntKind.i64.wrap (q : Int) = (q : Int) := IntWalk.i64_in _ (by omega)
  cases neg
  · go_enter Tryz.func9, Tryz.ntmps9
    go_wp2_with fail
    refine (HD.out _).mono ?_
    rintro en w1 ⟨rfl, b1⟩
    have HK := Lib.hid (Blk.new w1 32 #[.bool false, .string ⟨l.toArray⟩, .int .i64 (q : Int)])
    have B1 := Lib.hid (b1.alloc b1.size (.cells #[.bool false, .string ⟨l.toArray⟩, .int .i64 (q : Int)] 32))
    clear b1
    go_wp2_with fail
    go_quiet (fail)
    have c0 : ((w1.alloc (.cells #[.bool false, .string ⟨l.toArray⟩, .int .i64 (q : Int)] 32)).drewN nq).cell? ⟨w1.heap.size, 0, none⟩ = some (.bool false) := HK.out.cell 0
    have c1 : ((w1.alloc (.cells #[.bool false, .string ⟨l.toArray⟩, .int .i64 (q : Int)] 32)).drewN nq).cell? ⟨w1.heap.size, 1, none⟩ = some (.string ⟨l.toArray⟩) := HK.out.cell 1
    have c2 : ((w1.alloc (.cells #[.bool false, .string ⟨l.toArray⟩, .int .i64 (q : Int)] 32)).drewN nq).cell? ⟨w1.heap.size, 2, none⟩ = some (.int .i64 (q : Int)) := HK.out.cell 2
    have B2 : Hid (Below w.heap.size w ((w1.alloc (.cells #[.bool false, .string ⟨l.toArray⟩, .int .i64 (q : Int)] 32)).drewN nq)) := Lib.hid (bdrewN B1.out nq)
    generalize (w1.alloc (.cells #[.bool false, .string ⟨l.toArray⟩, .int .i64 (q : Int)] 32)).drewN nq = W3 at *
    have HLT : Hid (w1.heap.size < W3.heap.size) := Lib.hid (World.block_lt_of_cell? _ _ c1)
    clear HK B1
    go_wp2_with fail
    refine wp_region_held_drew (S := (fun w' => w'.cell? ⟨w1.heap.size, 1, none⟩ = some (.string ⟨l.toArray⟩))) (by kernel_rfl) ?_ (fun hHeld => ?_)
    · exact c1
    refine wpAnyH_take (i := 0) (oi := _) (v := ?_) rfl (by kernel_rfl) (by kernel_rfl) (by kernel_rfl) (fun _ _ _ h => h) (Or.inl ⟨by rfl, ?_⟩) (by assumption) ?_
    rotate_left 1
    · (intro w hSw; (try dsimp only at hSw); (go_simp <;> first | with_reducible rfl | (rw [if_neg (by omega)])))
    (try simp only [Act.put, List.getElem_toArray, List.getElem_cons_zero, List.getElem_cons_succ, List.setIfInBounds_toArray, List.set_cons_zero, List.set_cons_succ])
    refine wpAnyH_take (i := 1) (oi := _) (v := ?_) rfl (by kernel_rfl) (by kernel_rfl) (by kernel_rfl) (fun _ _ _ h => h) (Or.inl ⟨by rfl, ?_⟩) (by assumption) ?_
    rotate_left 1
    · (intro w hSw; (try dsimp only at hSw); (go_simp <;> first | with_reducible rfl | (rw [if_neg (by omega)])))
    (try simp only [Act.put, List.getElem_toArray, List.getElem_cons_zero, List.getElem_cons_succ, List.setIfInBounds_toArray, List.set_cons_zero, List.set_cons_succ])
    refine wpAnyH_take (i := 2) (oi := _) (v := ?_) rfl (by kernel_rfl) (by kernel_rfl) (by kernel_rfl) (fun _ _ _ h => h) (Or.inl ⟨by rfl, ?_⟩) (by assumption) ?_
    rotate_left 1
    · (intro w hSw; (try dsimp only at hSw); (go_simp <;> first | with_reducible rfl | (rw [if_neg (by omega)])))
    (try simp only [Act.put, List.getElem_toArray, List.getElem_cons_zero, List.getElem_cons_succ, List.setIfInBounds_toArray, List.set_cons_zero, List.set_cons_succ])
    refine wpAnyH_take (i := 3) (oi := _) (v := ?_) rfl (by kernel_rfl) (by kernel_rfl) (by kernel_rfl) (fun _ _ _ h => h) (Or.inl ⟨by rfl, ?_⟩) (by assumption) ?_
    rotate_left 1
    · (intro w hSw; (try dsimp only at hSw); (go_simp <;> first | with_reducible rfl | (rw [if_neg (by omega)])))
    (try simp only [Act.put, List.getElem_toArray, List.getElem_cons_zero, List.getElem_cons_succ, List.setIfInBounds_toArray, List.set_cons_zero, List.set_cons_succ])
    refine wpAnyH_take (i := 4) (oi := _) (v := ?_) rfl (by kernel_rfl) (by kernel_rfl) (by kernel_rfl) (fun _ _ _ h => h) (Or.inl ⟨by rfl, ?_⟩) (by assumption) ?_
    rotate_left 1
    · (intro w hSw; (try dsimp only at hSw); (go_simp <;> first | with_reducible rfl | (rw [if_neg (by omega)])))
    (try simp only [Act.put, List.getElem_toArray, List.getElem_cons_zero, List.getElem_cons_succ, List.setIfInBounds_toArray, List.set_cons_zero, List.set_cons_succ])
    refine wpAnyH_take (i := 5) (oi := _) (v := ?_) rfl (by kernel_rfl) (by kernel_rfl) (by kernel_rfl) (fun _ _ _ h => h) (Or.inl ⟨by rfl, ?_⟩) (by assumption) ?_
    rotate_left 1
    · (intro w hSw; (try dsimp only at hSw); (go_simp <;> first | with_reducible rfl | (rw [if_neg (by omega)])))
    (try simp only [Act.put, List.getElem_toArray, List.getElem_cons_zero, List.getElem_cons_succ, List.setIfInBounds_toArray, List.set_cons_zero, List.set_cons_succ])
    refine wpAnyH_take (i := 6) (oi := _) (v := ?_) rfl (by kernel_rfl) (by kernel_rfl) (by kernel_rfl) (fun _ _ _ h => h) (Or.inl ⟨by rfl, ?_⟩) (by assumption) ?_
    rotate_left 1
    · (intro w hSw; (try dsimp only at hSw); (go_simp <;> first | with_reducible rfl | (rw [if_neg (by omega)])))
    (try simp only [Act.put, List.getElem_toArray, List.getElem_cons_zero, List.getElem_cons_succ, List.setIfInBounds_toArray, List.set_cons_zero, List.set_cons_succ])
    refine wpAnyH_ready (rs := [7]) (by kernel_rfl) (by simp) ?_
    refine AllReadyH.cons (o := _) rfl (fun K hK => ?_) ?_
    · go_simp
      refine (repeat_z _ q _ (by first | omega | rw [hwq]) (by omega)).mono ?_
      rintro en w4 ⟨rfl, b4⟩
      have d1 : w4.cell? ⟨w1.heap.size, 1, none⟩ = some (.string ⟨l.toArray⟩) := (b4.cell (p := ⟨w1.heap.size, 1, none⟩) HLT.out).trans c1
      have B4 := Lib.hid (bthen (bdrewN B2.out _) b4)
      clear b4
      go_simp
      refine hK.out _ _ ?_ (fun hHeld => ?_)
      · exact d1
      clear hK K
      (try simp only [Act.put, List.getElem_toArray, List.getElem_cons_zero, List.getElem_cons_succ, List.setIfInBounds_toArray, List.set_cons_zero, List.set_cons_succ])
      refine wpAnyH_take (i := 8) (oi := _) (v := ?_) rfl (by kernel_rfl) (by kernel_rfl) (by kernel_rfl) (fun _ _ _ h => h) (Or.inl ⟨by rfl, ?_⟩) (by assumption) ?_
      rotate_left 1
      · (intro w hSw; (try dsimp only at hSw); (go_simp <;> first | with_reducible rfl | (rw [if_neg (by omega)])))
      (try simp only [Act.put, List.getElem_toArray, List.getElem_cons_zero, List.getElem_cons_succ, List.setIfInBounds_toArray, List.set_cons_zero, List.set_cons_succ])
      refine wpAnyH_take (i := 9) (oi := _) (v := ?_) rfl (by kernel_rfl) (by kernel_rfl) (by kernel_rfl) (fun _ _ _ h => h) (Or.inl ⟨by rfl, ?_⟩) (by assumption) ?_
      rotate_left 1
      · (intro w hSw; (try dsimp only at hSw); (go_simp <;> first | with_reducible rfl | (rw [if_neg (by omega)])))
      (try simp only [Act.put, List.getElem_toArray, List.getElem_cons_zero, List.getElem_cons_succ, List.setIfInBounds_toArray, List.set_cons_zero, List.set_cons_succ])
      refine wpAnyH_take (i := 10) (oi := _) (v := ?_) rfl (by kernel_rfl) (by kernel_rfl) (by kernel_rfl) (fun _ _ _ h => h) (Or.inl ⟨by rfl, ?_⟩) (by assumption) ?_
      rotate_left 1
      · (intro w hSw; (try dsimp only at hSw); (go_simp <;> first | with_reducible rfl | (rw [if_neg (by omega)])))
      (try simp only [Act.put, List.getElem_toArray, List.getElem_cons_zero, List.getElem_cons_succ, List.setIfInBounds_toArray, List.set_cons_zero, List.set_cons_succ])
      refine wpAnyH_done (by kernel_rfl) ?_ _
      go_wp2_with fail
      go_ret2
      exact tx_end _ _ _ _ (by rw [HW.out]; simp) B4.out
    exact AllReadyH.nil
  · go_enter Tryz.func9, Tryz.ntmps9
    go_wp2_with fail
    refine (HD.out _).mono ?_
    rintro en w1 ⟨rfl, b1⟩
    have HK := Lib.hid (Blk.new w1 32 #[.bool true, .string ⟨l.toArray⟩, .int .i64 (q : Int)])
    have B1 := Lib.hid (b1.alloc b1.size (.cells #[.bool true, .string ⟨l.toArray⟩, .int .i64 (q : Int)] 32))
    clear b1
    go_wp2_with fail
    go_quiet (fail)
    have c0 : ((w1.alloc (.cells #[.bool true, .string ⟨l.toArray⟩, .int .i64 (q : Int)] 32)).drewN nq).cell? ⟨w1.heap.size, 0, none⟩ = some (.bool true) := HK.out.cell 0
    have c1 : ((w1.alloc (.cells #[.bool true, .string ⟨l.toArray⟩, .int .i64 (q : Int)] 32)).drewN nq).cell? ⟨w1.heap.size, 1, none⟩ = some (.string ⟨l.toArray⟩) := HK.out.cell 1
    have c2 : ((w1.alloc (.cells #[.bool true, .string ⟨l.toArray⟩, .int .i64 (q : Int)] 32)).drewN nq).cell? ⟨w1.heap.size, 2, none⟩ = some (.int .i64 (q : Int)) := HK.out.cell 2
    have B2 : Hid (Below w.heap.size w ((w1.alloc (.cells #[.bool true, .string ⟨l.toArray⟩, .int .i64 (q : Int)] 32)).drewN nq)) := Lib.hid (bdrewN B1.out nq)
    generalize (w1.alloc (.cells #[.bool true, .string ⟨l.toArray⟩, .int .i64 (q : Int)] 32)).drewN nq = W3 at *
    have HLT : Hid (w1.heap.size < W3.heap.size) := Lib.hid (World.block_lt_of_cell? _ _ c1)
    clear HK B1
    go_wp2_with fail
    refine wp_region_held_drew (S := (fun w' => w'.cell? ⟨w1.heap.size, 1, none⟩ = some (.string ⟨l.toArray⟩))) (by kernel_rfl) ?_ (fun hHeld => ?_)
    · exact c1
    refine wpAnyH_take (i := 0) (oi := _) (v := ?_) rfl (by kernel_rfl) (by kernel_rfl) (by kernel_rfl) (fun _ _ _ h => h) (Or.inl ⟨by rfl, ?_⟩) (by assumption) ?_
    rotate_left 1
    · (intro w hSw; (try dsimp only at hSw); (go_simp <;> first | with_reducible rfl | (rw [if_neg (by omega)])))
    (try simp only [Act.put, List.getElem_toArray, List.getElem_cons_zero, List.getElem_cons_succ, List.setIfInBounds_toArray, List.set_cons_zero, List.set_cons_succ])
    refine wpAnyH_take (i := 1) (oi := _) (v := ?_) rfl (by kernel_rfl) (by kernel_rfl) (by kernel_rfl) (fun _ _ _ h => h) (Or.inl ⟨by rfl, ?_⟩) (by assumption) ?_
    rotate_left 1
    · (intro w hSw; (try dsimp only at hSw); (go_simp <;> first | with_reducible rfl | (rw [if_neg (by omega)])))
    (try simp only [Act.put, List.getElem_toArray, List.getElem_cons_zero, List.getElem_cons_succ, List.setIfInBounds_toArray, List.set_cons_zero, List.set_cons_succ])
    refine wpAnyH_take (i := 2) (oi := _) (v := ?_) rfl (by kernel_rfl) (by kernel_rfl) (by kernel_rfl) (fun _ _ _ h => h) (Or.inl ⟨by rfl, ?_⟩) (by assumption) ?_
    rotate_left 1
    · (intro w hSw; (try dsimp only at hSw); (go_simp <;> first | with_reducible rfl | (rw [if_neg (by omega)])))
    (try simp only [Act.put, List.getElem_toArray, List.getElem_cons_zero, List.getElem_cons_succ, List.setIfInBounds_toArray, List.set_cons_zero, List.set_cons_succ])
    refine wpAnyH_take (i := 3) (oi := _) (v := ?_) rfl (by kernel_rfl) (by kernel_rfl) (by kernel_rfl) (fun _ _ _ h => h) (Or.inl ⟨by rfl, ?_⟩) (by assumption) ?_
    rotate_left 1
    · (intro w hSw; (try dsimp only at hSw); (go_simp <;> first | with_reducible rfl | (rw [if_neg (by omega)])))
    (try simp only [Act.put, List.getElem_toArray, List.getElem_cons_zero, List.getElem_cons_succ, List.setIfInBounds_toArray, List.set_cons_zero, List.set_cons_succ])
    refine wpAnyH_take (i := 4) (oi := _) (v := ?_) rfl (by kernel_rfl) (by kernel_rfl) (by kernel_rfl) (fun _ _ _ h => h) (Or.inl ⟨by rfl, ?_⟩) (by assumption) ?_
    rotate_left 1
    · (intro w hSw; (try dsimp only at hSw); (go_simp <;> first | with_reducible rfl | (rw [if_neg (by omega)])))
    (try simp only [Act.put, List.getElem_toArray, List.getElem_cons_zero, List.getElem_cons_succ, List.setIfInBounds_toArray, List.set_cons_zero, List.set_cons_succ])
    refine wpAnyH_take (i := 5) (oi := _) (v := ?_) rfl (by kernel_rfl) (by kernel_rfl) (by kernel_rfl) (fun _ _ _ h => h) (Or.inl ⟨by rfl, ?_⟩) (by assumption) ?_
    rotate_left 1
    · (intro w hSw; (try dsimp only at hSw); (go_simp <;> first | with_reducible rfl | (rw [if_neg (by omega)])))
    (try simp only [Act.put, List.getElem_toArray, List.getElem_cons_zero, List.getElem_cons_succ, List.setIfInBounds_toArray, List.set_cons_zero, List.set_cons_succ])
    refine wpAnyH_take (i := 6) (oi := _) (v := ?_) rfl (by kernel_rfl) (by kernel_rfl) (by kernel_rfl) (fun _ _ _ h => h) (Or.inl ⟨by rfl, ?_⟩) (by assumption) ?_
    rotate_left 1
    · (intro w hSw; (try dsimp only at hSw); (go_simp <;> first | with_reducible rfl | (rw [if_neg (by omega)])))
    (try simp only [Act.put, List.getElem_toArray, List.getElem_cons_zero, List.getElem_cons_succ, List.setIfInBounds_toArray, List.set_cons_zero, List.set_cons_succ])
    refine wpAnyH_ready (rs := [7]) (by kernel_rfl) (by simp) ?_
    refine AllReadyH.cons (o := _) rfl (fun K hK => ?_) ?_
    · go_simp
      refine (repeat_z _ q _ (by first | omega | rw [hwq]) (by omega)).mono ?_
      rintro en w4 ⟨rfl, b4⟩
      have d1 : w4.cell? ⟨w1.heap.size, 1, none⟩ = some (.string ⟨l.toArray⟩) := (b4.cell (p := ⟨w1.heap.size, 1, none⟩) HLT.out).trans c1
      have B4 := Lib.hid (bthen (bdrewN B2.out _) b4)
      clear b4
      go_simp
      refine hK.out _ _ ?_ (fun hHeld => ?_)
      · exact d1
      clear hK K
      (try simp only [Act.put, List.getElem_toArray, List.getElem_cons_zero, List.getElem_cons_succ, List.setIfInBounds_toArray, List.set_cons_zero, List.set_cons_succ])
      refine wpAnyH_take (i := 8) (oi := _) (v := ?_) rfl (by kernel_rfl) (by kernel_rfl) (by kernel_rfl) (fun _ _ _ h => h) (Or.inl ⟨by rfl, ?_⟩) (by assumption) ?_
      rotate_left 1
      · (intro w hSw; (try dsimp only at hSw); (go_simp <;> first | with_reducible rfl | (rw [if_neg (by omega)])))
      (try simp only [Act.put, List.getElem_toArray, List.getElem_cons_zero, List.getElem_cons_succ, List.setIfInBounds_toArray, List.set_cons_zero, List.set_cons_succ])
      refine wpAnyH_take (i := 9) (oi := _) (v := ?_) rfl (by kernel_rfl) (by kernel_rfl) (by kernel_rfl) (fun _ _ _ h => h) (Or.inl ⟨by rfl, ?_⟩) (by assumption) ?_
      rotate_left 1
      · (intro w hSw; (try dsimp only at hSw); (go_simp <;> first | with_reducible rfl | (rw [if_neg (by omega)])))
      (try simp only [Act.put, List.getElem_toArray, List.getElem_cons_zero, List.getElem_cons_succ, List.setIfInBounds_toArray, List.set_cons_zero, List.set_cons_succ])
      refine wpAnyH_take (i := 10) (oi := _) (v := ?_) rfl (by kernel_rfl) (by kernel_rfl) (by kernel_rfl) (fun _ _ _ h => h) (Or.inl ⟨by rfl, ?_⟩) (by assumption) ?_
      rotate_left 1
      · (intro w hSw; (try dsimp only at hSw); (go_simp <;> first | with_reducible rfl | (rw [if_neg (by omega)])))
      (try simp only [Act.put, List.getElem_toArray, List.getElem_cons_zero, List.getElem_cons_succ, List.setIfInBounds_toArray, List.set_cons_zero, List.set_cons_succ])
      refine wpAnyH_done (by kernel_rfl) ?_ _
      go_wp2_with fail
      go_ret2
      exact tx_end _ _ _ _ (by rw [HW.out]; simp) B4.out
    exact AllReadyH.nil
set_option maxHeartbeats 8000000 in
set_option maxRecDepth 100000 in
theorem text_3 (x : Nat) (neg : Bool) (l : List UInt8) (e : Int) (w : World) (h1 : ∀ W, Calls Tryz.prog 13 #[.float .f64 x] W (DxPost W (.agg #[.bool neg, .string ⟨l.toArray⟩, .int .i64 e]) 0)) (hl : l.length ≤ 3000) (he1 : -9000 ≤ e) (he2 : e ≤ 9000) (hn : 1 ≤ l.length) (h0 : e < 0) (hp1 : 1 ≤ e + l.length) (h21 : e + l.length ≤ 21) :
    Calls Tryz.prog 9 #[.float .f64 x] w (TxPost w (writeF neg l e)) := by
  have HD := Lib.hid h1
  clear h1
  have hlz : (⟨l.toArray⟩ : ByteArray).size = l.length := by simp [ByteArray.size]
  obtain ⟨p, hp⟩ : ∃ p : Nat, e + (l.length : Int) = (p : Int) := ⟨(e + l.length).toNat, by omega⟩
  obtain ⟨P, hP, hPl, hPs⟩ := sl_to ⟨l.toArray⟩ (e + (l.length : Int)) p hp (by rw [hlz]; omega)
  obtain ⟨Q, hQ, hQl, hQs⟩ := sl_from ⟨l.toArray⟩ (e + (l.length : Int)) p hp (by rw [hlz]; omega)
  have hPb : P.size ≤ 3000 := by omega
  have hQb : Q.size ≤ 3000 := by omega
  have HPQ := Lib.hid (show P.data.toList = l.take p ∧ Q.data.toList = l.drop p from ⟨hPl, hQl⟩)
  have HW := Lib.hid (show ∀ b, writeF b l e = (if b then [45] else []) ++ (l.take p ++ 46 :: l.drop p) from fun b => by show _ ++ bodyF l e = _; congr 1; unfold bodyF; rw [if_neg (by omega), if_neg (by omega), if_pos ⟨by omega, h21⟩, hp]; rfl)
  have t1 : ((l.length : Int) == 0) = false := by rw [beq_eq_false_iff_ne]; omega
  have t2 : decide ((l.length : Int) ≤ e + (l.length : Int)) = false := decide_eq_false (by omega)
  have t3 : ¬ 0 ≤ e := by omega
  have hwp : IntKind.i64.wrap (e + (l.length : Int)) = e + (l.length : Int) := IntWalk.i64_in _ (by omega)
  clear hPl hQl hPs hQs hp
  cases neg
  · go_enter Tryz.func9, Tryz.ntmps9
    go_wp2_with fail
    refine (HD.out _).mono ?_
    rintro en w1 ⟨rfl, b1⟩
    have HK := Lib.hid (Blk.new w1 32 #[.bool false, .string ⟨l.toArray⟩, .int .i64 e])
    have B1 := Lib.hid (b1.alloc b1.size (.cells #[.bool false, .string ⟨l.toArray⟩, .int .i64 e] 32))
    clear b1
    go_wp2_with fail
    go_quiet (fail)
    have c0 : ((w1.alloc (.cells #[.bool false, .string ⟨l.toArray⟩, .int .i64 e] 32)).drewN nq).cell? ⟨w1.heap.size, 0, none⟩ = some (.bool false) := HK.out.cell 0
    have c1 : ((w1.alloc (.cells #[.bool false, .string ⟨l.toArray⟩, .int .i64 e] 32)).drewN nq).cell? ⟨w1.heap.size, 1, none⟩ = some (.string ⟨l.toArray⟩) := HK.out.cell 1
    have c2 : ((w1.alloc (.cells #[.bool false, .string ⟨l.toArray⟩, .int .i64 e] 32)).drewN nq).cell? ⟨w1.heap.size, 2, none⟩ = some (.int .i64 e) := HK.out.cell 2
    have B2 : Hid (Below w.heap.size w ((w1.alloc (.cells #[.bool false, .string ⟨l.toArray⟩, .int .i64 e] 32)).drewN nq)) := Lib.hid (bdrewN B1.out nq)
    generalize (w1.alloc (.cells #[.bool false, .string ⟨l.toArray⟩, .int .i64 e] 32)).drewN nq = W3 at *
    clear HK B1
    go_wp2_with fail
    go_quiet (fail)
    go_wp2_with fail
    go_ret2
    exact tx_end _ _ _ _ (by rw [HW.out]; simp [HPQ.out.1, HPQ.out.2]) (bdrewN B2.out _)
  · go_enter Tryz.func9, Tryz.ntmps9
    go_wp2_with fail
    refine (HD.out _).mono ?_
    rintro en w1 ⟨rfl, b1⟩
    have HK := Lib.hid (Blk.new w1 32 #[.bool true, .string ⟨l.toArray⟩, .int .i64 e])
    have B1 := Lib.hid (b1.alloc b1.size (.cells #[.bool true, .string ⟨l.toArray⟩, .int .i64 e] 32))
    clear b1
    go_wp2_with fail
    go_quiet (fail)
    have c0 : ((w1.alloc (.cells #[.bool true, .string ⟨l.toArray⟩, .int .i64 e] 32)).drewN nq).cell? ⟨w1.heap.size, 0, none⟩ = some (.bool true) := HK.out.cell 0
    have c1 : ((w1.alloc (.cells #[.bool true, .string ⟨l.toArray⟩, .int .i64 e] 32)).drewN nq).cell? ⟨w1.heap.size, 1, none⟩ = some (.string ⟨l.toArray⟩) := HK.out.cell 1
    have c2 : ((w1.alloc (.cells #[.bool true, .string ⟨l.toArray⟩, .int .i64 e] 32)).drewN nq).cell? ⟨w1.heap.size, 2, none⟩ = some (.int .i64 e) := HK.out.cell 2
    have B2 : Hid (Below w.heap.size w ((w1.alloc (.cells #[.bool true, .string ⟨l.toArray⟩, .int .i64 e] 32)).drewN nq)) := Lib.hid (bdrewN B1.out nq)
    generalize (w1.alloc (.cells #[.bool true, .string ⟨l.toArray⟩, .int .i64 e] 32)).drewN nq = W3 at *
    clear HK B1
    go_wp2_with fail
    go_quiet (fail)
    go_wp2_with fail
    go_ret2
    exact tx_end _ _ _ _ (by rw [HW.out]; simp [HPQ.out.1, HPQ.out.2]) (bdrewN B2.out _)
set_option maxHeartbeats 8000000 in
set_option maxRecDepth 100000 in
theorem text_4 (x : Nat) (neg : Bool) (l : List UInt8) (e : Int) (w : World) (h1 : ∀ W, Calls Tryz.prog 13 #[.float .f64 x] W (DxPost W (.agg #[.bool neg, .string ⟨l.toArray⟩, .int .i64 e]) 0)) (hl : l.length ≤ 3000) (he1 : -9000 ≤ e) (he2 : e ≤ 9000) (hn : 1 ≤ l.length) (hp5 : -5 ≤ e + l.length) (hp0 : e + l.length ≤ 0) :
    Calls Tryz.prog 9 #[.float .f64 x] w (TxPost w (writeF neg l e)) := by
  have HD := Lib.hid h1
  clear h1
  have hlz : (⟨l.toArray⟩ : ByteArray).size = l.length := by simp [ByteArray.size]
  obtain ⟨q, hq⟩ : ∃ q : Nat, -(e + (l.length : Int)) = (q : Int) := ⟨(-(e + l.length)).toNat, by omega⟩
  have HW := Lib.hid (show ∀ b, writeF b l e = (if b then [45] else []) ++ (48 :: 46 :: (List.replicate q 48 ++ l)) from fun b => by show _ ++ bodyF l e = _; congr 1; unfold bodyF; rw [if_neg (by omega), if_neg (by omega), if_neg (by omega), if_pos ⟨hp5, hp0⟩, hq]; rfl)
  have t1 : ((l.length : Int) == 0) = false := by rw [beq_eq_false_iff_ne]; omega
  have t2 : decide ((l.length : Int) ≤ e + (l.length : Int)) = false := decide_eq_false (by omega)
  have t3 : ¬ 0 ≤ e := by omega
  have HQ := Lib.hid hq
  have hqb : q ≤ 5 := by omega
  have hwq : IntKind.i64.wrap (-(e + (l.length : Int))) = -(e + (l.length : Int)) := IntWalk.i64_in _ (by omega)
  have hwp : IntKind.i64.wrap (e + (l.length : Int)) = e + (l.length : Int) := IntWalk.i64_in _ (by omega)
  clear hq
  cases neg
  · go_enter Tryz.func9, Tryz.ntmps9
    go_wp2_with fail
    refine (HD.out _).mono ?_
    rintro en w1 ⟨rfl, b1⟩
    have HK := Lib.hid (Blk.new w1 32 #[.bool false, .string ⟨l.toArray⟩, .int .i64 e])
    have B1 := Lib.hid (b1.alloc b1.size (.cells #[.bool false, .string ⟨l.toArray⟩, .int .i64 e] 32))
    clear b1
    go_wp2_with fail
    go_quiet (fail)
    have c0 : ((w1.alloc (.cells #[.bool false, .string ⟨l.toArray⟩, .int .i64 e] 32)).drewN nq).cell? ⟨w1.heap.size, 0, none⟩ = some (.bool false) := HK.out.cell 0
    have c1 : ((w1.alloc (.cells #[.bool false, .string ⟨l.toArray⟩, .int .i64 e] 32)).drewN nq).cell? ⟨w1.heap.size, 1, none⟩ = some (.string ⟨l.toArray⟩) := HK.out.cell 1
    have c2 : ((w1.alloc (.cells #[.bool false, .string ⟨l.toArray⟩, .int .i64 e] 32)).drewN nq).cell? ⟨w1.heap.size, 2, none⟩ = some (.int .i64 e) := HK.out.cell 2
    have B2 : Hid (Below w.heap.size w ((w1.alloc (.cells #[.bool false, .string ⟨l.toArray⟩, .int .i64 e] 32)).drewN nq)) := Lib.hid (bdrewN B1.out nq)
    generalize (w1.alloc (.cells #[.bool false, .string ⟨l.toArray⟩, .int .i64 e] 32)).drewN nq = W3 at *
    have HLT : Hid (w1.heap.size < W3.heap.size) := Lib.hid (World.block_lt_of_cell? _ _ c1)
    clear HK B1
    go_wp2_with fail
    refine wp_region_held_drew (S := (fun w' => w'.cell? ⟨w1.heap.size, 1, none⟩ = some (.string ⟨l.toArray⟩))) (by kernel_rfl) ?_ (fun hHeld => ?_)
    · exact c1
    refine wpAnyH_take (i := 0) (oi := _) (v := ?_) rfl (by kernel_rfl) (by kernel_rfl) (by kernel_rfl) (fun _ _ _ h => h) (Or.inl ⟨by rfl, ?_⟩) (by assumption) ?_
    rotate_left 1
    · (intro w hSw; (try dsimp only at hSw); (go_simp <;> first | with_reducible rfl | (rw [if_neg (by omega)])))
    (try simp only [Act.put, List.getElem_toArray, List.getElem_cons_zero, List.getElem_cons_succ, List.setIfInBounds_toArray, List.set_cons_zero, List.set_cons_succ])
    refine wpAnyH_take (i := 1) (oi := _) (v := ?_) rfl (by kernel_rfl) (by kernel_rfl) (by kernel_rfl) (fun _ _ _ h => h) (Or.inl ⟨by rfl, ?_⟩) (by assumption) ?_
    rotate_left 1
    · (intro w hSw; (try dsimp only at hSw); (go_simp <;> first | with_reducible rfl | (rw [if_neg (by omega)])))
    (try simp only [Act.put, List.getElem_toArray, List.getElem_cons_zero, List.getElem_cons_succ, List.setIfInBounds_toArray, List.set_cons_zero, List.set_cons_succ])
    refine wpAnyH_take (i := 2) (oi := _) (v := ?_) rfl (by kernel_rfl) (by kernel_rfl) (by kernel_rfl) (fun _ _ _ h => h) (Or.inl ⟨by rfl, ?_⟩) (by assumption) ?_
    rotate_left 1
    · (intro w hSw; (try dsimp only at hSw); (go_simp <;> first | with_reducible rfl | (rw [if_neg (by omega)])))
    (try simp only [Act.put, List.getElem_toArray, List.getElem_cons_zero, List.getElem_cons_succ, List.setIfInBounds_toArray, List.set_cons_zero, List.set_cons_succ])
    refine wpAnyH_take (i := 3) (oi := _) (v := ?_) rfl (by kernel_rfl) (by kernel_rfl) (by kernel_rfl) (fun _ _ _ h => h) (Or.inl ⟨by rfl, ?_⟩) (by assumption) ?_
    rotate_left 1
    · (intro w hSw; (try dsimp only at hSw); (go_simp <;> first | with_reducible rfl | (rw [if_neg (by omega)])))
    (try simp only [Act.put, List.getElem_toArray, List.getElem_cons_zero, List.getElem_cons_succ, List.setIfInBounds_toArray, List.set_cons_zero, List.set_cons_succ])
    refine wpAnyH_take (i := 6) (oi := _) (v := ?_) rfl (by kernel_rfl) (by kernel_rfl) (by kernel_rfl) (fun _ _ _ h => h) (Or.inl ⟨by rfl, ?_⟩) (by assumption) ?_
    rotate_left 1
    · (intro w hSw; (try dsimp only at hSw); (go_simp <;> first | with_reducible rfl | (rw [if_neg (by omega)])))
    (try simp only [Act.put, List.getElem_toArray, List.getElem_cons_zero, List.getElem_cons_succ, List.setIfInBounds_toArray, List.set_cons_zero, List.set_cons_succ])
    refine wpAnyH_take (i := 7) (oi := _) (v := ?_) rfl (by kernel_rfl) (by kernel_rfl) (by kernel_rfl) (fun _ _ _ h => h) (Or.inl ⟨by rfl, ?_⟩) (by assumption) ?_
    rotate_left 1
    · (intro w hSw; (try dsimp only at hSw); (go_simp <;> first | with_reducible rfl | (rw [if_neg (by omega)])))
    (try simp only [Act.put, List.getElem_toArray, List.getElem_cons_zero, List.getElem_cons_succ, List.setIfInBounds_toArray, List.set_cons_zero, List.set_cons_succ])
    refine wpAnyH_ready (rs := [4]) (by kernel_rfl) (by simp) ?_
    refine AllReadyH.cons (o := _) rfl (fun K hK => ?_) ?_
    · go_simp
      refine (repeat_z _ q _ (by first | exact HQ.out | (have := HQ.out; omega)) (by omega)).mono ?_
      rintro en w4 ⟨rfl, b4⟩
      have d1 : w4.cell? ⟨w1.heap.size, 1, none⟩ = some (.string ⟨l.toArray⟩) := (b4.cell (p := ⟨w1.heap.size, 1, none⟩) HLT.out).trans c1
      have B4 := Lib.hid (bthen (bdrewN B2.out _) b4)
      clear b4
      go_simp
      refine hK.out _ _ ?_ (fun hHeld => ?_)
      · exact d1
      clear hK K
      (try simp only [Act.put, List.getElem_toArray, List.getElem_cons_zero, List.getElem_cons_succ, List.setIfInBounds_toArray, List.set_cons_zero, List.set_cons_succ])
      refine wpAnyH_take (i := 5) (oi := _) (v := ?_) rfl (by kernel_rfl) (by kernel_rfl) (by kernel_rfl) (fun _ _ _ h => h) (Or.inl ⟨by rfl, ?_⟩) (by assumption) ?_
      rotate_left 1
      · (intro w hSw; (try dsimp only at hSw); (go_simp <;> first | with_reducible rfl | (rw [if_neg (by omega)])))
      (try simp only [Act.put, List.getElem_toArray, List.getElem_cons_zero, List.getElem_cons_succ, List.setIfInBounds_toArray, List.set_cons_zero, List.set_cons_succ])
      refine wpAnyH_take (i := 8) (oi := _) (v := ?_) rfl (by kernel_rfl) (by kernel_rfl) (by kernel_rfl) (fun _ _ _ h => h) (Or.inl ⟨by rfl, ?_⟩) (by assumption) ?_
      rotate_left 1
      · (intro w hSw; (try dsimp only at hSw); (go_simp <;> first | with_reducible rfl | (rw [if_neg (by omega)])))
      (try simp only [Act.put, List.getElem_toArray, List.getElem_cons_zero, List.getElem_cons_succ, List.setIfInBounds_toArray, List.set_cons_zero, List.set_cons_succ])
      refine wpAnyH_take (i := 9) (oi := _) (v := ?_) rfl (by kernel_rfl) (by kernel_rfl) (by kernel_rfl) (fun _ _ _ h => h) (Or.inl ⟨by rfl, ?_⟩) (by assumption) ?_
      rotate_left 1
      · (intro w hSw; (try dsimp only at hSw); (go_simp <;> first | with_reducible rfl | (rw [if_neg (by omega)])))
      (try simp only [Act.put, List.getElem_toArray, List.getElem_cons_zero, List.getElem_cons_succ, List.setIfInBounds_toArray, List.set_cons_zero, List.set_cons_succ])
      refine wpAnyH_take (i := 10) (oi := _) (v := ?_) rfl (by kernel_rfl) (by kernel_rfl) (by kernel_rfl) (fun _ _ _ h => h) (Or.inl ⟨by rfl, ?_⟩) (by assumption) ?_
      rotate_left 1
      · (intro w hSw; (try dsimp only at hSw); (go_simp <;> first | with_reducible rfl | (rw [if_neg (by omega)])))
      (try simp only [Act.put, List.getElem_toArray, List.getElem_cons_zero, List.getElem_cons_succ, List.setIfInBounds_toArray, List.set_cons_zero, List.set_cons_succ])
      refine wpAnyH_done (by kernel_rfl) ?_ _
      go_wp2_with fail
      go_ret2
      exact tx_end _ _ _ _ (by rw [HW.out]; simp) B4.out
    exact AllReadyH.nil
  · go_enter Tryz.func9, Tryz.ntmps9
    go_wp2_with fail
    refine (HD.out _).mono ?_
    rintro en w1 ⟨rfl, b1⟩
    have HK := Lib.hid (Blk.new w1 32 #[.bool true, .string ⟨l.toArray⟩, .int .i64 e])
    have B1 := Lib.hid (b1.alloc b1.size (.cells #[.bool true, .string ⟨l.toArray⟩, .int .i64 e] 32))
    clear b1
    go_wp2_with fail
    go_quiet (fail)
    have c0 : ((w1.alloc (.cells #[.bool true, .string ⟨l.toArray⟩, .int .i64 e] 32)).drewN nq).cell? ⟨w1.heap.size, 0, none⟩ = some (.bool true) := HK.out.cell 0
    have c1 : ((w1.alloc (.cells #[.bool true, .string ⟨l.toArray⟩, .int .i64 e] 32)).drewN nq).cell? ⟨w1.heap.size, 1, none⟩ = some (.string ⟨l.toArray⟩) := HK.out.cell 1
    have c2 : ((w1.alloc (.cells #[.bool true, .string ⟨l.toArray⟩, .int .i64 e] 32)).drewN nq).cell? ⟨w1.heap.size, 2, none⟩ = some (.int .i64 e) := HK.out.cell 2
    have B2 : Hid (Below w.heap.size w ((w1.alloc (.cells #[.bool true, .string ⟨l.toArray⟩, .int .i64 e] 32)).drewN nq)) := Lib.hid (bdrewN B1.out nq)
    generalize (w1.alloc (.cells #[.bool true, .string ⟨l.toArray⟩, .int .i64 e] 32)).drewN nq = W3 at *
    have HLT : Hid (w1.heap.size < W3.heap.size) := Lib.hid (World.block_lt_of_cell? _ _ c1)
    clear HK B1
    go_wp2_with fail
    refine wp_region_held_drew (S := (fun w' => w'.cell? ⟨w1.heap.size, 1, none⟩ = some (.string ⟨l.toArray⟩))) (by kernel_rfl) ?_ (fun hHeld => ?_)
    · exact c1
    refine wpAnyH_take (i := 0) (oi := _) (v := ?_) rfl (by kernel_rfl) (by kernel_rfl) (by kernel_rfl) (fun _ _ _ h => h) (Or.inl ⟨by rfl, ?_⟩) (by assumption) ?_
    rotate_left 1
    · (intro w hSw; (try dsimp only at hSw); (go_simp <;> first | with_reducible rfl | (rw [if_neg (by omega)])))
    (try simp only [Act.put, List.getElem_toArray, List.getElem_cons_zero, List.getElem_cons_succ, List.setIfInBounds_toArray, List.set_cons_zero, List.set_cons_succ])
    refine wpAnyH_take (i := 1) (oi := _) (v := ?_) rfl (by kernel_rfl) (by kernel_rfl) (by kernel_rfl) (fun _ _ _ h => h) (Or.inl ⟨by rfl, ?_⟩) (by assumption) ?_
    rotate_left 1
    · (intro w hSw; (try dsimp only at hSw); (go_simp <;> first | with_reducible rfl | (rw [if_neg (by omega)])))
    (try simp only [Act.put, List.getElem_toArray, List.getElem_cons_zero, List.getElem_cons_succ, List.setIfInBounds_toArray, List.set_cons_zero, List.set_cons_succ])
    refine wpAnyH_take (i := 2) (oi := _) (v := ?_) rfl (by kernel_rfl) (by kernel_rfl) (by kernel_rfl) (fun _ _ _ h => h) (Or.inl ⟨by rfl, ?_⟩) (by assumption) ?_
    rotate_left 1
    · (intro w hSw; (try dsimp only at hSw); (go_simp <;> first | with_reducible rfl | (rw [if_neg (by omega)])))
    (try simp only [Act.put, List.getElem_toArray, List.getElem_cons_zero, List.getElem_cons_succ, List.setIfInBounds_toArray, List.set_cons_zero, List.set_cons_succ])
    refine wpAnyH_take (i := 3) (oi := _) (v := ?_) rfl (by kernel_rfl) (by kernel_rfl) (by kernel_rfl) (fun _ _ _ h => h) (Or.inl ⟨by rfl, ?_⟩) (by assumption) ?_
    rotate_left 1
    · (intro w hSw; (try dsimp only at hSw); (go_simp <;> first | with_reducible rfl | (rw [if_neg (by omega)])))
    (try simp only [Act.put, List.getElem_toArray, List.getElem_cons_zero, List.getElem_cons_succ, List.setIfInBounds_toArray, List.set_cons_zero, List.set_cons_succ])
    refine wpAnyH_take (i := 6) (oi := _) (v := ?_) rfl (by kernel_rfl) (by kernel_rfl) (by kernel_rfl) (fun _ _ _ h => h) (Or.inl ⟨by rfl, ?_⟩) (by assumption) ?_
    rotate_left 1
    · (intro w hSw; (try dsimp only at hSw); (go_simp <;> first | with_reducible rfl | (rw [if_neg (by omega)])))
    (try simp only [Act.put, List.getElem_toArray, List.getElem_cons_zero, List.getElem_cons_succ, List.setIfInBounds_toArray, List.set_cons_zero, List.set_cons_succ])
    refine wpAnyH_take (i := 7) (oi := _) (v := ?_) rfl (by kernel_rfl) (by kernel_rfl) (by kernel_rfl) (fun _ _ _ h => h) (Or.inl ⟨by rfl, ?_⟩) (by assumption) ?_
    rotate_left 1
    · (intro w hSw; (try dsimp only at hSw); (go_simp <;> first | with_reducible rfl | (rw [if_neg (by omega)])))
    (try simp only [Act.put, List.getElem_toArray, List.getElem_cons_zero, List.getElem_cons_succ, List.setIfInBounds_toArray, List.set_cons_zero, List.set_cons_succ])
    refine wpAnyH_ready (rs := [4]) (by kernel_rfl) (by simp) ?_
    refine AllReadyH.cons (o := _) rfl (fun K hK => ?_) ?_
    · go_simp
      refine (repeat_z _ q _ (by first | exact HQ.out | (have := HQ.out; omega)) (by omega)).mono ?_
      rintro en w4 ⟨rfl, b4⟩
      have d1 : w4.cell? ⟨w1.heap.size, 1, none⟩ = some (.string ⟨l.toArray⟩) := (b4.cell (p := ⟨w1.heap.size, 1, none⟩) HLT.out).trans c1
      have B4 := Lib.hid (bthen (bdrewN B2.out _) b4)
      clear b4
      go_simp
      refine hK.out _ _ ?_ (fun hHeld => ?_)
      · exact d1
      clear hK K
      (try simp only [Act.put, List.getElem_toArray, List.getElem_cons_zero, List.getElem_cons_succ, List.setIfInBounds_toArray, List.set_cons_zero, List.set_cons_succ])
      refine wpAnyH_take (i := 5) (oi := _) (v := ?_) rfl (by kernel_rfl) (by kernel_rfl) (by kernel_rfl) (fun _ _ _ h => h) (Or.inl ⟨by rfl, ?_⟩) (by assumption) ?_
      rotate_left 1
      · (intro w hSw; (try dsimp only at hSw); (go_simp <;> first | with_reducible rfl | (rw [if_neg (by omega)])))
      (try simp only [Act.put, List.getElem_toArray, List.getElem_cons_zero, List.getElem_cons_succ, List.setIfInBounds_toArray, List.set_cons_zero, List.set_cons_succ])
      refine wpAnyH_take (i := 8) (oi := _) (v := ?_) rfl (by kernel_rfl) (by kernel_rfl) (by kernel_rfl) (fun _ _ _ h => h) (Or.inl ⟨by rfl, ?_⟩) (by assumption) ?_
      rotate_left 1
      · (intro w hSw; (try dsimp only at hSw); (go_simp <;> first | with_reducible rfl | (rw [if_neg (by omega)])))
      (try simp only [Act.put, List.getElem_toArray, List.getElem_cons_zero, List.getElem_cons_succ, List.setIfInBounds_toArray, List.set_cons_zero, List.set_cons_succ])
      refine wpAnyH_take (i := 9) (oi := _) (v := ?_) rfl (by kernel_rfl) (by kernel_rfl) (by kernel_rfl) (fun _ _ _ h => h) (Or.inl ⟨by rfl, ?_⟩) (by assumption) ?_
      rotate_left 1
      · (intro w hSw; (try dsimp only at hSw); (go_simp <;> first | with_reducible rfl | (rw [if_neg (by omega)])))
      (try simp only [Act.put, List.getElem_toArray, List.getElem_cons_zero, List.getElem_cons_succ, List.setIfInBounds_toArray, List.set_cons_zero, List.set_cons_succ])
      refine wpAnyH_take (i := 10) (oi := _) (v := ?_) rfl (by kernel_rfl) (by kernel_rfl) (by kernel_rfl) (fun _ _ _ h => h) (Or.inl ⟨by rfl, ?_⟩) (by assumption) ?_
      rotate_left 1
      · (intro w hSw; (try dsimp only at hSw); (go_simp <;> first | with_reducible rfl | (rw [if_neg (by omega)])))
      (try simp only [Act.put, List.getElem_toArray, List.getElem_cons_zero, List.getElem_cons_succ, List.setIfInBounds_toArray, List.set_cons_zero, List.set_cons_succ])
      refine wpAnyH_done (by kernel_rfl) ?_ _
      go_wp2_with fail
      go_ret2
      exact tx_end _ _ _ _ (by rw [HW.out]; simp) B4.out
    exact AllReadyH.nil
end Go.Proofs.YtabmalnandbocaaGreatDoor.Num
namespace Go.Proofs.YtabmalnandbocaaGreatDoor.Num
set_option exponentiation.threshold 3000
set_option linter.unusedVariables false
set_option linter.unusedSimpArgs false
set_option exponentiation.threshold 3000
open Go.RowKit Go.Proofs.YtabmalnandbocaaGreatDoor.Mem Go.Proofs.YtabmalnandbocaaGreatDoor.Own Go.Proofs.YtabmalnandbocaaGreatDoor.Big Go.Proofs.YtabmalnandbocaaGreatDoor.Str
open Ieee (double single)
abbrev Tens (w : World) : Prop := Lib.TabIs Tryz.prog w "internal/strconv.uint64pow10" .u64 Lib.pow10Tab
theorem Tens.below {w w' : World} (h : Tens w) (hb : Below w.heap.size w w') : Tens w' := TabIs_below (g := 2) (by kernel_rfl) h hb
def ItPost (w : World) (l : List UInt8) (en : Ending) (w' : World) : Prop := en = .returned (.string ⟨l.toArray⟩) ∧ Below w.heap.size w w'
theorem itoa_w (z : Int) (w : World) (h0 : -9223372036854775808 ≤ z) (h1 : z ≤ 9223372036854775807) (ht : Tens w) : Calls Tryz.prog 20 #[.int .i64 z] w (ItPost w (itoaF z)) := by
  refine (Tryz.strconv_Itoa z h0 h1 w ht).mono fun en w' hh => ?_
  obtain ⟨rfl, k, os, rfl⟩ := hh
  refine ⟨by rw [itoa_eq], ?_⟩
  exact ⟨rfl, rfl, rfl, by show w.heap.size ≤ (w.heap ++ os).size; rw [Array.size_append]; omega, fun j hj => by show (w.heap ++ os)[j]? = w.heap[j]?; rw [Array.getElem?_append_left hj]⟩
theorem itoa_len (z : Int) (h0 : -90000 ≤ z) (h1 : z ≤ 90000) : (itoaF z).length ≤ 7 := by
  unfold itoaF
  split
  · have := decL_le (x := (-z).toNat) (by omega)
    simp; omega
  · have := decL_le (x := z.toNat) (by omega)
    omega
set_option maxHeartbeats 8000000 in
set_option maxRecDepth 100000 in
theorem text_5a1 (x : Nat) (neg : Bool) (l : List UInt8) (e : Int) (w : World) (h1 : ∀ W, Calls Tryz.prog 13 #[.float .f64 x] W (DxPost W (.agg #[.bool neg, .string ⟨l.toArray⟩, .int .i64 e]) 0)) (hl : l.length ≤ 3000) (he1 : -9000 ≤ e) (he2 : e ≤ 9000) (htab : Tens w) (hn : l.length = 1) (h0 : 0 ≤ e) (hp : 21 < e + l.length) :
    Calls Tryz.prog 9 #[.float .f64 x] w (TxPost w (writeF neg l e)) := by
  have HD := Lib.hid h1
  clear h1
  have hlz : (⟨l.toArray⟩ : ByteArray).size = l.length := by simp [ByteArray.size]
  obtain ⟨P, hP, hPl, hPs⟩ := sl_to ⟨l.toArray⟩ 1 1 rfl (by rw [hlz]; omega)
  obtain ⟨Q, hQ, hQl, hQs⟩ := sl_from ⟨l.toArray⟩ 1 1 rfl (by rw [hlz]; omega)
  have hPb : P.size ≤ 3000 := by omega
  have hQb : Q.size ≤ 3000 := by omega
  have HPQ := Lib.hid (show P.data.toList = l.take 1 ∧ Q.data.toList = l.drop 1 from ⟨hPl, hQl⟩)
  have hw : ∀ b, writeF b l e = (if b then [45] else []) ++ (l.take 1 ++ ([] ++ 101 :: itoaF (e + l.length - 1))) := fun b => by show _ ++ bodyF l e = _; congr 1; unfold bodyF; rw [if_neg (by omega), if_neg (by omega), if_neg (by omega), if_neg (by omega), if_neg (by omega)]
  have hil := itoa_len (e + l.length - 1) (by omega) (by omega)
  have HIT := Lib.hid (fun (W : World) (hb : Below w.heap.size w W) => itoa_w (e + l.length - 1) W (by omega) (by omega) (htab.below hb))
  generalize itoaF (e + l.length - 1) = I at hw hil HIT
  have HW := Lib.hid hw
  have t1 : ((l.length : Int) == 0) = false := by rw [beq_eq_false_iff_ne]; omega
  have hwp : IntKind.i64.wrap (e + (l.length : Int)) = e + (l.length : Int) := IntWalk.i64_in _ (by omega)
  have hwq : IntKind.i64.wrap (e + (l.length : Int) - 1) = e + (l.length : Int) - 1 := IntWalk.i64_in _ (by omega)
  have t2 : decide ((l.length : Int) ≤ e + (l.length : Int)) = true := decide_eq_true (by omega)
  have t8 : decide ((1 : Int) < (l.length : Int)) = false := by rw [decide_eq_false_iff_not]; omega
  have t9 : (l.length : Int) ≤ 1 := by omega
  have HN1 := Lib.hid hn
  clear hn
  clear hPl hQl hPs hQs hw htab
  cases neg
  · go_enter Tryz.func9, Tryz.ntmps9
    go_wp2_with fail
    refine (HD.out _).mono ?_
    rintro en w1 ⟨rfl, b1⟩
    have HK := Lib.hid (Blk.new w1 32 #[.bool false, .string ⟨l.toArray⟩, .int .i64 e])
    have B1 := Lib.hid (b1.alloc b1.size (.cells #[.bool false, .string ⟨l.toArray⟩, .int .i64 e] 32))
    clear b1
    go_wp2_with fail
    go_quiet (fail)
    have c0 : ((w1.alloc (.cells #[.bool false, .string ⟨l.toArray⟩, .int .i64 e] 32)).drewN nq).cell? ⟨w1.heap.size, 0, none⟩ = some (.bool false) := HK.out.cell 0
    have c1 : ((w1.alloc (.cells #[.bool false, .string ⟨l.toArray⟩, .int .i64 e] 32)).drewN nq).cell? ⟨w1.heap.size, 1, none⟩ = some (.string ⟨l.toArray⟩) := HK.out.cell 1
    have c2 : ((w1.alloc (.cells #[.bool false, .string ⟨l.toArray⟩, .int .i64 e] 32)).drewN nq).cell? ⟨w1.heap.size, 2, none⟩ = some (.int .i64 e) := HK.out.cell 2
    have B2 : Hid (Below w.heap.size w ((w1.alloc (.cells #[.bool false, .string ⟨l.toArray⟩, .int .i64 e] 32)).drewN nq)) := Lib.hid (bdrewN B1.out nq)
    generalize (w1.alloc (.cells #[.bool false, .string ⟨l.toArray⟩, .int .i64 e] 32)).drewN nq = W3 at *
    have HLT : Hid (w1.heap.size < W3.heap.size) := Lib.hid (World.block_lt_of_cell? _ _ c1)
    clear HK B1
    go_wp2_with fail
    refine wp_region_held_drew (S := (fun w' => w'.cell? ⟨w1.heap.size, 1, none⟩ = some (.string ⟨l.toArray⟩))) (by kernel_rfl) ?_ (fun hHeld => ?_)
    · exact c1
    refine wpAnyH_take (i := 0) (oi := _) (v := ?_) rfl (by kernel_rfl) (by kernel_rfl) (by kernel_rfl) (fun _ _ _ h => h) (Or.inl ⟨by rfl, ?_⟩) (by assumption) ?_
    rotate_left 1
    · (intro w hSw; (try dsimp only at hSw); (go_simp <;> first | with_reducible rfl | (rw [if_neg (by omega)])))
    (try simp only [Act.put, List.getElem_toArray, List.getElem_cons_zero, List.getElem_cons_succ, List.setIfInBounds_toArray, List.set_cons_zero, List.set_cons_succ])
    refine wpAnyH_take (i := 1) (oi := _) (v := ?_) rfl (by kernel_rfl) (by kernel_rfl) (by kernel_rfl) (fun _ _ _ h => h) (Or.inl ⟨by rfl, ?_⟩) (by assumption) ?_
    rotate_left 1
    · (intro w hSw; (try dsimp only at hSw); (go_simp <;> first | with_reducible rfl | (rw [if_neg (by omega)])))
    (try simp only [Act.put, List.getElem_toArray, List.getElem_cons_zero, List.getElem_cons_succ, List.setIfInBounds_toArray, List.set_cons_zero, List.set_cons_succ])
    refine wpAnyH_take (i := 2) (oi := _) (v := ?_) rfl (by kernel_rfl) (by kernel_rfl) (by kernel_rfl) (fun _ _ _ h => h) (Or.inl ⟨by rfl, ?_⟩) (by assumption) ?_
    rotate_left 1
    · (intro w hSw; (try dsimp only at hSw); (go_simp <;> first | with_reducible rfl | (rw [if_neg (by omega)])))
    (try simp only [Act.put, List.getElem_toArray, List.getElem_cons_zero, List.getElem_cons_succ, List.setIfInBounds_toArray, List.set_cons_zero, List.set_cons_succ])
    refine wpAnyH_take (i := 3) (oi := _) (v := ?_) rfl (by kernel_rfl) (by kernel_rfl) (by kernel_rfl) (fun _ _ _ h => h) (Or.inl ⟨by rfl, ?_⟩) (by assumption) ?_
    rotate_left 1
    · (intro w hSw; (try dsimp only at hSw); (go_simp <;> first | with_reducible rfl | (rw [if_neg (by omega)])))
    (try simp only [Act.put, List.getElem_toArray, List.getElem_cons_zero, List.getElem_cons_succ, List.setIfInBounds_toArray, List.set_cons_zero, List.set_cons_succ])
    refine wpAnyH_take (i := 4) (oi := _) (v := ?_) rfl (by kernel_rfl) (by kernel_rfl) (by kernel_rfl) (fun _ _ _ h => h) (Or.inl ⟨by rfl, ?_⟩) (by assumption) ?_
    rotate_left 1
    · (intro w hSw; (try dsimp only at hSw); (go_simp <;> first | with_reducible rfl | (rw [if_neg (by omega)])))
    (try simp only [Act.put, List.getElem_toArray, List.getElem_cons_zero, List.getElem_cons_succ, List.setIfInBounds_toArray, List.set_cons_zero, List.set_cons_succ])
    refine wpAnyH_take (i := 5) (oi := _) (v := ?_) rfl (by kernel_rfl) (by kernel_rfl) (by kernel_rfl) (fun _ _ _ h => h) (Or.inl ⟨by rfl, ?_⟩) (by assumption) ?_
    rotate_left 1
    · (intro w hSw; (try dsimp only at hSw); (go_simp <;> first | with_reducible rfl | (rw [if_neg (by omega)])))
    (try simp only [Act.put, List.getElem_toArray, List.getElem_cons_zero, List.getElem_cons_succ, List.setIfInBounds_toArray, List.set_cons_zero, List.set_cons_succ])
    refine wpAnyH_take (i := 6) (oi := _) (v := ?_) rfl (by kernel_rfl) (by kernel_rfl) (by kernel_rfl) (fun _ _ _ h => h) (Or.inl ⟨by rfl, ?_⟩) (by assumption) ?_
    rotate_left 1
    · (intro w hSw; (try dsimp only at hSw); (go_simp <;> first | with_reducible rfl | (rw [if_neg (by omega)])))
    (try simp only [Act.put, List.getElem_toArray, List.getElem_cons_zero, List.getElem_cons_succ, List.setIfInBounds_toArray, List.set_cons_zero, List.set_cons_succ])
    refine wpAnyH_take (i := 7) (oi := _) (v := ?_) rfl (by kernel_rfl) (by kernel_rfl) (by kernel_rfl) (fun _ _ _ h => h) (Or.inl ⟨by rfl, ?_⟩) (by assumption) ?_
    rotate_left 1
    · (intro w hSw; (try dsimp only at hSw); (go_simp <;> first | with_reducible rfl | (rw [if_neg (by omega)])))
    (try simp only [Act.put, List.getElem_toArray, List.getElem_cons_zero, List.getElem_cons_succ, List.setIfInBounds_toArray, List.set_cons_zero, List.set_cons_succ])
    refine wpAnyH_take (i := 8) (oi := _) (v := ?_) rfl (by kernel_rfl) (by kernel_rfl) (by kernel_rfl) (fun _ _ _ h => h) (Or.inl ⟨by rfl, ?_⟩) (by assumption) ?_
    rotate_left 1
    · (intro w hSw; (try dsimp only at hSw); (go_simp <;> first | with_reducible rfl | (rw [if_neg (by omega)])))
    (try simp only [Act.put, List.getElem_toArray, List.getElem_cons_zero, List.getElem_cons_succ, List.setIfInBounds_toArray, List.set_cons_zero, List.set_cons_succ])
    refine wpAnyH_take (i := 9) (oi := _) (v := ?_) rfl (by kernel_rfl) (by kernel_rfl) (by kernel_rfl) (fun _ _ _ h => h) (Or.inl ⟨by rfl, ?_⟩) (by assumption) ?_
    rotate_left 1
    · (intro w hSw; (try dsimp only at hSw); (go_simp <;> first | with_reducible rfl | (rw [if_neg (by omega)])))
    (try simp only [Act.put, List.getElem_toArray, List.getElem_cons_zero, List.getElem_cons_succ, List.setIfInBounds_toArray, List.set_cons_zero, List.set_cons_succ])
    refine wpAnyH_ready (rs := [10]) (by kernel_rfl) (by simp) ?_
    refine AllReadyH.cons (o := _) rfl (fun K hK => ?_) ?_
    · go_simp
      refine (HIT.out _ (by exact B2.out.drew)).mono ?_
      rintro en w4 ⟨rfl, b4⟩
      have d1 : w4.cell? ⟨w1.heap.size, 1, none⟩ = some (.string ⟨l.toArray⟩) := (b4.cell (p := ⟨w1.heap.size, 1, none⟩) HLT.out).trans c1
      have B4 := Lib.hid (bthen (bdrewN B2.out _) b4)
      clear b4
      go_simp
      refine hK.out _ _ ?_ (fun hHeld => ?_)
      · exact d1
      clear hK K
      (try simp only [Act.put, List.getElem_toArray, List.getElem_cons_zero, List.getElem_cons_succ, List.setIfInBounds_toArray, List.set_cons_zero, List.set_cons_succ])
      refine wpAnyH_take (i := 11) (oi := _) (v := ?_) rfl (by kernel_rfl) (by kernel_rfl) (by kernel_rfl) (fun _ _ _ h => h) (Or.inl ⟨by rfl, ?_⟩) (by assumption) ?_
      rotate_left 1
      · (intro w hSw; (try dsimp only at hSw); (go_simp <;> first | with_reducible rfl | (rw [if_neg (by omega)])))
      (try simp only [Act.put, List.getElem_toArray, List.getElem_cons_zero, List.getElem_cons_succ, List.setIfInBounds_toArray, List.set_cons_zero, List.set_cons_succ])
      refine wpAnyH_take (i := 12) (oi := _) (v := ?_) rfl (by kernel_rfl) (by kernel_rfl) (by kernel_rfl) (fun _ _ _ h => h) (Or.inl ⟨by rfl, ?_⟩) (by assumption) ?_
      rotate_left 1
      · (intro w hSw; (try dsimp only at hSw); (go_simp <;> first | with_reducible rfl | (rw [if_neg (by omega)])))
      (try simp only [Act.put, List.getElem_toArray, List.getElem_cons_zero, List.getElem_cons_succ, List.setIfInBounds_toArray, List.set_cons_zero, List.set_cons_succ])
      refine wpAnyH_take (i := 13) (oi := _) (v := ?_) rfl (by kernel_rfl) (by kernel_rfl) (by kernel_rfl) (fun _ _ _ h => h) (Or.inl ⟨by rfl, ?_⟩) (by assumption) ?_
      rotate_left 1
      · (intro w hSw; (try dsimp only at hSw); (go_simp <;> first | with_reducible rfl | (rw [if_neg (by omega)])))
      (try simp only [Act.put, List.getElem_toArray, List.getElem_cons_zero, List.getElem_cons_succ, List.setIfInBounds_toArray, List.set_cons_zero, List.set_cons_succ])
      refine wpAnyH_done (by kernel_rfl) ?_ _
      go_wp2_with fail
      go_ret2
      exact tx_end _ _ _ _ (by rw [HW.out]; simp [HPQ.out.1, HPQ.out.2]) B4.out
    exact AllReadyH.nil
  · go_enter Tryz.func9, Tryz.ntmps9
    go_wp2_with fail
    refine (HD.out _).mono ?_
    rintro en w1 ⟨rfl, b1⟩
    have HK := Lib.hid (Blk.new w1 32 #[.bool true, .string ⟨l.toArray⟩, .int .i64 e])
    have B1 := Lib.hid (b1.alloc b1.size (.cells #[.bool true, .string ⟨l.toArray⟩, .int .i64 e] 32))
    clear b1
    go_wp2_with fail
    go_quiet (fail)
    have c0 : ((w1.alloc (.cells #[.bool true, .string ⟨l.toArray⟩, .int .i64 e] 32)).drewN nq).cell? ⟨w1.heap.size, 0, none⟩ = some (.bool true) := HK.out.cell 0
    have c1 : ((w1.alloc (.cells #[.bool true, .string ⟨l.toArray⟩, .int .i64 e] 32)).drewN nq).cell? ⟨w1.heap.size, 1, none⟩ = some (.string ⟨l.toArray⟩) := HK.out.cell 1
    have c2 : ((w1.alloc (.cells #[.bool true, .string ⟨l.toArray⟩, .int .i64 e] 32)).drewN nq).cell? ⟨w1.heap.size, 2, none⟩ = some (.int .i64 e) := HK.out.cell 2
    have B2 : Hid (Below w.heap.size w ((w1.alloc (.cells #[.bool true, .string ⟨l.toArray⟩, .int .i64 e] 32)).drewN nq)) := Lib.hid (bdrewN B1.out nq)
    generalize (w1.alloc (.cells #[.bool true, .string ⟨l.toArray⟩, .int .i64 e] 32)).drewN nq = W3 at *
    have HLT : Hid (w1.heap.size < W3.heap.size) := Lib.hid (World.block_lt_of_cell? _ _ c1)
    clear HK B1
    go_wp2_with fail
    refine wp_region_held_drew (S := (fun w' => w'.cell? ⟨w1.heap.size, 1, none⟩ = some (.string ⟨l.toArray⟩))) (by kernel_rfl) ?_ (fun hHeld => ?_)
    · exact c1
    refine wpAnyH_take (i := 0) (oi := _) (v := ?_) rfl (by kernel_rfl) (by kernel_rfl) (by kernel_rfl) (fun _ _ _ h => h) (Or.inl ⟨by rfl, ?_⟩) (by assumption) ?_
    rotate_left 1
    · (intro w hSw; (try dsimp only at hSw); (go_simp <;> first | with_reducible rfl | (rw [if_neg (by omega)])))
    (try simp only [Act.put, List.getElem_toArray, List.getElem_cons_zero, List.getElem_cons_succ, List.setIfInBounds_toArray, List.set_cons_zero, List.set_cons_succ])
    refine wpAnyH_take (i := 1) (oi := _) (v := ?_) rfl (by kernel_rfl) (by kernel_rfl) (by kernel_rfl) (fun _ _ _ h => h) (Or.inl ⟨by rfl, ?_⟩) (by assumption) ?_
    rotate_left 1
    · (intro w hSw; (try dsimp only at hSw); (go_simp <;> first | with_reducible rfl | (rw [if_neg (by omega)])))
    (try simp only [Act.put, List.getElem_toArray, List.getElem_cons_zero, List.getElem_cons_succ, List.setIfInBounds_toArray, List.set_cons_zero, List.set_cons_succ])
    refine wpAnyH_take (i := 2) (oi := _) (v := ?_) rfl (by kernel_rfl) (by kernel_rfl) (by kernel_rfl) (fun _ _ _ h => h) (Or.inl ⟨by rfl, ?_⟩) (by assumption) ?_
    rotate_left 1
    · (intro w hSw; (try dsimp only at hSw); (go_simp <;> first | with_reducible rfl | (rw [if_neg (by omega)])))
    (try simp only [Act.put, List.getElem_toArray, List.getElem_cons_zero, List.getElem_cons_succ, List.setIfInBounds_toArray, List.set_cons_zero, List.set_cons_succ])
    refine wpAnyH_take (i := 3) (oi := _) (v := ?_) rfl (by kernel_rfl) (by kernel_rfl) (by kernel_rfl) (fun _ _ _ h => h) (Or.inl ⟨by rfl, ?_⟩) (by assumption) ?_
    rotate_left 1
    · (intro w hSw; (try dsimp only at hSw); (go_simp <;> first | with_reducible rfl | (rw [if_neg (by omega)])))
    (try simp only [Act.put, List.getElem_toArray, List.getElem_cons_zero, List.getElem_cons_succ, List.setIfInBounds_toArray, List.set_cons_zero, List.set_cons_succ])
    refine wpAnyH_take (i := 4) (oi := _) (v := ?_) rfl (by kernel_rfl) (by kernel_rfl) (by kernel_rfl) (fun _ _ _ h => h) (Or.inl ⟨by rfl, ?_⟩) (by assumption) ?_
    rotate_left 1
    · (intro w hSw; (try dsimp only at hSw); (go_simp <;> first | with_reducible rfl | (rw [if_neg (by omega)])))
    (try simp only [Act.put, List.getElem_toArray, List.getElem_cons_zero, List.getElem_cons_succ, List.setIfInBounds_toArray, List.set_cons_zero, List.set_cons_succ])
    refine wpAnyH_take (i := 5) (oi := _) (v := ?_) rfl (by kernel_rfl) (by kernel_rfl) (by kernel_rfl) (fun _ _ _ h => h) (Or.inl ⟨by rfl, ?_⟩) (by assumption) ?_
    rotate_left 1
    · (intro w hSw; (try dsimp only at hSw); (go_simp <;> first | with_reducible rfl | (rw [if_neg (by omega)])))
    (try simp only [Act.put, List.getElem_toArray, List.getElem_cons_zero, List.getElem_cons_succ, List.setIfInBounds_toArray, List.set_cons_zero, List.set_cons_succ])
    refine wpAnyH_take (i := 6) (oi := _) (v := ?_) rfl (by kernel_rfl) (by kernel_rfl) (by kernel_rfl) (fun _ _ _ h => h) (Or.inl ⟨by rfl, ?_⟩) (by assumption) ?_
    rotate_left 1
    · (intro w hSw; (try dsimp only at hSw); (go_simp <;> first | with_reducible rfl | (rw [if_neg (by omega)])))
    (try simp only [Act.put, List.getElem_toArray, List.getElem_cons_zero, List.getElem_cons_succ, List.setIfInBounds_toArray, List.set_cons_zero, List.set_cons_succ])
    refine wpAnyH_take (i := 7) (oi := _) (v := ?_) rfl (by kernel_rfl) (by kernel_rfl) (by kernel_rfl) (fun _ _ _ h => h) (Or.inl ⟨by rfl, ?_⟩) (by assumption) ?_
    rotate_left 1
    · (intro w hSw; (try dsimp only at hSw); (go_simp <;> first | with_reducible rfl | (rw [if_neg (by omega)])))
    (try simp only [Act.put, List.getElem_toArray, List.getElem_cons_zero, List.getElem_cons_succ, List.setIfInBounds_toArray, List.set_cons_zero, List.set_cons_succ])
    refine wpAnyH_take (i := 8) (oi := _) (v := ?_) rfl (by kernel_rfl) (by kernel_rfl) (by kernel_rfl) (fun _ _ _ h => h) (Or.inl ⟨by rfl, ?_⟩) (by assumption) ?_
    rotate_left 1
    · (intro w hSw; (try dsimp only at hSw); (go_simp <;> first | with_reducible rfl | (rw [if_neg (by omega)])))
    (try simp only [Act.put, List.getElem_toArray, List.getElem_cons_zero, List.getElem_cons_succ, List.setIfInBounds_toArray, List.set_cons_zero, List.set_cons_succ])
    refine wpAnyH_take (i := 9) (oi := _) (v := ?_) rfl (by kernel_rfl) (by kernel_rfl) (by kernel_rfl) (fun _ _ _ h => h) (Or.inl ⟨by rfl, ?_⟩) (by assumption) ?_
    rotate_left 1
    · (intro w hSw; (try dsimp only at hSw); (go_simp <;> first | with_reducible rfl | (rw [if_neg (by omega)])))
    (try simp only [Act.put, List.getElem_toArray, List.getElem_cons_zero, List.getElem_cons_succ, List.setIfInBounds_toArray, List.set_cons_zero, List.set_cons_succ])
    refine wpAnyH_ready (rs := [10]) (by kernel_rfl) (by simp) ?_
    refine AllReadyH.cons (o := _) rfl (fun K hK => ?_) ?_
    · go_simp
      refine (HIT.out _ (by exact B2.out.drew)).mono ?_
      rintro en w4 ⟨rfl, b4⟩
      have d1 : w4.cell? ⟨w1.heap.size, 1, none⟩ = some (.string ⟨l.toArray⟩) := (b4.cell (p := ⟨w1.heap.size, 1, none⟩) HLT.out).trans c1
      have B4 := Lib.hid (bthen (bdrewN B2.out _) b4)
      clear b4
      go_simp
      refine hK.out _ _ ?_ (fun hHeld => ?_)
      · exact d1
      clear hK K
      (try simp only [Act.put, List.getElem_toArray, List.getElem_cons_zero, List.getElem_cons_succ, List.setIfInBounds_toArray, List.set_cons_zero, List.set_cons_succ])
      refine wpAnyH_take (i := 11) (oi := _) (v := ?_) rfl (by kernel_rfl) (by kernel_rfl) (by kernel_rfl) (fun _ _ _ h => h) (Or.inl ⟨by rfl, ?_⟩) (by assumption) ?_
      rotate_left 1
      · (intro w hSw; (try dsimp only at hSw); (go_simp <;> first | with_reducible rfl | (rw [if_neg (by omega)])))
      (try simp only [Act.put, List.getElem_toArray, List.getElem_cons_zero, List.getElem_cons_succ, List.setIfInBounds_toArray, List.set_cons_zero, List.set_cons_succ])
      refine wpAnyH_take (i := 12) (oi := _) (v := ?_) rfl (by kernel_rfl) (by kernel_rfl) (by kernel_rfl) (fun _ _ _ h => h) (Or.inl ⟨by rfl, ?_⟩) (by assumption) ?_
      rotate_left 1
      · (intro w hSw; (try dsimp only at hSw); (go_simp <;> first | with_reducible rfl | (rw [if_neg (by omega)])))
      (try simp only [Act.put, List.getElem_toArray, List.getElem_cons_zero, List.getElem_cons_succ, List.setIfInBounds_toArray, List.set_cons_zero, List.set_cons_succ])
      refine wpAnyH_take (i := 13) (oi := _) (v := ?_) rfl (by kernel_rfl) (by kernel_rfl) (by kernel_rfl) (fun _ _ _ h => h) (Or.inl ⟨by rfl, ?_⟩) (by assumption) ?_
      rotate_left 1
      · (intro w hSw; (try dsimp only at hSw); (go_simp <;> first | with_reducible rfl | (rw [if_neg (by omega)])))
      (try simp only [Act.put, List.getElem_toArray, List.getElem_cons_zero, List.getElem_cons_succ, List.setIfInBounds_toArray, List.set_cons_zero, List.set_cons_succ])
      refine wpAnyH_done (by kernel_rfl) ?_ _
      go_wp2_with fail
      go_ret2
      exact tx_end _ _ _ _ (by rw [HW.out]; simp [HPQ.out.1, HPQ.out.2]) B4.out
    exact AllReadyH.nil
set_option maxHeartbeats 8000000 in
set_option maxRecDepth 100000 in
theorem text_5c1 (x : Nat) (neg : Bool) (l : List UInt8) (e : Int) (w : World) (h1 : ∀ W, Calls Tryz.prog 13 #[.float .f64 x] W (DxPost W (.agg #[.bool neg, .string ⟨l.toArray⟩, .int .i64 e]) 0)) (hl : l.length ≤ 3000) (he1 : -9000 ≤ e) (he2 : e ≤ 9000) (htab : Tens w) (hn : l.length = 1) (hp : e + l.length + 5 < 0) :
    Calls Tryz.prog 9 #[.float .f64 x] w (TxPost w (writeF neg l e)) := by
  have HD := Lib.hid h1
  clear h1
  have hlz : (⟨l.toArray⟩ : ByteArray).size = l.length := by simp [ByteArray.size]
  obtain ⟨P, hP, hPl, hPs⟩ := sl_to ⟨l.toArray⟩ 1 1 rfl (by rw [hlz]; omega)
  obtain ⟨Q, hQ, hQl, hQs⟩ := sl_from ⟨l.toArray⟩ 1 1 rfl (by rw [hlz]; omega)
  have hPb : P.size ≤ 3000 := by omega
  have hQb : Q.size ≤ 3000 := by omega
  have HPQ := Lib.hid (show P.data.toList = l.take 1 ∧ Q.data.toList = l.drop 1 from ⟨hPl, hQl⟩)
  have hw : ∀ b, writeF b l e = (if b then [45] else []) ++ (l.take 1 ++ ([] ++ 101 :: itoaF (e + l.length - 1))) := fun b => by show _ ++ bodyF l e = _; congr 1; unfold bodyF; rw [if_neg (by omega), if_neg (by omega), if_neg (by omega), if_neg (by omega), if_neg (by omega)]
  have hil := itoa_len (e + l.length - 1) (by omega) (by omega)
  have HIT := Lib.hid (fun (W : World) (hb : Below w.heap.size w W) => itoa_w (e + l.length - 1) W (by omega) (by omega) (htab.below hb))
  generalize itoaF (e + l.length - 1) = I at hw hil HIT
  have HW := Lib.hid hw
  have t1 : ((l.length : Int) == 0) = false := by rw [beq_eq_false_iff_ne]; omega
  have hwp : IntKind.i64.wrap (e + (l.length : Int)) = e + (l.length : Int) := IntWalk.i64_in _ (by omega)
  have hwq : IntKind.i64.wrap (e + (l.length : Int) - 1) = e + (l.length : Int) - 1 := IntWalk.i64_in _ (by omega)
  have t2 : decide ((l.length : Int) ≤ e + (l.length : Int)) = false := decide_eq_false (by omega)
  have t3 : ¬ 0 ≤ e := by omega
  have t8 : decide ((1 : Int) < (l.length : Int)) = false := by rw [decide_eq_false_iff_not]; omega
  have t9 : (l.length : Int) ≤ 1 := by omega
  have HN1 := Lib.hid hn
  clear hn
  have t5 : decide ((1 : Int) ≤ e + (l.length : Int)) = false := decide_eq_false (by omega)
  have t6 : decide ((-5 : Int) ≤ e + (l.length : Int)) = false := decide_eq_false (by omega)
  have t7 : (l.length : Int) ≤ 3000 := by omega
  have HPX := Lib.hid hp
  clear hp
  clear hPl hQl hPs hQs hw htab
  cases neg
  · go_enter Tryz.func9, Tryz.ntmps9
    go_wp2_with fail
    refine (HD.out _).mono ?_
    rintro en w1 ⟨rfl, b1⟩
    have HK := Lib.hid (Blk.new w1 32 #[.bool false, .string ⟨l.toArray⟩, .int .i64 e])
    have B1 := Lib.hid (b1.alloc b1.size (.cells #[.bool false, .string ⟨l.toArray⟩, .int .i64 e] 32))
    clear b1
    go_wp2_with fail
    go_quiet (fail)
    have c0 : ((w1.alloc (.cells #[.bool false, .string ⟨l.toArray⟩, .int .i64 e] 32)).drewN nq).cell? ⟨w1.heap.size, 0, none⟩ = some (.bool false) := HK.out.cell 0
    have c1 : ((w1.alloc (.cells #[.bool false, .string ⟨l.toArray⟩, .int .i64 e] 32)).drewN nq).cell? ⟨w1.heap.size, 1, none⟩ = some (.string ⟨l.toArray⟩) := HK.out.cell 1
    have c2 : ((w1.alloc (.cells #[.bool false, .string ⟨l.toArray⟩, .int .i64 e] 32)).drewN nq).cell? ⟨w1.heap.size, 2, none⟩ = some (.int .i64 e) := HK.out.cell 2
    have B2 : Hid (Below w.heap.size w ((w1.alloc (.cells #[.bool false, .string ⟨l.toArray⟩, .int .i64 e] 32)).drewN nq)) := Lib.hid (bdrewN B1.out nq)
    generalize (w1.alloc (.cells #[.bool false, .string ⟨l.toArray⟩, .int .i64 e] 32)).drewN nq = W3 at *
    have HLT : Hid (w1.heap.size < W3.heap.size) := Lib.hid (World.block_lt_of_cell? _ _ c1)
    clear HK B1
    go_wp2_with fail
    refine wp_region_held_drew (S := (fun w' => w'.cell? ⟨w1.heap.size, 1, none⟩ = some (.string ⟨l.toArray⟩))) (by kernel_rfl) ?_ (fun hHeld => ?_)
    · exact c1
    refine wpAnyH_take (i := 0) (oi := _) (v := ?_) rfl (by kernel_rfl) (by kernel_rfl) (by kernel_rfl) (fun _ _ _ h => h) (Or.inl ⟨by rfl, ?_⟩) (by assumption) ?_
    rotate_left 1
    · (intro w hSw; (try dsimp only at hSw); (go_simp <;> first | with_reducible rfl | (rw [if_neg (by omega)])))
    (try simp only [Act.put, List.getElem_toArray, List.getElem_cons_zero, List.getElem_cons_succ, List.setIfInBounds_toArray, List.set_cons_zero, List.set_cons_succ])
    refine wpAnyH_take (i := 1) (oi := _) (v := ?_) rfl (by kernel_rfl) (by kernel_rfl) (by kernel_rfl) (fun _ _ _ h => h) (Or.inl ⟨by rfl, ?_⟩) (by assumption) ?_
    rotate_left 1
    · (intro w hSw; (try dsimp only at hSw); (go_simp <;> first | with_reducible rfl | (rw [if_neg (by omega)])))
    (try simp only [Act.put, List.getElem_toArray, List.getElem_cons_zero, List.getElem_cons_succ, List.setIfInBounds_toArray, List.set_cons_zero, List.set_cons_succ])
    refine wpAnyH_take (i := 2) (oi := _) (v := ?_) rfl (by kernel_rfl) (by kernel_rfl) (by kernel_rfl) (fun _ _ _ h => h) (Or.inl ⟨by rfl, ?_⟩) (by assumption) ?_
    rotate_left 1
    · (intro w hSw; (try dsimp only at hSw); (go_simp <;> first | with_reducible rfl | (rw [if_neg (by omega)])))
    (try simp only [Act.put, List.getElem_toArray, List.getElem_cons_zero, List.getElem_cons_succ, List.setIfInBounds_toArray, List.set_cons_zero, List.set_cons_succ])
    refine wpAnyH_take (i := 3) (oi := _) (v := ?_) rfl (by kernel_rfl) (by kernel_rfl) (by kernel_rfl) (fun _ _ _ h => h) (Or.inl ⟨by rfl, ?_⟩) (by assumption) ?_
    rotate_left 1
    · (intro w hSw; (try dsimp only at hSw); (go_simp <;> first | with_reducible rfl | (rw [if_neg (by omega)])))
    (try simp only [Act.put, List.getElem_toArray, List.getElem_cons_zero, List.getElem_cons_succ, List.setIfInBounds_toArray, List.set_cons_zero, List.set_cons_succ])
    refine wpAnyH_take (i := 4) (oi := _) (v := ?_) rfl (by kernel_rfl) (by kernel_rfl) (by kernel_rfl) (fun _ _ _ h => h) (Or.inl ⟨by rfl, ?_⟩) (by assumption) ?_
    rotate_left 1
    · (intro w hSw; (try dsimp only at hSw); (go_simp <;> first | with_reducible rfl | (rw [if_neg (by omega)])))
    (try simp only [Act.put, List.getElem_toArray, List.getElem_cons_zero, List.getElem_cons_succ, List.setIfInBounds_toArray, List.set_cons_zero, List.set_cons_succ])
    refine wpAnyH_take (i := 5) (oi := _) (v := ?_) rfl (by kernel_rfl) (by kernel_rfl) (by kernel_rfl) (fun _ _ _ h => h) (Or.inl ⟨by rfl, ?_⟩) (by assumption) ?_
    rotate_left 1
    · (intro w hSw; (try dsimp only at hSw); (go_simp <;> first | with_reducible rfl | (rw [if_neg (by omega)])))
    (try simp only [Act.put, List.getElem_toArray, List.getElem_cons_zero, List.getElem_cons_succ, List.setIfInBounds_toArray, List.set_cons_zero, List.set_cons_succ])
    refine wpAnyH_take (i := 6) (oi := _) (v := ?_) rfl (by kernel_rfl) (by kernel_rfl) (by kernel_rfl) (fun _ _ _ h => h) (Or.inl ⟨by rfl, ?_⟩) (by assumption) ?_
    rotate_left 1
    · (intro w hSw; (try dsimp only at hSw); (go_simp <;> first | with_reducible rfl | (rw [if_neg (by omega)])))
    (try simp only [Act.put, List.getElem_toArray, List.getElem_cons_zero, List.getElem_cons_succ, List.setIfInBounds_toArray, List.set_cons_zero, List.set_cons_succ])
    refine wpAnyH_take (i := 7) (oi := _) (v := ?_) rfl (by kernel_rfl) (by kernel_rfl) (by kernel_rfl) (fun _ _ _ h => h) (Or.inl ⟨by rfl, ?_⟩) (by assumption) ?_
    rotate_left 1
    · (intro w hSw; (try dsimp only at hSw); (go_simp <;> first | with_reducible rfl | (rw [if_neg (by omega)])))
    (try simp only [Act.put, List.getElem_toArray, List.getElem_cons_zero, List.getElem_cons_succ, List.setIfInBounds_toArray, List.set_cons_zero, List.set_cons_succ])
    refine wpAnyH_take (i := 8) (oi := _) (v := ?_) rfl (by kernel_rfl) (by kernel_rfl) (by kernel_rfl) (fun _ _ _ h => h) (Or.inl ⟨by rfl, ?_⟩) (by assumption) ?_
    rotate_left 1
    · (intro w hSw; (try dsimp only at hSw); (go_simp <;> first | with_reducible rfl | (rw [if_neg (by omega)])))
    (try simp only [Act.put, List.getElem_toArray, List.getElem_cons_zero, List.getElem_cons_succ, List.setIfInBounds_toArray, List.set_cons_zero, List.set_cons_succ])
    refine wpAnyH_take (i := 9) (oi := _) (v := ?_) rfl (by kernel_rfl) (by kernel_rfl) (by kernel_rfl) (fun _ _ _ h => h) (Or.inl ⟨by rfl, ?_⟩) (by assumption) ?_
    rotate_left 1
    · (intro w hSw; (try dsimp only at hSw); (go_simp <;> first | with_reducible rfl | (rw [if_neg (by omega)])))
    (try simp only [Act.put, List.getElem_toArray, List.getElem_cons_zero, List.getElem_cons_succ, List.setIfInBounds_toArray, List.set_cons_zero, List.set_cons_succ])
    refine wpAnyH_ready (rs := [10]) (by kernel_rfl) (by simp) ?_
    refine AllReadyH.cons (o := _) rfl (fun K hK => ?_) ?_
    · go_simp
      refine (HIT.out _ (by exact B2.out.drew)).mono ?_
      rintro en w4 ⟨rfl, b4⟩
      have d1 : w4.cell? ⟨w1.heap.size, 1, none⟩ = some (.string ⟨l.toArray⟩) := (b4.cell (p := ⟨w1.heap.size, 1, none⟩) HLT.out).trans c1
      have B4 := Lib.hid (bthen (bdrewN B2.out _) b4)
      clear b4
      go_simp
      refine hK.out _ _ ?_ (fun hHeld => ?_)
      · exact d1
      clear hK K
      (try simp only [Act.put, List.getElem_toArray, List.getElem_cons_zero, List.getElem_cons_succ, List.setIfInBounds_toArray, List.set_cons_zero, List.set_cons_succ])
      refine wpAnyH_take (i := 11) (oi := _) (v := ?_) rfl (by kernel_rfl) (by kernel_rfl) (by kernel_rfl) (fun _ _ _ h => h) (Or.inl ⟨by rfl, ?_⟩) (by assumption) ?_
      rotate_left 1
      · (intro w hSw; (try dsimp only at hSw); (go_simp <;> first | with_reducible rfl | (rw [if_neg (by omega)])))
      (try simp only [Act.put, List.getElem_toArray, List.getElem_cons_zero, List.getElem_cons_succ, List.setIfInBounds_toArray, List.set_cons_zero, List.set_cons_succ])
      refine wpAnyH_take (i := 12) (oi := _) (v := ?_) rfl (by kernel_rfl) (by kernel_rfl) (by kernel_rfl) (fun _ _ _ h => h) (Or.inl ⟨by rfl, ?_⟩) (by assumption) ?_
      rotate_left 1
      · (intro w hSw; (try dsimp only at hSw); (go_simp <;> first | with_reducible rfl | (rw [if_neg (by omega)])))
      (try simp only [Act.put, List.getElem_toArray, List.getElem_cons_zero, List.getElem_cons_succ, List.setIfInBounds_toArray, List.set_cons_zero, List.set_cons_succ])
      refine wpAnyH_take (i := 13) (oi := _) (v := ?_) rfl (by kernel_rfl) (by kernel_rfl) (by kernel_rfl) (fun _ _ _ h => h) (Or.inl ⟨by rfl, ?_⟩) (by assumption) ?_
      rotate_left 1
      · (intro w hSw; (try dsimp only at hSw); (go_simp <;> first | with_reducible rfl | (rw [if_neg (by omega)])))
      (try simp only [Act.put, List.getElem_toArray, List.getElem_cons_zero, List.getElem_cons_succ, List.setIfInBounds_toArray, List.set_cons_zero, List.set_cons_succ])
      refine wpAnyH_done (by kernel_rfl) ?_ _
      go_wp2_with fail
      go_ret2
      exact tx_end _ _ _ _ (by rw [HW.out]; simp [HPQ.out.1, HPQ.out.2]) B4.out
    exact AllReadyH.nil
  · go_enter Tryz.func9, Tryz.ntmps9
    go_wp2_with fail
    refine (HD.out _).mono ?_
    rintro en w1 ⟨rfl, b1⟩
    have HK := Lib.hid (Blk.new w1 32 #[.bool true, .string ⟨l.toArray⟩, .int .i64 e])
    have B1 := Lib.hid (b1.alloc b1.size (.cells #[.bool true, .string ⟨l.toArray⟩, .int .i64 e] 32))
    clear b1
    go_wp2_with fail
    go_quiet (fail)
    have c0 : ((w1.alloc (.cells #[.bool true, .string ⟨l.toArray⟩, .int .i64 e] 32)).drewN nq).cell? ⟨w1.heap.size, 0, none⟩ = some (.bool true) := HK.out.cell 0
    have c1 : ((w1.alloc (.cells #[.bool true, .string ⟨l.toArray⟩, .int .i64 e] 32)).drewN nq).cell? ⟨w1.heap.size, 1, none⟩ = some (.string ⟨l.toArray⟩) := HK.out.cell 1
    have c2 : ((w1.alloc (.cells #[.bool true, .string ⟨l.toArray⟩, .int .i64 e] 32)).drewN nq).cell? ⟨w1.heap.size, 2, none⟩ = some (.int .i64 e) := HK.out.cell 2
    have B2 : Hid (Below w.heap.size w ((w1.alloc (.cells #[.bool true, .string ⟨l.toArray⟩, .int .i64 e] 32)).drewN nq)) := Lib.hid (bdrewN B1.out nq)
    generalize (w1.alloc (.cells #[.bool true, .string ⟨l.toArray⟩, .int .i64 e] 32)).drewN nq = W3 at *
    have HLT : Hid (w1.heap.size < W3.heap.size) := Lib.hid (World.block_lt_of_cell? _ _ c1)
    clear HK B1
    go_wp2_with fail
    refine wp_region_held_drew (S := (fun w' => w'.cell? ⟨w1.heap.size, 1, none⟩ = some (.string ⟨l.toArray⟩))) (by kernel_rfl) ?_ (fun hHeld => ?_)
    · exact c1
    refine wpAnyH_take (i := 0) (oi := _) (v := ?_) rfl (by kernel_rfl) (by kernel_rfl) (by kernel_rfl) (fun _ _ _ h => h) (Or.inl ⟨by rfl, ?_⟩) (by assumption) ?_
    rotate_left 1
    · (intro w hSw; (try dsimp only at hSw); (go_simp <;> first | with_reducible rfl | (rw [if_neg (by omega)])))
    (try simp only [Act.put, List.getElem_toArray, List.getElem_cons_zero, List.getElem_cons_succ, List.setIfInBounds_toArray, List.set_cons_zero, List.set_cons_succ])
    refine wpAnyH_take (i := 1) (oi := _) (v := ?_) rfl (by kernel_rfl) (by kernel_rfl) (by kernel_rfl) (fun _ _ _ h => h) (Or.inl ⟨by rfl, ?_⟩) (by assumption) ?_
    rotate_left 1
    · (intro w hSw; (try dsimp only at hSw); (go_simp <;> first | with_reducible rfl | (rw [if_neg (by omega)])))
    (try simp only [Act.put, List.getElem_toArray, List.getElem_cons_zero, List.getElem_cons_succ, List.setIfInBounds_toArray, List.set_cons_zero, List.set_cons_succ])
    refine wpAnyH_take (i := 2) (oi := _) (v := ?_) rfl (by kernel_rfl) (by kernel_rfl) (by kernel_rfl) (fun _ _ _ h => h) (Or.inl ⟨by rfl, ?_⟩) (by assumption) ?_
    rotate_left 1
    · (intro w hSw; (try dsimp only at hSw); (go_simp <;> first | with_reducible rfl | (rw [if_neg (by omega)])))
    (try simp only [Act.put, List.getElem_toArray, List.getElem_cons_zero, List.getElem_cons_succ, List.setIfInBounds_toArray, List.set_cons_zero, List.set_cons_succ])
    refine wpAnyH_take (i := 3) (oi := _) (v := ?_) rfl (by kernel_rfl) (by kernel_rfl) (by kernel_rfl) (fun _ _ _ h => h) (Or.inl ⟨by rfl, ?_⟩) (by assumption) ?_
    rotate_left 1
    · (intro w hSw; (try dsimp only at hSw); (go_simp <;> first | with_reducible rfl | (rw [if_neg (by omega)])))
    (try simp only [Act.put, List.getElem_toArray, List.getElem_cons_zero, List.getElem_cons_succ, List.setIfInBounds_toArray, List.set_cons_zero, List.set_cons_succ])
    refine wpAnyH_take (i := 4) (oi := _) (v := ?_) rfl (by kernel_rfl) (by kernel_rfl) (by kernel_rfl) (fun _ _ _ h => h) (Or.inl ⟨by rfl, ?_⟩) (by assumption) ?_
    rotate_left 1
    · (intro w hSw; (try dsimp only at hSw); (go_simp <;> first | with_reducible rfl | (rw [if_neg (by omega)])))
    (try simp only [Act.put, List.getElem_toArray, List.getElem_cons_zero, List.getElem_cons_succ, List.setIfInBounds_toArray, List.set_cons_zero, List.set_cons_succ])
    refine wpAnyH_take (i := 5) (oi := _) (v := ?_) rfl (by kernel_rfl) (by kernel_rfl) (by kernel_rfl) (fun _ _ _ h => h) (Or.inl ⟨by rfl, ?_⟩) (by assumption) ?_
    rotate_left 1
    · (intro w hSw; (try dsimp only at hSw); (go_simp <;> first | with_reducible rfl | (rw [if_neg (by omega)])))
    (try simp only [Act.put, List.getElem_toArray, List.getElem_cons_zero, List.getElem_cons_succ, List.setIfInBounds_toArray, List.set_cons_zero, List.set_cons_succ])
    refine wpAnyH_take (i := 6) (oi := _) (v := ?_) rfl (by kernel_rfl) (by kernel_rfl) (by kernel_rfl) (fun _ _ _ h => h) (Or.inl ⟨by rfl, ?_⟩) (by assumption) ?_
    rotate_left 1
    · (intro w hSw; (try dsimp only at hSw); (go_simp <;> first | with_reducible rfl | (rw [if_neg (by omega)])))
    (try simp only [Act.put, List.getElem_toArray, List.getElem_cons_zero, List.getElem_cons_succ, List.setIfInBounds_toArray, List.set_cons_zero, List.set_cons_succ])
    refine wpAnyH_take (i := 7) (oi := _) (v := ?_) rfl (by kernel_rfl) (by kernel_rfl) (by kernel_rfl) (fun _ _ _ h => h) (Or.inl ⟨by rfl, ?_⟩) (by assumption) ?_
    rotate_left 1
    · (intro w hSw; (try dsimp only at hSw); (go_simp <;> first | with_reducible rfl | (rw [if_neg (by omega)])))
    (try simp only [Act.put, List.getElem_toArray, List.getElem_cons_zero, List.getElem_cons_succ, List.setIfInBounds_toArray, List.set_cons_zero, List.set_cons_succ])
    refine wpAnyH_take (i := 8) (oi := _) (v := ?_) rfl (by kernel_rfl) (by kernel_rfl) (by kernel_rfl) (fun _ _ _ h => h) (Or.inl ⟨by rfl, ?_⟩) (by assumption) ?_
    rotate_left 1
    · (intro w hSw; (try dsimp only at hSw); (go_simp <;> first | with_reducible rfl | (rw [if_neg (by omega)])))
    (try simp only [Act.put, List.getElem_toArray, List.getElem_cons_zero, List.getElem_cons_succ, List.setIfInBounds_toArray, List.set_cons_zero, List.set_cons_succ])
    refine wpAnyH_take (i := 9) (oi := _) (v := ?_) rfl (by kernel_rfl) (by kernel_rfl) (by kernel_rfl) (fun _ _ _ h => h) (Or.inl ⟨by rfl, ?_⟩) (by assumption) ?_
    rotate_left 1
    · (intro w hSw; (try dsimp only at hSw); (go_simp <;> first | with_reducible rfl | (rw [if_neg (by omega)])))
    (try simp only [Act.put, List.getElem_toArray, List.getElem_cons_zero, List.getElem_cons_succ, List.setIfInBounds_toArray, List.set_cons_zero, List.set_cons_succ])
    refine wpAnyH_ready (rs := [10]) (by kernel_rfl) (by simp) ?_
    refine AllReadyH.cons (o := _) rfl (fun K hK => ?_) ?_
    · go_simp
      refine (HIT.out _ (by exact B2.out.drew)).mono ?_
      rintro en w4 ⟨rfl, b4⟩
      have d1 : w4.cell? ⟨w1.heap.size, 1, none⟩ = some (.string ⟨l.toArray⟩) := (b4.cell (p := ⟨w1.heap.size, 1, none⟩) HLT.out).trans c1
      have B4 := Lib.hid (bthen (bdrewN B2.out _) b4)
      clear b4
      go_simp
      refine hK.out _ _ ?_ (fun hHeld => ?_)
      · exact d1
      clear hK K
      (try simp only [Act.put, List.getElem_toArray, List.getElem_cons_zero, List.getElem_cons_succ, List.setIfInBounds_toArray, List.set_cons_zero, List.set_cons_succ])
      refine wpAnyH_take (i := 11) (oi := _) (v := ?_) rfl (by kernel_rfl) (by kernel_rfl) (by kernel_rfl) (fun _ _ _ h => h) (Or.inl ⟨by rfl, ?_⟩) (by assumption) ?_
      rotate_left 1
      · (intro w hSw; (try dsimp only at hSw); (go_simp <;> first | with_reducible rfl | (rw [if_neg (by omega)])))
      (try simp only [Act.put, List.getElem_toArray, List.getElem_cons_zero, List.getElem_cons_succ, List.setIfInBounds_toArray, List.set_cons_zero, List.set_cons_succ])
      refine wpAnyH_take (i := 12) (oi := _) (v := ?_) rfl (by kernel_rfl) (by kernel_rfl) (by kernel_rfl) (fun _ _ _ h => h) (Or.inl ⟨by rfl, ?_⟩) (by assumption) ?_
      rotate_left 1
      · (intro w hSw; (try dsimp only at hSw); (go_simp <;> first | with_reducible rfl | (rw [if_neg (by omega)])))
      (try simp only [Act.put, List.getElem_toArray, List.getElem_cons_zero, List.getElem_cons_succ, List.setIfInBounds_toArray, List.set_cons_zero, List.set_cons_succ])
      refine wpAnyH_take (i := 13) (oi := _) (v := ?_) rfl (by kernel_rfl) (by kernel_rfl) (by kernel_rfl) (fun _ _ _ h => h) (Or.inl ⟨by rfl, ?_⟩) (by assumption) ?_
      rotate_left 1
      · (intro w hSw; (try dsimp only at hSw); (go_simp <;> first | with_reducible rfl | (rw [if_neg (by omega)])))
      (try simp only [Act.put, List.getElem_toArray, List.getElem_cons_zero, List.getElem_cons_succ, List.setIfInBounds_toArray, List.set_cons_zero, List.set_cons_succ])
      refine wpAnyH_done (by kernel_rfl) ?_ _
      go_wp2_with fail
      go_ret2
      exact tx_end _ _ _ _ (by rw [HW.out]; simp [HPQ.out.1, HPQ.out.2]) B4.out
    exact AllReadyH.nil
set_option maxHeartbeats 8000000 in
set_option maxRecDepth 100000 in
theorem text_5am (x : Nat) (neg : Bool) (l : List UInt8) (e : Int) (w : World) (h1 : ∀ W, Calls Tryz.prog 13 #[.float .f64 x] W (DxPost W (.agg #[.bool neg, .string ⟨l.toArray⟩, .int .i64 e]) 0)) (hl : l.length ≤ 3000) (he1 : -9000 ≤ e) (he2 : e ≤ 9000) (htab : Tens w) (hn : 1 < l.length) (h0 : 0 ≤ e) (hp : 21 < e + l.length) :
    Calls Tryz.prog 9 #[.float .f64 x] w (TxPost w (writeF neg l e)) := by
  have HD := Lib.hid h1
  clear h1
  have hlz : (⟨l.toArray⟩ : ByteArray).size = l.length := by simp [ByteArray.size]
  obtain ⟨P, hP, hPl, hPs⟩ := sl_to ⟨l.toArray⟩ 1 1 rfl (by rw [hlz]; omega)
  obtain ⟨Q, hQ, hQl, hQs⟩ := sl_from ⟨l.toArray⟩ 1 1 rfl (by rw [hlz]; omega)
  have hPb : P.size ≤ 3000 := by omega
  have hQb : Q.size ≤ 3000 := by omega
  have HPQ := Lib.hid (show P.data.toList = l.take 1 ∧ Q.data.toList = l.drop 1 from ⟨hPl, hQl⟩)
  have hw : ∀ b, writeF b l e = (if b then [45] else []) ++ (l.take 1 ++ (46 :: l.drop 1 ++ 101 :: itoaF (e + l.length - 1))) := fun b => by show _ ++ bodyF l e = _; congr 1; unfold bodyF; rw [if_neg (by omega), if_neg (by omega), if_neg (by omega), if_neg (by omega), if_pos (by omega)]
  have hil := itoa_len (e + l.length - 1) (by omega) (by omega)
  have HIT := Lib.hid (fun (W : World) (hb : Below w.heap.size w W) => itoa_w (e + l.length - 1) W (by omega) (by omega) (htab.below hb))
  generalize itoaF (e + l.length - 1) = I at hw hil HIT
  have HW := Lib.hid hw
  have t1 : ((l.length : Int) == 0) = false := by rw [beq_eq_false_iff_ne]; omega
  have hwp : IntKind.i64.wrap (e + (l.length : Int)) = e + (l.length : Int) := IntWalk.i64_in _ (by omega)
  have hwq : IntKind.i64.wrap (e + (l.length : Int) - 1) = e + (l.length : Int) - 1 := IntWalk.i64_in _ (by omega)
  have t2 : decide ((l.length : Int) ≤ e + (l.length : Int)) = true := decide_eq_true (by omega)
  have t8 : decide ((1 : Int) < (l.length : Int)) = true := by rw [decide_eq_true_iff]; omega
  clear hPl hQl hPs hQs hw htab
  cases neg
  · go_enter Tryz.func9, Tryz.ntmps9
    go_wp2_with fail
    refine (HD.out _).mono ?_
    rintro en w1 ⟨rfl, b1⟩
    have HK := Lib.hid (Blk.new w1 32 #[.bool false, .string ⟨l.toArray⟩, .int .i64 e])
    have B1 := Lib.hid (b1.alloc b1.size (.cells #[.bool false, .string ⟨l.toArray⟩, .int .i64 e] 32))
    clear b1
    go_wp2_with fail
    go_quiet (fail)
    have c0 : ((w1.alloc (.cells #[.bool false, .string ⟨l.toArray⟩, .int .i64 e] 32)).drewN nq).cell? ⟨w1.heap.size, 0, none⟩ = some (.bool false) := HK.out.cell 0
    have c1 : ((w1.alloc (.cells #[.bool false, .string ⟨l.toArray⟩, .int .i64 e] 32)).drewN nq).cell? ⟨w1.heap.size, 1, none⟩ = some (.string ⟨l.toArray⟩) := HK.out.cell 1
    have c2 : ((w1.alloc (.cells #[.bool false, .string ⟨l.toArray⟩, .int .i64 e] 32)).drewN nq).cell? ⟨w1.heap.size, 2, none⟩ = some (.int .i64 e) := HK.out.cell 2
    have B2 : Hid (Below w.heap.size w ((w1.alloc (.cells #[.bool false, .string ⟨l.toArray⟩, .int .i64 e] 32)).drewN nq)) := Lib.hid (bdrewN B1.out nq)
    generalize (w1.alloc (.cells #[.bool false, .string ⟨l.toArray⟩, .int .i64 e] 32)).drewN nq = W3 at *
    have HLT : Hid (w1.heap.size < W3.heap.size) := Lib.hid (World.block_lt_of_cell? _ _ c1)
    clear HK B1
    go_wp2_with fail
    refine wp_region_held_drew (S := (fun w' => w'.cell? ⟨w1.heap.size, 1, none⟩ = some (.string ⟨l.toArray⟩))) (by kernel_rfl) ?_ (fun hHeld => ?_)
    · exact c1
    refine wpAnyH_take (i := 0) (oi := _) (v := ?_) rfl (by kernel_rfl) (by kernel_rfl) (by kernel_rfl) (fun _ _ _ h => h) (Or.inl ⟨by rfl, ?_⟩) (by assumption) ?_
    rotate_left 1
    · (intro w hSw; (try dsimp only at hSw); (go_simp <;> first | with_reducible rfl | (rw [if_neg (by omega)])))
    (try simp only [Act.put, List.getElem_toArray, List.getElem_cons_zero, List.getElem_cons_succ, List.setIfInBounds_toArray, List.set_cons_zero, List.set_cons_succ])
    refine wpAnyH_take (i := 1) (oi := _) (v := ?_) rfl (by kernel_rfl) (by kernel_rfl) (by kernel_rfl) (fun _ _ _ h => h) (Or.inl ⟨by rfl, ?_⟩) (by assumption) ?_
    rotate_left 1
    · (intro w hSw; (try dsimp only at hSw); (go_simp <;> first | with_reducible rfl | (rw [if_neg (by omega)])))
    (try simp only [Act.put, List.getElem_toArray, List.getElem_cons_zero, List.getElem_cons_succ, List.setIfInBounds_toArray, List.set_cons_zero, List.set_cons_succ])
    refine wpAnyH_take (i := 2) (oi := _) (v := ?_) rfl (by kernel_rfl) (by kernel_rfl) (by kernel_rfl) (fun _ _ _ h => h) (Or.inl ⟨by rfl, ?_⟩) (by assumption) ?_
    rotate_left 1
    · (intro w hSw; (try dsimp only at hSw); (go_simp <;> first | with_reducible rfl | (rw [if_neg (by omega)])))
    (try simp only [Act.put, List.getElem_toArray, List.getElem_cons_zero, List.getElem_cons_succ, List.setIfInBounds_toArray, List.set_cons_zero, List.set_cons_succ])
    refine wpAnyH_take (i := 3) (oi := _) (v := ?_) rfl (by kernel_rfl) (by kernel_rfl) (by kernel_rfl) (fun _ _ _ h => h) (Or.inl ⟨by rfl, ?_⟩) (by assumption) ?_
    rotate_left 1
    · (intro w hSw; (try dsimp only at hSw); (go_simp <;> first | with_reducible rfl | (rw [if_neg (by omega)])))
    (try simp only [Act.put, List.getElem_toArray, List.getElem_cons_zero, List.getElem_cons_succ, List.setIfInBounds_toArray, List.set_cons_zero, List.set_cons_succ])
    refine wpAnyH_take (i := 4) (oi := _) (v := ?_) rfl (by kernel_rfl) (by kernel_rfl) (by kernel_rfl) (fun _ _ _ h => h) (Or.inl ⟨by rfl, ?_⟩) (by assumption) ?_
    rotate_left 1
    · (intro w hSw; (try dsimp only at hSw); (go_simp <;> first | with_reducible rfl | (rw [if_neg (by omega)])))
    (try simp only [Act.put, List.getElem_toArray, List.getElem_cons_zero, List.getElem_cons_succ, List.setIfInBounds_toArray, List.set_cons_zero, List.set_cons_succ])
    refine wpAnyH_take (i := 5) (oi := _) (v := ?_) rfl (by kernel_rfl) (by kernel_rfl) (by kernel_rfl) (fun _ _ _ h => h) (Or.inl ⟨by rfl, ?_⟩) (by assumption) ?_
    rotate_left 1
    · (intro w hSw; (try dsimp only at hSw); (go_simp <;> first | with_reducible rfl | (rw [if_neg (by omega)])))
    (try simp only [Act.put, List.getElem_toArray, List.getElem_cons_zero, List.getElem_cons_succ, List.setIfInBounds_toArray, List.set_cons_zero, List.set_cons_succ])
    refine wpAnyH_take (i := 6) (oi := _) (v := ?_) rfl (by kernel_rfl) (by kernel_rfl) (by kernel_rfl) (fun _ _ _ h => h) (Or.inl ⟨by rfl, ?_⟩) (by assumption) ?_
    rotate_left 1
    · (intro w hSw; (try dsimp only at hSw); (go_simp <;> first | with_reducible rfl | (rw [if_neg (by omega)])))
    (try simp only [Act.put, List.getElem_toArray, List.getElem_cons_zero, List.getElem_cons_succ, List.setIfInBounds_toArray, List.set_cons_zero, List.set_cons_succ])
    refine wpAnyH_take (i := 7) (oi := _) (v := ?_) rfl (by kernel_rfl) (by kernel_rfl) (by kernel_rfl) (fun _ _ _ h => h) (Or.inl ⟨by rfl, ?_⟩) (by assumption) ?_
    rotate_left 1
    · (intro w hSw; (try dsimp only at hSw); (go_simp <;> first | with_reducible rfl | (rw [if_neg (by omega)])))
    (try simp only [Act.put, List.getElem_toArray, List.getElem_cons_zero, List.getElem_cons_succ, List.setIfInBounds_toArray, List.set_cons_zero, List.set_cons_succ])
    refine wpAnyH_take (i := 8) (oi := _) (v := ?_) rfl (by kernel_rfl) (by kernel_rfl) (by kernel_rfl) (fun _ _ _ h => h) (Or.inl ⟨by rfl, ?_⟩) (by assumption) ?_
    rotate_left 1
    · (intro w hSw; (try dsimp only at hSw); (go_simp <;> first | with_reducible rfl | (rw [if_neg (by omega)])))
    (try simp only [Act.put, List.getElem_toArray, List.getElem_cons_zero, List.getElem_cons_succ, List.setIfInBounds_toArray, List.set_cons_zero, List.set_cons_succ])
    refine wpAnyH_take (i := 9) (oi := _) (v := ?_) rfl (by kernel_rfl) (by kernel_rfl) (by kernel_rfl) (fun _ _ _ h => h) (Or.inl ⟨by rfl, ?_⟩) (by assumption) ?_
    rotate_left 1
    · (intro w hSw; (try dsimp only at hSw); (go_simp <;> first | with_reducible rfl | (rw [if_neg (by omega)])))
    (try simp only [Act.put, List.getElem_toArray, List.getElem_cons_zero, List.getElem_cons_succ, List.setIfInBounds_toArray, List.set_cons_zero, List.set_cons_succ])
    refine wpAnyH_ready (rs := [10]) (by kernel_rfl) (by simp) ?_
    refine AllReadyH.cons (o := _) rfl (fun K hK => ?_) ?_
    · go_simp
      refine (HIT.out _ (by exact B2.out.drew)).mono ?_
      rintro en w4 ⟨rfl, b4⟩
      have d1 : w4.cell? ⟨w1.heap.size, 1, none⟩ = some (.string ⟨l.toArray⟩) := (b4.cell (p := ⟨w1.heap.size, 1, none⟩) HLT.out).trans c1
      have B4 := Lib.hid (bthen (bdrewN B2.out _) b4)
      clear b4
      go_simp
      refine hK.out _ _ ?_ (fun hHeld => ?_)
      · exact d1
      clear hK K
      (try simp only [Act.put, List.getElem_toArray, List.getElem_cons_zero, List.getElem_cons_succ, List.setIfInBounds_toArray, List.set_cons_zero, List.set_cons_succ])
      refine wpAnyH_take (i := 11) (oi := _) (v := ?_) rfl (by kernel_rfl) (by kernel_rfl) (by kernel_rfl) (fun _ _ _ h => h) (Or.inl ⟨by rfl, ?_⟩) (by assumption) ?_
      rotate_left 1
      · (intro w hSw; (try dsimp only at hSw); (go_simp <;> first | with_reducible rfl | (rw [if_neg (by omega)])))
      (try simp only [Act.put, List.getElem_toArray, List.getElem_cons_zero, List.getElem_cons_succ, List.setIfInBounds_toArray, List.set_cons_zero, List.set_cons_succ])
      refine wpAnyH_take (i := 12) (oi := _) (v := ?_) rfl (by kernel_rfl) (by kernel_rfl) (by kernel_rfl) (fun _ _ _ h => h) (Or.inl ⟨by rfl, ?_⟩) (by assumption) ?_
      rotate_left 1
      · (intro w hSw; (try dsimp only at hSw); (go_simp <;> first | with_reducible rfl | (rw [if_neg (by omega)])))
      (try simp only [Act.put, List.getElem_toArray, List.getElem_cons_zero, List.getElem_cons_succ, List.setIfInBounds_toArray, List.set_cons_zero, List.set_cons_succ])
      refine wpAnyH_take (i := 13) (oi := _) (v := ?_) rfl (by kernel_rfl) (by kernel_rfl) (by kernel_rfl) (fun _ _ _ h => h) (Or.inl ⟨by rfl, ?_⟩) (by assumption) ?_
      rotate_left 1
      · (intro w hSw; (try dsimp only at hSw); (go_simp <;> first | with_reducible rfl | (rw [if_neg (by omega)])))
      (try simp only [Act.put, List.getElem_toArray, List.getElem_cons_zero, List.getElem_cons_succ, List.setIfInBounds_toArray, List.set_cons_zero, List.set_cons_succ])
      refine wpAnyH_done (by kernel_rfl) ?_ _
      go_wp2_with fail
      go_ret2
      exact tx_end _ _ _ _ (by rw [HW.out]; simp [HPQ.out.1, HPQ.out.2]) B4.out
    exact AllReadyH.nil
  · go_enter Tryz.func9, Tryz.ntmps9
    go_wp2_with fail
    refine (HD.out _).mono ?_
    rintro en w1 ⟨rfl, b1⟩
    have HK := Lib.hid (Blk.new w1 32 #[.bool true, .string ⟨l.toArray⟩, .int .i64 e])
    have B1 := Lib.hid (b1.alloc b1.size (.cells #[.bool true, .string ⟨l.toArray⟩, .int .i64 e] 32))
    clear b1
    go_wp2_with fail
    go_quiet (fail)
    have c0 : ((w1.alloc (.cells #[.bool true, .string ⟨l.toArray⟩, .int .i64 e] 32)).drewN nq).cell? ⟨w1.heap.size, 0, none⟩ = some (.bool true) := HK.out.cell 0
    have c1 : ((w1.alloc (.cells #[.bool true, .string ⟨l.toArray⟩, .int .i64 e] 32)).drewN nq).cell? ⟨w1.heap.size, 1, none⟩ = some (.string ⟨l.toArray⟩) := HK.out.cell 1
    have c2 : ((w1.alloc (.cells #[.bool true, .string ⟨l.toArray⟩, .int .i64 e] 32)).drewN nq).cell? ⟨w1.heap.size, 2, none⟩ = some (.int .i64 e) := HK.out.cell 2
    have B2 : Hid (Below w.heap.size w ((w1.alloc (.cells #[.bool true, .string ⟨l.toArray⟩, .int .i64 e] 32)).drewN nq)) := Lib.hid (bdrewN B1.out nq)
    generalize (w1.alloc (.cells #[.bool true, .string ⟨l.toArray⟩, .int .i64 e] 32)).drewN nq = W3 at *
    have HLT : Hid (w1.heap.size < W3.heap.size) := Lib.hid (World.block_lt_of_cell? _ _ c1)
    clear HK B1
    go_wp2_with fail
    refine wp_region_held_drew (S := (fun w' => w'.cell? ⟨w1.heap.size, 1, none⟩ = some (.string ⟨l.toArray⟩))) (by kernel_rfl) ?_ (fun hHeld => ?_)
    · exact c1
    refine wpAnyH_take (i := 0) (oi := _) (v := ?_) rfl (by kernel_rfl) (by kernel_rfl) (by kernel_rfl) (fun _ _ _ h => h) (Or.inl ⟨by rfl, ?_⟩) (by assumption) ?_
    rotate_left 1
    · (intro w hSw; (try dsimp only at hSw); (go_simp <;> first | with_reducible rfl | (rw [if_neg (by omega)])))
    (try simp only [Act.put, List.getElem_toArray, List.getElem_cons_zero, List.getElem_cons_succ, List.setIfInBounds_toArray, List.set_cons_zero, List.set_cons_succ])
    refine wpAnyH_take (i := 1) (oi := _) (v := ?_) rfl (by kernel_rfl) (by kernel_rfl) (by kernel_rfl) (fun _ _ _ h => h) (Or.inl ⟨by rfl, ?_⟩) (by assumption) ?_
    rotate_left 1
    · (intro w hSw; (try dsimp only at hSw); (go_simp <;> first | with_reducible rfl | (rw [if_neg (by omega)])))
    (try simp only [Act.put, List.getElem_toArray, List.getElem_cons_zero, List.getElem_cons_succ, List.setIfInBounds_toArray, List.set_cons_zero, List.set_cons_succ])
    refine wpAnyH_take (i := 2) (oi := _) (v := ?_) rfl (by kernel_rfl) (by kernel_rfl) (by kernel_rfl) (fun _ _ _ h => h) (Or.inl ⟨by rfl, ?_⟩) (by assumption) ?_
    rotate_left 1
    · (intro w hSw; (try dsimp only at hSw); (go_simp <;> first | with_reducible rfl | (rw [if_neg (by omega)])))
    (try simp only [Act.put, List.getElem_toArray, List.getElem_cons_zero, List.getElem_cons_succ, List.setIfInBounds_toArray, List.set_cons_zero, List.set_cons_succ])
    refine wpAnyH_take (i := 3) (oi := _) (v := ?_) rfl (by kernel_rfl) (by kernel_rfl) (by kernel_rfl) (fun _ _ _ h => h) (Or.inl ⟨by rfl, ?_⟩) (by assumption) ?_
    rotate_left 1
    · (intro w hSw; (try dsimp only at hSw); (go_simp <;> first | with_reducible rfl | (rw [if_neg (by omega)])))
    (try simp only [Act.put, List.getElem_toArray, List.getElem_cons_zero, List.getElem_cons_succ, List.setIfInBounds_toArray, List.set_cons_zero, List.set_cons_succ])
    refine wpAnyH_take (i := 4) (oi := _) (v := ?_) rfl (by kernel_rfl) (by kernel_rfl) (by kernel_rfl) (fun _ _ _ h => h) (Or.inl ⟨by rfl, ?_⟩) (by assumption) ?_
    rotate_left 1
    · (intro w hSw; (try dsimp only at hSw); (go_simp <;> first | with_reducible rfl | (rw [if_neg (by omega)])))
    (try simp only [Act.put, List.getElem_toArray, List.getElem_cons_zero, List.getElem_cons_succ, List.setIfInBounds_toArray, List.set_cons_zero, List.set_cons_succ])
    refine wpAnyH_take (i := 5) (oi := _) (v := ?_) rfl (by kernel_rfl) (by kernel_rfl) (by kernel_rfl) (fun _ _ _ h => h) (Or.inl ⟨by rfl, ?_⟩) (by assumption) ?_
    rotate_left 1
    · (intro w hSw; (try dsimp only at hSw); (go_simp <;> first | with_reducible rfl | (rw [if_neg (by omega)])))
    (try simp only [Act.put, List.getElem_toArray, List.getElem_cons_zero, List.getElem_cons_succ, List.setIfInBounds_toArray, List.set_cons_zero, List.set_cons_succ])
    refine wpAnyH_take (i := 6) (oi := _) (v := ?_) rfl (by kernel_rfl) (by kernel_rfl) (by kernel_rfl) (fun _ _ _ h => h) (Or.inl ⟨by rfl, ?_⟩) (by assumption) ?_
    rotate_left 1
    · (intro w hSw; (try dsimp only at hSw); (go_simp <;> first | with_reducible rfl | (rw [if_neg (by omega)])))
    (try simp only [Act.put, List.getElem_toArray, List.getElem_cons_zero, List.getElem_cons_succ, List.setIfInBounds_toArray, List.set_cons_zero, List.set_cons_succ])
    refine wpAnyH_take (i := 7) (oi := _) (v := ?_) rfl (by kernel_rfl) (by kernel_rfl) (by kernel_rfl) (fun _ _ _ h => h) (Or.inl ⟨by rfl, ?_⟩) (by assumption) ?_
    rotate_left 1
    · (intro w hSw; (try dsimp only at hSw); (go_simp <;> first | with_reducible rfl | (rw [if_neg (by omega)])))
    (try simp only [Act.put, List.getElem_toArray, List.getElem_cons_zero, List.getElem_cons_succ, List.setIfInBounds_toArray, List.set_cons_zero, List.set_cons_succ])
    refine wpAnyH_take (i := 8) (oi := _) (v := ?_) rfl (by kernel_rfl) (by kernel_rfl) (by kernel_rfl) (fun _ _ _ h => h) (Or.inl ⟨by rfl, ?_⟩) (by assumption) ?_
    rotate_left 1
    · (intro w hSw; (try dsimp only at hSw); (go_simp <;> first | with_reducible rfl | (rw [if_neg (by omega)])))
    (try simp only [Act.put, List.getElem_toArray, List.getElem_cons_zero, List.getElem_cons_succ, List.setIfInBounds_toArray, List.set_cons_zero, List.set_cons_succ])
    refine wpAnyH_take (i := 9) (oi := _) (v := ?_) rfl (by kernel_rfl) (by kernel_rfl) (by kernel_rfl) (fun _ _ _ h => h) (Or.inl ⟨by rfl, ?_⟩) (by assumption) ?_
    rotate_left 1
    · (intro w hSw; (try dsimp only at hSw); (go_simp <;> first | with_reducible rfl | (rw [if_neg (by omega)])))
    (try simp only [Act.put, List.getElem_toArray, List.getElem_cons_zero, List.getElem_cons_succ, List.setIfInBounds_toArray, List.set_cons_zero, List.set_cons_succ])
    refine wpAnyH_ready (rs := [10]) (by kernel_rfl) (by simp) ?_
    refine AllReadyH.cons (o := _) rfl (fun K hK => ?_) ?_
    · go_simp
      refine (HIT.out _ (by exact B2.out.drew)).mono ?_
      rintro en w4 ⟨rfl, b4⟩
      have d1 : w4.cell? ⟨w1.heap.size, 1, none⟩ = some (.string ⟨l.toArray⟩) := (b4.cell (p := ⟨w1.heap.size, 1, none⟩) HLT.out).trans c1
      have B4 := Lib.hid (bthen (bdrewN B2.out _) b4)
      clear b4
      go_simp
      refine hK.out _ _ ?_ (fun hHeld => ?_)
      · exact d1
      clear hK K
      (try simp only [Act.put, List.getElem_toArray, List.getElem_cons_zero, List.getElem_cons_succ, List.setIfInBounds_toArray, List.set_cons_zero, List.set_cons_succ])
      refine wpAnyH_take (i := 11) (oi := _) (v := ?_) rfl (by kernel_rfl) (by kernel_rfl) (by kernel_rfl) (fun _ _ _ h => h) (Or.inl ⟨by rfl, ?_⟩) (by assumption) ?_
      rotate_left 1
      · (intro w hSw; (try dsimp only at hSw); (go_simp <;> first | with_reducible rfl | (rw [if_neg (by omega)])))
      (try simp only [Act.put, List.getElem_toArray, List.getElem_cons_zero, List.getElem_cons_succ, List.setIfInBounds_toArray, List.set_cons_zero, List.set_cons_succ])
      refine wpAnyH_take (i := 12) (oi := _) (v := ?_) rfl (by kernel_rfl) (by kernel_rfl) (by kernel_rfl) (fun _ _ _ h => h) (Or.inl ⟨by rfl, ?_⟩) (by assumption) ?_
      rotate_left 1
      · (intro w hSw; (try dsimp only at hSw); (go_simp <;> first | with_reducible rfl | (rw [if_neg (by omega)])))
      (try simp only [Act.put, List.getElem_toArray, List.getElem_cons_zero, List.getElem_cons_succ, List.setIfInBounds_toArray, List.set_cons_zero, List.set_cons_succ])
      refine wpAnyH_take (i := 13) (oi := _) (v := ?_) rfl (by kernel_rfl) (by kernel_rfl) (by kernel_rfl) (fun _ _ _ h => h) (Or.inl ⟨by rfl, ?_⟩) (by assumption) ?_
      rotate_left 1
      · (intro w hSw; (try dsimp only at hSw); (go_simp <;> first | with_reducible rfl | (rw [if_neg (by omega)])))
      (try simp only [Act.put, List.getElem_toArray, List.getElem_cons_zero, List.getElem_cons_succ, List.setIfInBounds_toArray, List.set_cons_zero, List.set_cons_succ])
      refine wpAnyH_done (by kernel_rfl) ?_ _
      go_wp2_with fail
      go_ret2
      exact tx_end _ _ _ _ (by rw [HW.out]; simp [HPQ.out.1, HPQ.out.2]) B4.out
    exact AllReadyH.nil
set_option maxHeartbeats 8000000 in
set_option maxRecDepth 100000 in
theorem text_5bm (x : Nat) (neg : Bool) (l : List UInt8) (e : Int) (w : World) (h1 : ∀ W, Calls Tryz.prog 13 #[.float .f64 x] W (DxPost W (.agg #[.bool neg, .string ⟨l.toArray⟩, .int .i64 e]) 0)) (hl : l.length ≤ 3000) (he1 : -9000 ≤ e) (he2 : e ≤ 9000) (htab : Tens w) (hn : 1 < l.length) (h0 : e < 0) (hp : 21 < e + l.length) :
    Calls Tryz.prog 9 #[.float .f64 x] w (TxPost w (writeF neg l e)) := by
  have HD := Lib.hid h1
  clear h1
  have hlz : (⟨l.toArray⟩ : ByteArray).size = l.length := by simp [ByteArray.size]
  obtain ⟨P, hP, hPl, hPs⟩ := sl_to ⟨l.toArray⟩ 1 1 rfl (by rw [hlz]; omega)
  obtain ⟨Q, hQ, hQl, hQs⟩ := sl_from ⟨l.toArray⟩ 1 1 rfl (by rw [hlz]; omega)
  have hPb : P.size ≤ 3000 := by omega
  have hQb : Q.size ≤ 3000 := by omega
  have HPQ := Lib.hid (show P.data.toList = l.take 1 ∧ Q.data.toList = l.drop 1 from ⟨hPl, hQl⟩)
  have hw : ∀ b, writeF b l e = (if b then [45] else []) ++ (l.take 1 ++ (46 :: l.drop 1 ++ 101 :: itoaF (e + l.length - 1))) := fun b => by show _ ++ bodyF l e = _; congr 1; unfold bodyF; rw [if_neg (by omega), if_neg (by omega), if_neg (by omega), if_neg (by omega), if_pos (by omega)]
  have hil := itoa_len (e + l.length - 1) (by omega) (by omega)
  have HIT := Lib.hid (fun (W : World) (hb : Below w.heap.size w W) => itoa_w (e + l.length - 1) W (by omega) (by omega) (htab.below hb))
  generalize itoaF (e + l.length - 1) = I at hw hil HIT
  have HW := Lib.hid hw
  have t1 : ((l.length : Int) == 0) = false := by rw [beq_eq_false_iff_ne]; omega
  have hwp : IntKind.i64.wrap (e + (l.length : Int)) = e + (l.length : Int) := IntWalk.i64_in _ (by omega)
  have hwq : IntKind.i64.wrap (e + (l.length : Int) - 1) = e + (l.length : Int) - 1 := IntWalk.i64_in _ (by omega)
  have t2 : decide ((l.length : Int) ≤ e + (l.length : Int)) = false := decide_eq_false (by omega)
  have t3 : ¬ 0 ≤ e := by omega
  have t8 : decide ((1 : Int) < (l.length : Int)) = true := by rw [decide_eq_true_iff]; omega
  clear hPl hQl hPs hQs hw htab
  cases neg
  · go_enter Tryz.func9, Tryz.ntmps9
    go_wp2_with fail
    refine (HD.out _).mono ?_
    rintro en w1 ⟨rfl, b1⟩
    have HK := Lib.hid (Blk.new w1 32 #[.bool false, .string ⟨l.toArray⟩, .int .i64 e])
    have B1 := Lib.hid (b1.alloc b1.size (.cells #[.bool false, .string ⟨l.toArray⟩, .int .i64 e] 32))
    clear b1
    go_wp2_with fail
    go_quiet (fail)
    have c0 : ((w1.alloc (.cells #[.bool false, .string ⟨l.toArray⟩, .int .i64 e] 32)).drewN nq).cell? ⟨w1.heap.size, 0, none⟩ = some (.bool false) := HK.out.cell 0
    have c1 : ((w1.alloc (.cells #[.bool false, .string ⟨l.toArray⟩, .int .i64 e] 32)).drewN nq).cell? ⟨w1.heap.size, 1, none⟩ = some (.string ⟨l.toArray⟩) := HK.out.cell 1
    have c2 : ((w1.alloc (.cells #[.bool false, .string ⟨l.toArray⟩, .int .i64 e] 32)).drewN nq).cell? ⟨w1.heap.size, 2, none⟩ = some (.int .i64 e) := HK.out.cell 2
    have B2 : Hid (Below w.heap.size w ((w1.alloc (.cells #[.bool false, .string ⟨l.toArray⟩, .int .i64 e] 32)).drewN nq)) := Lib.hid (bdrewN B1.out nq)
    generalize (w1.alloc (.cells #[.bool false, .string ⟨l.toArray⟩, .int .i64 e] 32)).drewN nq = W3 at *
    have HLT : Hid (w1.heap.size < W3.heap.size) := Lib.hid (World.block_lt_of_cell? _ _ c1)
    clear HK B1
    go_wp2_with fail
    refine wp_region_held_drew (S := (fun w' => w'.cell? ⟨w1.heap.size, 1, none⟩ = some (.string ⟨l.toArray⟩))) (by kernel_rfl) ?_ (fun hHeld => ?_)
    · exact c1
    refine wpAnyH_take (i := 0) (oi := _) (v := ?_) rfl (by kernel_rfl) (by kernel_rfl) (by kernel_rfl) (fun _ _ _ h => h) (Or.inl ⟨by rfl, ?_⟩) (by assumption) ?_
    rotate_left 1
    · (intro w hSw; (try dsimp only at hSw); (go_simp <;> first | with_reducible rfl | (rw [if_neg (by omega)])))
    (try simp only [Act.put, List.getElem_toArray, List.getElem_cons_zero, List.getElem_cons_succ, List.setIfInBounds_toArray, List.set_cons_zero, List.set_cons_succ])
    refine wpAnyH_take (i := 1) (oi := _) (v := ?_) rfl (by kernel_rfl) (by kernel_rfl) (by kernel_rfl) (fun _ _ _ h => h) (Or.inl ⟨by rfl, ?_⟩) (by assumption) ?_
    rotate_left 1
    · (intro w hSw; (try dsimp only at hSw); (go_simp <;> first | with_reducible rfl | (rw [if_neg (by omega)])))
    (try simp only [Act.put, List.getElem_toArray, List.getElem_cons_zero, List.getElem_cons_succ, List.setIfInBounds_toArray, List.set_cons_zero, List.set_cons_succ])
    refine wpAnyH_take (i := 2) (oi := _) (v := ?_) rfl (by kernel_rfl) (by kernel_rfl) (by kernel_rfl) (fun _ _ _ h => h) (Or.inl ⟨by rfl, ?_⟩) (by assumption) ?_
    rotate_left 1
    · (intro w hSw; (try dsimp only at hSw); (go_simp <;> first | with_reducible rfl | (rw [if_neg (by omega)])))
    (try simp only [Act.put, List.getElem_toArray, List.getElem_cons_zero, List.getElem_cons_succ, List.setIfInBounds_toArray, List.set_cons_zero, List.set_cons_succ])
    refine wpAnyH_take (i := 3) (oi := _) (v := ?_) rfl (by kernel_rfl) (by kernel_rfl) (by kernel_rfl) (fun _ _ _ h => h) (Or.inl ⟨by rfl, ?_⟩) (by assumption) ?_
    rotate_left 1
    · (intro w hSw; (try dsimp only at hSw); (go_simp <;> first | with_reducible rfl | (rw [if_neg (by omega)])))
    (try simp only [Act.put, List.getElem_toArray, List.getElem_cons_zero, List.getElem_cons_succ, List.setIfInBounds_toArray, List.set_cons_zero, List.set_cons_succ])
    refine wpAnyH_take (i := 4) (oi := _) (v := ?_) rfl (by kernel_rfl) (by kernel_rfl) (by kernel_rfl) (fun _ _ _ h => h) (Or.inl ⟨by rfl, ?_⟩) (by assumption) ?_
    rotate_left 1
    · (intro w hSw; (try dsimp only at hSw); (go_simp <;> first | with_reducible rfl | (rw [if_neg (by omega)])))
    (try simp only [Act.put, List.getElem_toArray, List.getElem_cons_zero, List.getElem_cons_succ, List.setIfInBounds_toArray, List.set_cons_zero, List.set_cons_succ])
    refine wpAnyH_take (i := 5) (oi := _) (v := ?_) rfl (by kernel_rfl) (by kernel_rfl) (by kernel_rfl) (fun _ _ _ h => h) (Or.inl ⟨by rfl, ?_⟩) (by assumption) ?_
    rotate_left 1
    · (intro w hSw; (try dsimp only at hSw); (go_simp <;> first | with_reducible rfl | (rw [if_neg (by omega)])))
    (try simp only [Act.put, List.getElem_toArray, List.getElem_cons_zero, List.getElem_cons_succ, List.setIfInBounds_toArray, List.set_cons_zero, List.set_cons_succ])
    refine wpAnyH_take (i := 6) (oi := _) (v := ?_) rfl (by kernel_rfl) (by kernel_rfl) (by kernel_rfl) (fun _ _ _ h => h) (Or.inl ⟨by rfl, ?_⟩) (by assumption) ?_
    rotate_left 1
    · (intro w hSw; (try dsimp only at hSw); (go_simp <;> first | with_reducible rfl | (rw [if_neg (by omega)])))
    (try simp only [Act.put, List.getElem_toArray, List.getElem_cons_zero, List.getElem_cons_succ, List.setIfInBounds_toArray, List.set_cons_zero, List.set_cons_succ])
    refine wpAnyH_take (i := 7) (oi := _) (v := ?_) rfl (by kernel_rfl) (by kernel_rfl) (by kernel_rfl) (fun _ _ _ h => h) (Or.inl ⟨by rfl, ?_⟩) (by assumption) ?_
    rotate_left 1
    · (intro w hSw; (try dsimp only at hSw); (go_simp <;> first | with_reducible rfl | (rw [if_neg (by omega)])))
    (try simp only [Act.put, List.getElem_toArray, List.getElem_cons_zero, List.getElem_cons_succ, List.setIfInBounds_toArray, List.set_cons_zero, List.set_cons_succ])
    refine wpAnyH_take (i := 8) (oi := _) (v := ?_) rfl (by kernel_rfl) (by kernel_rfl) (by kernel_rfl) (fun _ _ _ h => h) (Or.inl ⟨by rfl, ?_⟩) (by assumption) ?_
    rotate_left 1
    · (intro w hSw; (try dsimp only at hSw); (go_simp <;> first | with_reducible rfl | (rw [if_neg (by omega)])))
    (try simp only [Act.put, List.getElem_toArray, List.getElem_cons_zero, List.getElem_cons_succ, List.setIfInBounds_toArray, List.set_cons_zero, List.set_cons_succ])
    refine wpAnyH_take (i := 9) (oi := _) (v := ?_) rfl (by kernel_rfl) (by kernel_rfl) (by kernel_rfl) (fun _ _ _ h => h) (Or.inl ⟨by rfl, ?_⟩) (by assumption) ?_
    rotate_left 1
    · (intro w hSw; (try dsimp only at hSw); (go_simp <;> first | with_reducible rfl | (rw [if_neg (by omega)])))
    (try simp only [Act.put, List.getElem_toArray, List.getElem_cons_zero, List.getElem_cons_succ, List.setIfInBounds_toArray, List.set_cons_zero, List.set_cons_succ])
    refine wpAnyH_ready (rs := [10]) (by kernel_rfl) (by simp) ?_
    refine AllReadyH.cons (o := _) rfl (fun K hK => ?_) ?_
    · go_simp
      refine (HIT.out _ (by exact B2.out.drew)).mono ?_
      rintro en w4 ⟨rfl, b4⟩
      have d1 : w4.cell? ⟨w1.heap.size, 1, none⟩ = some (.string ⟨l.toArray⟩) := (b4.cell (p := ⟨w1.heap.size, 1, none⟩) HLT.out).trans c1
      have B4 := Lib.hid (bthen (bdrewN B2.out _) b4)
      clear b4
      go_simp
      refine hK.out _ _ ?_ (fun hHeld => ?_)
      · exact d1
      clear hK K
      (try simp only [Act.put, List.getElem_toArray, List.getElem_cons_zero, List.getElem_cons_succ, List.setIfInBounds_toArray, List.set_cons_zero, List.set_cons_succ])
      refine wpAnyH_take (i := 11) (oi := _) (v := ?_) rfl (by kernel_rfl) (by kernel_rfl) (by kernel_rfl) (fun _ _ _ h => h) (Or.inl ⟨by rfl, ?_⟩) (by assumption) ?_
      rotate_left 1
      · (intro w hSw; (try dsimp only at hSw); (go_simp <;> first | with_reducible rfl | (rw [if_neg (by omega)])))
      (try simp only [Act.put, List.getElem_toArray, List.getElem_cons_zero, List.getElem_cons_succ, List.setIfInBounds_toArray, List.set_cons_zero, List.set_cons_succ])
      refine wpAnyH_take (i := 12) (oi := _) (v := ?_) rfl (by kernel_rfl) (by kernel_rfl) (by kernel_rfl) (fun _ _ _ h => h) (Or.inl ⟨by rfl, ?_⟩) (by assumption) ?_
      rotate_left 1
      · (intro w hSw; (try dsimp only at hSw); (go_simp <;> first | with_reducible rfl | (rw [if_neg (by omega)])))
      (try simp only [Act.put, List.getElem_toArray, List.getElem_cons_zero, List.getElem_cons_succ, List.setIfInBounds_toArray, List.set_cons_zero, List.set_cons_succ])
      refine wpAnyH_take (i := 13) (oi := _) (v := ?_) rfl (by kernel_rfl) (by kernel_rfl) (by kernel_rfl) (fun _ _ _ h => h) (Or.inl ⟨by rfl, ?_⟩) (by assumption) ?_
      rotate_left 1
      · (intro w hSw; (try dsimp only at hSw); (go_simp <;> first | with_reducible rfl | (rw [if_neg (by omega)])))
      (try simp only [Act.put, List.getElem_toArray, List.getElem_cons_zero, List.getElem_cons_succ, List.setIfInBounds_toArray, List.set_cons_zero, List.set_cons_succ])
      refine wpAnyH_done (by kernel_rfl) ?_ _
      go_wp2_with fail
      go_ret2
      exact tx_end _ _ _ _ (by rw [HW.out]; simp [HPQ.out.1, HPQ.out.2]) B4.out
    exact AllReadyH.nil
  · go_enter Tryz.func9, Tryz.ntmps9
    go_wp2_with fail
    refine (HD.out _).mono ?_
    rintro en w1 ⟨rfl, b1⟩
    have HK := Lib.hid (Blk.new w1 32 #[.bool true, .string ⟨l.toArray⟩, .int .i64 e])
    have B1 := Lib.hid (b1.alloc b1.size (.cells #[.bool true, .string ⟨l.toArray⟩, .int .i64 e] 32))
    clear b1
    go_wp2_with fail
    go_quiet (fail)
    have c0 : ((w1.alloc (.cells #[.bool true, .string ⟨l.toArray⟩, .int .i64 e] 32)).drewN nq).cell? ⟨w1.heap.size, 0, none⟩ = some (.bool true) := HK.out.cell 0
    have c1 : ((w1.alloc (.cells #[.bool true, .string ⟨l.toArray⟩, .int .i64 e] 32)).drewN nq).cell? ⟨w1.heap.size, 1, none⟩ = some (.string ⟨l.toArray⟩) := HK.out.cell 1
    have c2 : ((w1.alloc (.cells #[.bool true, .string ⟨l.toArray⟩, .int .i64 e] 32)).drewN nq).cell? ⟨w1.heap.size, 2, none⟩ = some (.int .i64 e) := HK.out.cell 2
    have B2 : Hid (Below w.heap.size w ((w1.alloc (.cells #[.bool true, .string ⟨l.toArray⟩, .int .i64 e] 32)).drewN nq)) := Lib.hid (bdrewN B1.out nq)
    generalize (w1.alloc (.cells #[.bool true, .string ⟨l.toArray⟩, .int .i64 e] 32)).drewN nq = W3 at *
    have HLT : Hid (w1.heap.size < W3.heap.size) := Lib.hid (World.block_lt_of_cell? _ _ c1)
    clear HK B1
    go_wp2_with fail
    refine wp_region_held_drew (S := (fun w' => w'.cell? ⟨w1.heap.size, 1, none⟩ = some (.string ⟨l.toArray⟩))) (by kernel_rfl) ?_ (fun hHeld => ?_)
    · exact c1
    refine wpAnyH_take (i := 0) (oi := _) (v := ?_) rfl (by kernel_rfl) (by kernel_rfl) (by kernel_rfl) (fun _ _ _ h => h) (Or.inl ⟨by rfl, ?_⟩) (by assumption) ?_
    rotate_left 1
    · (intro w hSw; (try dsimp only at hSw); (go_simp <;> first | with_reducible rfl | (rw [if_neg (by omega)])))
    (try simp only [Act.put, List.getElem_toArray, List.getElem_cons_zero, List.getElem_cons_succ, List.setIfInBounds_toArray, List.set_cons_zero, List.set_cons_succ])
    refine wpAnyH_take (i := 1) (oi := _) (v := ?_) rfl (by kernel_rfl) (by kernel_rfl) (by kernel_rfl) (fun _ _ _ h => h) (Or.inl ⟨by rfl, ?_⟩) (by assumption) ?_
    rotate_left 1
    · (intro w hSw; (try dsimp only at hSw); (go_simp <;> first | with_reducible rfl | (rw [if_neg (by omega)])))
    (try simp only [Act.put, List.getElem_toArray, List.getElem_cons_zero, List.getElem_cons_succ, List.setIfInBounds_toArray, List.set_cons_zero, List.set_cons_succ])
    refine wpAnyH_take (i := 2) (oi := _) (v := ?_) rfl (by kernel_rfl) (by kernel_rfl) (by kernel_rfl) (fun _ _ _ h => h) (Or.inl ⟨by rfl, ?_⟩) (by assumption) ?_
    rotate_left 1
    · (intro w hSw; (try dsimp only at hSw); (go_simp <;> first | with_reducible rfl | (rw [if_neg (by omega)])))
    (try simp only [Act.put, List.getElem_toArray, List.getElem_cons_zero, List.getElem_cons_succ, List.setIfInBounds_toArray, List.set_cons_zero, List.set_cons_succ])
    refine wpAnyH_take (i := 3) (oi := _) (v := ?_) rfl (by kernel_rfl) (by kernel_rfl) (by kernel_rfl) (fun _ _ _ h => h) (Or.inl ⟨by rfl, ?_⟩) (by assumption) ?_
    rotate_left 1
    · (intro w hSw; (try dsimp only at hSw); (go_simp <;> first | with_reducible rfl | (rw [if_neg (by omega)])))
    (try simp only [Act.put, List.getElem_toArray, List.getElem_cons_zero, List.getElem_cons_succ, List.setIfInBounds_toArray, List.set_cons_zero, List.set_cons_succ])
    refine wpAnyH_take (i := 4) (oi := _) (v := ?_) rfl (by kernel_rfl) (by kernel_rfl) (by kernel_rfl) (fun _ _ _ h => h) (Or.inl ⟨by rfl, ?_⟩) (by assumption) ?_
    rotate_left 1
    · (intro w hSw; (try dsimp only at hSw); (go_simp <;> first | with_reducible rfl | (rw [if_neg (by omega)])))
    (try simp only [Act.put, List.getElem_toArray, List.getElem_cons_zero, List.getElem_cons_succ, List.setIfInBounds_toArray, List.set_cons_zero, List.set_cons_succ])
    refine wpAnyH_take (i := 5) (oi := _) (v := ?_) rfl (by kernel_rfl) (by kernel_rfl) (by kernel_rfl) (fun _ _ _ h => h) (Or.inl ⟨by rfl, ?_⟩) (by assumption) ?_
    rotate_left 1
    · (intro w hSw; (try dsimp only at hSw); (go_simp <;> first | with_reducible rfl | (rw [if_neg (by omega)])))
    (try simp only [Act.put, List.getElem_toArray, List.getElem_cons_zero, List.getElem_cons_succ, List.setIfInBounds_toArray, List.set_cons_zero, List.set_cons_succ])
    refine wpAnyH_take (i := 6) (oi := _) (v := ?_) rfl (by kernel_rfl) (by kernel_rfl) (by kernel_rfl) (fun _ _ _ h => h) (Or.inl ⟨by rfl, ?_⟩) (by assumption) ?_
    rotate_left 1
    · (intro w hSw; (try dsimp only at hSw); (go_simp <;> first | with_reducible rfl | (rw [if_neg (by omega)])))
    (try simp only [Act.put, List.getElem_toArray, List.getElem_cons_zero, List.getElem_cons_succ, List.setIfInBounds_toArray, List.set_cons_zero, List.set_cons_succ])
    refine wpAnyH_take (i := 7) (oi := _) (v := ?_) rfl (by kernel_rfl) (by kernel_rfl) (by kernel_rfl) (fun _ _ _ h => h) (Or.inl ⟨by rfl, ?_⟩) (by assumption) ?_
    rotate_left 1
    · (intro w hSw; (try dsimp only at hSw); (go_simp <;> first | with_reducible rfl | (rw [if_neg (by omega)])))
    (try simp only [Act.put, List.getElem_toArray, List.getElem_cons_zero, List.getElem_cons_succ, List.setIfInBounds_toArray, List.set_cons_zero, List.set_cons_succ])
    refine wpAnyH_take (i := 8) (oi := _) (v := ?_) rfl (by kernel_rfl) (by kernel_rfl) (by kernel_rfl) (fun _ _ _ h => h) (Or.inl ⟨by rfl, ?_⟩) (by assumption) ?_
    rotate_left 1
    · (intro w hSw; (try dsimp only at hSw); (go_simp <;> first | with_reducible rfl | (rw [if_neg (by omega)])))
    (try simp only [Act.put, List.getElem_toArray, List.getElem_cons_zero, List.getElem_cons_succ, List.setIfInBounds_toArray, List.set_cons_zero, List.set_cons_succ])
    refine wpAnyH_take (i := 9) (oi := _) (v := ?_) rfl (by kernel_rfl) (by kernel_rfl) (by kernel_rfl) (fun _ _ _ h => h) (Or.inl ⟨by rfl, ?_⟩) (by assumption) ?_
    rotate_left 1
    · (intro w hSw; (try dsimp only at hSw); (go_simp <;> first | with_reducible rfl | (rw [if_neg (by omega)])))
    (try simp only [Act.put, List.getElem_toArray, List.getElem_cons_zero, List.getElem_cons_succ, List.setIfInBounds_toArray, List.set_cons_zero, List.set_cons_succ])
    refine wpAnyH_ready (rs := [10]) (by kernel_rfl) (by simp) ?_
    refine AllReadyH.cons (o := _) rfl (fun K hK => ?_) ?_
    · go_simp
      refine (HIT.out _ (by exact B2.out.drew)).mono ?_
      rintro en w4 ⟨rfl, b4⟩
      have d1 : w4.cell? ⟨w1.heap.size, 1, none⟩ = some (.string ⟨l.toArray⟩) := (b4.cell (p := ⟨w1.heap.size, 1, none⟩) HLT.out).trans c1
      have B4 := Lib.hid (bthen (bdrewN B2.out _) b4)
      clear b4
      go_simp
      refine hK.out _ _ ?_ (fun hHeld => ?_)
      · exact d1
      clear hK K
      (try simp only [Act.put, List.getElem_toArray, List.getElem_cons_zero, List.getElem_cons_succ, List.setIfInBounds_toArray, List.set_cons_zero, List.set_cons_succ])
      refine wpAnyH_take (i := 11) (oi := _) (v := ?_) rfl (by kernel_rfl) (by kernel_rfl) (by kernel_rfl) (fun _ _ _ h => h) (Or.inl ⟨by rfl, ?_⟩) (by assumption) ?_
      rotate_left 1
      · (intro w hSw; (try dsimp only at hSw); (go_simp <;> first | with_reducible rfl | (rw [if_neg (by omega)])))
      (try simp only [Act.put, List.getElem_toArray, List.getElem_cons_zero, List.getElem_cons_succ, List.setIfInBounds_toArray, List.set_cons_zero, List.set_cons_succ])
      refine wpAnyH_take (i := 12) (oi := _) (v := ?_) rfl (by kernel_rfl) (by kernel_rfl) (by kernel_rfl) (fun _ _ _ h => h) (Or.inl ⟨by rfl, ?_⟩) (by assumption) ?_
      rotate_left 1
      · (intro w hSw; (try dsimp only at hSw); (go_simp <;> first | with_reducible rfl | (rw [if_neg (by omega)])))
      (try simp only [Act.put, List.getElem_toArray, List.getElem_cons_zero, List.getElem_cons_succ, List.setIfInBounds_toArray, List.set_cons_zero, List.set_cons_succ])
      refine wpAnyH_take (i := 13) (oi := _) (v := ?_) rfl (by kernel_rfl) (by kernel_rfl) (by kernel_rfl) (fun _ _ _ h => h) (Or.inl ⟨by rfl, ?_⟩) (by assumption) ?_
      rotate_left 1
      · (intro w hSw; (try dsimp only at hSw); (go_simp <;> first | with_reducible rfl | (rw [if_neg (by omega)])))
      (try simp only [Act.put, List.getElem_toArray, List.getElem_cons_zero, List.getElem_cons_succ, List.setIfInBounds_toArray, List.set_cons_zero, List.set_cons_succ])
      refine wpAnyH_done (by kernel_rfl) ?_ _
      go_wp2_with fail
      go_ret2
      exact tx_end _ _ _ _ (by rw [HW.out]; simp [HPQ.out.1, HPQ.out.2]) B4.out
    exact AllReadyH.nil
set_option maxHeartbeats 8000000 in
set_option maxRecDepth 100000 in
theorem text_5cm (x : Nat) (neg : Bool) (l : List UInt8) (e : Int) (w : World) (h1 : ∀ W, Calls Tryz.prog 13 #[.float .f64 x] W (DxPost W (.agg #[.bool neg, .string ⟨l.toArray⟩, .int .i64 e]) 0)) (hl : l.length ≤ 3000) (he1 : -9000 ≤ e) (he2 : e ≤ 9000) (htab : Tens w) (hn : 1 < l.length) (hp : e + l.length + 5 < 0) :
    Calls Tryz.prog 9 #[.float .f64 x] w (TxPost w (writeF neg l e)) := by
  have HD := Lib.hid h1
  clear h1
  have hlz : (⟨l.toArray⟩ : ByteArray).size = l.length := by simp [ByteArray.size]
  obtain ⟨P, hP, hPl, hPs⟩ := sl_to ⟨l.toArray⟩ 1 1 rfl (by rw [hlz]; omega)
  obtain ⟨Q, hQ, hQl, hQs⟩ := sl_from ⟨l.toArray⟩ 1 1 rfl (by rw [hlz]; omega)
  have hPb : P.size ≤ 3000 := by omega
  have hQb : Q.size ≤ 3000 := by omega
  have HPQ := Lib.hid (show P.data.toList = l.take 1 ∧ Q.data.toList = l.drop 1 from ⟨hPl, hQl⟩)
  have hw : ∀ b, writeF b l e = (if b then [45] else []) ++ (l.take 1 ++ (46 :: l.drop 1 ++ 101 :: itoaF (e + l.length - 1))) := fun b => by show _ ++ bodyF l e = _; congr 1; unfold bodyF; rw [if_neg (by omega), if_neg (by omega), if_neg (by omega), if_neg (by omega), if_pos (by omega)]
  have hil := itoa_len (e + l.length - 1) (by omega) (by omega)
  have HIT := Lib.hid (fun (W : World) (hb : Below w.heap.size w W) => itoa_w (e + l.length - 1) W (by omega) (by omega) (htab.below hb))
  generalize itoaF (e + l.length - 1) = I at hw hil HIT
  have HW := Lib.hid hw
  have t1 : ((l.length : Int) == 0) = false := by rw [beq_eq_false_iff_ne]; omega
  have hwp : IntKind.i64.wrap (e + (l.length : Int)) = e + (l.length : Int) := IntWalk.i64_in _ (by omega)
  have hwq : IntKind.i64.wrap (e + (l.length : Int) - 1) = e + (l.length : Int) - 1 := IntWalk.i64_in _ (by omega)
  have t2 : decide ((l.length : Int) ≤ e + (l.length : Int)) = false := decide_eq_false (by omega)
  have t3 : ¬ 0 ≤ e := by omega
  have t8 : decide ((1 : Int) < (l.length : Int)) = true := by rw [decide_eq_true_iff]; omega
  have t5 : decide ((1 : Int) ≤ e + (l.length : Int)) = false := decide_eq_false (by omega)
  have t6 : decide ((-5 : Int) ≤ e + (l.length : Int)) = false := decide_eq_false (by omega)
  have t7 : (l.length : Int) ≤ 3000 := by omega
  have HPX := Lib.hid hp
  clear hp
  clear hPl hQl hPs hQs hw htab
  cases neg
  · go_enter Tryz.func9, Tryz.ntmps9
    go_wp2_with fail
    refine (HD.out _).mono ?_
    rintro en w1 ⟨rfl, b1⟩
    have HK := Lib.hid (Blk.new w1 32 #[.bool false, .string ⟨l.toArray⟩, .int .i64 e])
    have B1 := Lib.hid (b1.alloc b1.size (.cells #[.bool false, .string ⟨l.toArray⟩, .int .i64 e] 32))
    clear b1
    go_wp2_with fail
    go_quiet (fail)
    have c0 : ((w1.alloc (.cells #[.bool false, .string ⟨l.toArray⟩, .int .i64 e] 32)).drewN nq).cell? ⟨w1.heap.size, 0, none⟩ = some (.bool false) := HK.out.cell 0
    have c1 : ((w1.alloc (.cells #[.bool false, .string ⟨l.toArray⟩, .int .i64 e] 32)).drewN nq).cell? ⟨w1.heap.size, 1, none⟩ = some (.string ⟨l.toArray⟩) := HK.out.cell 1
    have c2 : ((w1.alloc (.cells #[.bool false, .string ⟨l.toArray⟩, .int .i64 e] 32)).drewN nq).cell? ⟨w1.heap.size, 2, none⟩ = some (.int .i64 e) := HK.out.cell 2
    have B2 : Hid (Below w.heap.size w ((w1.alloc (.cells #[.bool false, .string ⟨l.toArray⟩, .int .i64 e] 32)).drewN nq)) := Lib.hid (bdrewN B1.out nq)
    generalize (w1.alloc (.cells #[.bool false, .string ⟨l.toArray⟩, .int .i64 e] 32)).drewN nq = W3 at *
    have HLT : Hid (w1.heap.size < W3.heap.size) := Lib.hid (World.block_lt_of_cell? _ _ c1)
    clear HK B1
    go_wp2_with fail
    refine wp_region_held_drew (S := (fun w' => w'.cell? ⟨w1.heap.size, 1, none⟩ = some (.string ⟨l.toArray⟩))) (by kernel_rfl) ?_ (fun hHeld => ?_)
    · exact c1
    refine wpAnyH_take (i := 0) (oi := _) (v := ?_) rfl (by kernel_rfl) (by kernel_rfl) (by kernel_rfl) (fun _ _ _ h => h) (Or.inl ⟨by rfl, ?_⟩) (by assumption) ?_
    rotate_left 1
    · (intro w hSw; (try dsimp only at hSw); (go_simp <;> first | with_reducible rfl | (rw [if_neg (by omega)])))
    (try simp only [Act.put, List.getElem_toArray, List.getElem_cons_zero, List.getElem_cons_succ, List.setIfInBounds_toArray, List.set_cons_zero, List.set_cons_succ])
    refine wpAnyH_take (i := 1) (oi := _) (v := ?_) rfl (by kernel_rfl) (by kernel_rfl) (by kernel_rfl) (fun _ _ _ h => h) (Or.inl ⟨by rfl, ?_⟩) (by assumption) ?_
    rotate_left 1
    · (intro w hSw; (try dsimp only at hSw); (go_simp <;> first | with_reducible rfl | (rw [if_neg (by omega)])))
    (try simp only [Act.put, List.getElem_toArray, List.getElem_cons_zero, List.getElem_cons_succ, List.setIfInBounds_toArray, List.set_cons_zero, List.set_cons_succ])
    refine wpAnyH_take (i := 2) (oi := _) (v := ?_) rfl (by kernel_rfl) (by kernel_rfl) (by kernel_rfl) (fun _ _ _ h => h) (Or.inl ⟨by rfl, ?_⟩) (by assumption) ?_
    rotate_left 1
    · (intro w hSw; (try dsimp only at hSw); (go_simp <;> first | with_reducible rfl | (rw [if_neg (by omega)])))
    (try simp only [Act.put, List.getElem_toArray, List.getElem_cons_zero, List.getElem_cons_succ, List.setIfInBounds_toArray, List.set_cons_zero, List.set_cons_succ])
    refine wpAnyH_take (i := 3) (oi := _) (v := ?_) rfl (by kernel_rfl) (by kernel_rfl) (by kernel_rfl) (fun _ _ _ h => h) (Or.inl ⟨by rfl, ?_⟩) (by assumption) ?_
    rotate_left 1
    · (intro w hSw; (try dsimp only at hSw); (go_simp <;> first | with_reducible rfl | (rw [if_neg (by omega)])))
    (try simp only [Act.put, List.getElem_toArray, List.getElem_cons_zero, List.getElem_cons_succ, List.setIfInBounds_toArray, List.set_cons_zero, List.set_cons_succ])
    refine wpAnyH_take (i := 4) (oi := _) (v := ?_) rfl (by kernel_rfl) (by kernel_rfl) (by kernel_rfl) (fun _ _ _ h => h) (Or.inl ⟨by rfl, ?_⟩) (by assumption) ?_
    rotate_left 1
    · (intro w hSw; (try dsimp only at hSw); (go_simp <;> first | with_reducible rfl | (rw [if_neg (by omega)])))
    (try simp only [Act.put, List.getElem_toArray, List.getElem_cons_zero, List.getElem_cons_succ, List.setIfInBounds_toArray, List.set_cons_zero, List.set_cons_succ])
    refine wpAnyH_take (i := 5) (oi := _) (v := ?_) rfl (by kernel_rfl) (by kernel_rfl) (by kernel_rfl) (fun _ _ _ h => h) (Or.inl ⟨by rfl, ?_⟩) (by assumption) ?_
    rotate_left 1
    · (intro w hSw; (try dsimp only at hSw); (go_simp <;> first | with_reducible rfl | (rw [if_neg (by omega)])))
    (try simp only [Act.put, List.getElem_toArray, List.getElem_cons_zero, List.getElem_cons_succ, List.setIfInBounds_toArray, List.set_cons_zero, List.set_cons_succ])
    refine wpAnyH_take (i := 6) (oi := _) (v := ?_) rfl (by kernel_rfl) (by kernel_rfl) (by kernel_rfl) (fun _ _ _ h => h) (Or.inl ⟨by rfl, ?_⟩) (by assumption) ?_
    rotate_left 1
    · (intro w hSw; (try dsimp only at hSw); (go_simp <;> first | with_reducible rfl | (rw [if_neg (by omega)])))
    (try simp only [Act.put, List.getElem_toArray, List.getElem_cons_zero, List.getElem_cons_succ, List.setIfInBounds_toArray, List.set_cons_zero, List.set_cons_succ])
    refine wpAnyH_take (i := 7) (oi := _) (v := ?_) rfl (by kernel_rfl) (by kernel_rfl) (by kernel_rfl) (fun _ _ _ h => h) (Or.inl ⟨by rfl, ?_⟩) (by assumption) ?_
    rotate_left 1
    · (intro w hSw; (try dsimp only at hSw); (go_simp <;> first | with_reducible rfl | (rw [if_neg (by omega)])))
    (try simp only [Act.put, List.getElem_toArray, List.getElem_cons_zero, List.getElem_cons_succ, List.setIfInBounds_toArray, List.set_cons_zero, List.set_cons_succ])
    refine wpAnyH_take (i := 8) (oi := _) (v := ?_) rfl (by kernel_rfl) (by kernel_rfl) (by kernel_rfl) (fun _ _ _ h => h) (Or.inl ⟨by rfl, ?_⟩) (by assumption) ?_
    rotate_left 1
    · (intro w hSw; (try dsimp only at hSw); (go_simp <;> first | with_reducible rfl | (rw [if_neg (by omega)])))
    (try simp only [Act.put, List.getElem_toArray, List.getElem_cons_zero, List.getElem_cons_succ, List.setIfInBounds_toArray, List.set_cons_zero, List.set_cons_succ])
    refine wpAnyH_take (i := 9) (oi := _) (v := ?_) rfl (by kernel_rfl) (by kernel_rfl) (by kernel_rfl) (fun _ _ _ h => h) (Or.inl ⟨by rfl, ?_⟩) (by assumption) ?_
    rotate_left 1
    · (intro w hSw; (try dsimp only at hSw); (go_simp <;> first | with_reducible rfl | (rw [if_neg (by omega)])))
    (try simp only [Act.put, List.getElem_toArray, List.getElem_cons_zero, List.getElem_cons_succ, List.setIfInBounds_toArray, List.set_cons_zero, List.set_cons_succ])
    refine wpAnyH_ready (rs := [10]) (by kernel_rfl) (by simp) ?_
    refine AllReadyH.cons (o := _) rfl (fun K hK => ?_) ?_
    · go_simp
      refine (HIT.out _ (by exact B2.out.drew)).mono ?_
      rintro en w4 ⟨rfl, b4⟩
      have d1 : w4.cell? ⟨w1.heap.size, 1, none⟩ = some (.string ⟨l.toArray⟩) := (b4.cell (p := ⟨w1.heap.size, 1, none⟩) HLT.out).trans c1
      have B4 := Lib.hid (bthen (bdrewN B2.out _) b4)
      clear b4
      go_simp
      refine hK.out _ _ ?_ (fun hHeld => ?_)
      · exact d1
      clear hK K
      (try simp only [Act.put, List.getElem_toArray, List.getElem_cons_zero, List.getElem_cons_succ, List.setIfInBounds_toArray, List.set_cons_zero, List.set_cons_succ])
      refine wpAnyH_take (i := 11) (oi := _) (v := ?_) rfl (by kernel_rfl) (by kernel_rfl) (by kernel_rfl) (fun _ _ _ h => h) (Or.inl ⟨by rfl, ?_⟩) (by assumption) ?_
      rotate_left 1
      · (intro w hSw; (try dsimp only at hSw); (go_simp <;> first | with_reducible rfl | (rw [if_neg (by omega)])))
      (try simp only [Act.put, List.getElem_toArray, List.getElem_cons_zero, List.getElem_cons_succ, List.setIfInBounds_toArray, List.set_cons_zero, List.set_cons_succ])
      refine wpAnyH_take (i := 12) (oi := _) (v := ?_) rfl (by kernel_rfl) (by kernel_rfl) (by kernel_rfl) (fun _ _ _ h => h) (Or.inl ⟨by rfl, ?_⟩) (by assumption) ?_
      rotate_left 1
      · (intro w hSw; (try dsimp only at hSw); (go_simp <;> first | with_reducible rfl | (rw [if_neg (by omega)])))
      (try simp only [Act.put, List.getElem_toArray, List.getElem_cons_zero, List.getElem_cons_succ, List.setIfInBounds_toArray, List.set_cons_zero, List.set_cons_succ])
      refine wpAnyH_take (i := 13) (oi := _) (v := ?_) rfl (by kernel_rfl) (by kernel_rfl) (by kernel_rfl) (fun _ _ _ h => h) (Or.inl ⟨by rfl, ?_⟩) (by assumption) ?_
      rotate_left 1
      · (intro w hSw; (try dsimp only at hSw); (go_simp <;> first | with_reducible rfl | (rw [if_neg (by omega)])))
      (try simp only [Act.put, List.getElem_toArray, List.getElem_cons_zero, List.getElem_cons_succ, List.setIfInBounds_toArray, List.set_cons_zero, List.set_cons_succ])
      refine wpAnyH_done (by kernel_rfl) ?_ _
      go_wp2_with fail
      go_ret2
      exact tx_end _ _ _ _ (by rw [HW.out]; simp [HPQ.out.1, HPQ.out.2]) B4.out
    exact AllReadyH.nil
  · go_enter Tryz.func9, Tryz.ntmps9
    go_wp2_with fail
    refine (HD.out _).mono ?_
    rintro en w1 ⟨rfl, b1⟩
    have HK := Lib.hid (Blk.new w1 32 #[.bool true, .string ⟨l.toArray⟩, .int .i64 e])
    have B1 := Lib.hid (b1.alloc b1.size (.cells #[.bool true, .string ⟨l.toArray⟩, .int .i64 e] 32))
    clear b1
    go_wp2_with fail
    go_quiet (fail)
    have c0 : ((w1.alloc (.cells #[.bool true, .string ⟨l.toArray⟩, .int .i64 e] 32)).drewN nq).cell? ⟨w1.heap.size, 0, none⟩ = some (.bool true) := HK.out.cell 0
    have c1 : ((w1.alloc (.cells #[.bool true, .string ⟨l.toArray⟩, .int .i64 e] 32)).drewN nq).cell? ⟨w1.heap.size, 1, none⟩ = some (.string ⟨l.toArray⟩) := HK.out.cell 1
    have c2 : ((w1.alloc (.cells #[.bool true, .string ⟨l.toArray⟩, .int .i64 e] 32)).drewN nq).cell? ⟨w1.heap.size, 2, none⟩ = some (.int .i64 e) := HK.out.cell 2
    have B2 : Hid (Below w.heap.size w ((w1.alloc (.cells #[.bool true, .string ⟨l.toArray⟩, .int .i64 e] 32)).drewN nq)) := Lib.hid (bdrewN B1.out nq)
    generalize (w1.alloc (.cells #[.bool true, .string ⟨l.toArray⟩, .int .i64 e] 32)).drewN nq = W3 at *
    have HLT : Hid (w1.heap.size < W3.heap.size) := Lib.hid (World.block_lt_of_cell? _ _ c1)
    clear HK B1
    go_wp2_with fail
    refine wp_region_held_drew (S := (fun w' => w'.cell? ⟨w1.heap.size, 1, none⟩ = some (.string ⟨l.toArray⟩))) (by kernel_rfl) ?_ (fun hHeld => ?_)
    · exact c1
    refine wpAnyH_take (i := 0) (oi := _) (v := ?_) rfl (by kernel_rfl) (by kernel_rfl) (by kernel_rfl) (fun _ _ _ h => h) (Or.inl ⟨by rfl, ?_⟩) (by assumption) ?_
    rotate_left 1
    · (intro w hSw; (try dsimp only at hSw); (go_simp <;> first | with_reducible rfl | (rw [if_neg (by omega)])))
    (try simp only [Act.put, List.getElem_toArray, List.getElem_cons_zero, List.getElem_cons_succ, List.setIfInBounds_toArray, List.set_cons_zero, List.set_cons_succ])
    refine wpAnyH_take (i := 1) (oi := _) (v := ?_) rfl (by kernel_rfl) (by kernel_rfl) (by kernel_rfl) (fun _ _ _ h => h) (Or.inl ⟨by rfl, ?_⟩) (by assumption) ?_
    rotate_left 1
    · (intro w hSw; (try dsimp only at hSw); (go_simp <;> first | with_reducible rfl | (rw [if_neg (by omega)])))
    (try simp only [Act.put, List.getElem_toArray, List.getElem_cons_zero, List.getElem_cons_succ, List.setIfInBounds_toArray, List.set_cons_zero, List.set_cons_succ])
    refine wpAnyH_take (i := 2) (oi := _) (v := ?_) rfl (by kernel_rfl) (by kernel_rfl) (by kernel_rfl) (fun _ _ _ h => h) (Or.inl ⟨by rfl, ?_⟩) (by assumption) ?_
    rotate_left 1
    · (intro w hSw; (try dsimp only at hSw); (go_simp <;> first | with_reducible rfl | (rw [if_neg (by omega)])))
    (try simp only [Act.put, List.getElem_toArray, List.getElem_cons_zero, List.getElem_cons_succ, List.setIfInBounds_toArray, List.set_cons_zero, List.set_cons_succ])
    refine wpAnyH_take (i := 3) (oi := _) (v := ?_) rfl (by kernel_rfl) (by kernel_rfl) (by kernel_rfl) (fun _ _ _ h => h) (Or.inl ⟨by rfl, ?_⟩) (by assumption) ?_
    rotate_left 1
    · (intro w hSw; (try dsimp only at hSw); (go_simp <;> first | with_reducible rfl | (rw [if_neg (by omega)])))
    (try simp only [Act.put, List.getElem_toArray, List.getElem_cons_zero, List.getElem_cons_succ, List.setIfInBounds_toArray, List.set_cons_zero, List.set_cons_succ])
    refine wpAnyH_take (i := 4) (oi := _) (v := ?_) rfl (by kernel_rfl) (by kernel_rfl) (by kernel_rfl) (fun _ _ _ h => h) (Or.inl ⟨by rfl, ?_⟩) (by assumption) ?_
    rotate_left 1
    · (intro w hSw; (try dsimp only at hSw); (go_simp <;> first | with_reducible rfl | (rw [if_neg (by omega)])))
    (try simp only [Act.put, List.getElem_toArray, List.getElem_cons_zero, List.getElem_cons_succ, List.setIfInBounds_toArray, List.set_cons_zero, List.set_cons_succ])
    refine wpAnyH_take (i := 5) (oi := _) (v := ?_) rfl (by kernel_rfl) (by kernel_rfl) (by kernel_rfl) (fun _ _ _ h => h) (Or.inl ⟨by rfl, ?_⟩) (by assumption) ?_
    rotate_left 1
    · (intro w hSw; (try dsimp only at hSw); (go_simp <;> first | with_reducible rfl | (rw [if_neg (by omega)])))
    (try simp only [Act.put, List.getElem_toArray, List.getElem_cons_zero, List.getElem_cons_succ, List.setIfInBounds_toArray, List.set_cons_zero, List.set_cons_succ])
    refine wpAnyH_take (i := 6) (oi := _) (v := ?_) rfl (by kernel_rfl) (by kernel_rfl) (by kernel_rfl) (fun _ _ _ h => h) (Or.inl ⟨by rfl, ?_⟩) (by assumption) ?_
    rotate_left 1
    · (intro w hSw; (try dsimp only at hSw); (go_simp <;> first | with_reducible rfl | (rw [if_neg (by omega)])))
    (try simp only [Act.put, List.getElem_toArray, List.getElem_cons_zero, List.getElem_cons_succ, List.setIfInBounds_toArray, List.set_cons_zero, List.set_cons_succ])
    refine wpAnyH_take (i := 7) (oi := _) (v := ?_) rfl (by kernel_rfl) (by kernel_rfl) (by kernel_rfl) (fun _ _ _ h => h) (Or.inl ⟨by rfl, ?_⟩) (by assumption) ?_
    rotate_left 1
    · (intro w hSw; (try dsimp only at hSw); (go_simp <;> first | with_reducible rfl | (rw [if_neg (by omega)])))
    (try simp only [Act.put, List.getElem_toArray, List.getElem_cons_zero, List.getElem_cons_succ, List.setIfInBounds_toArray, List.set_cons_zero, List.set_cons_succ])
    refine wpAnyH_take (i := 8) (oi := _) (v := ?_) rfl (by kernel_rfl) (by kernel_rfl) (by kernel_rfl) (fun _ _ _ h => h) (Or.inl ⟨by rfl, ?_⟩) (by assumption) ?_
    rotate_left 1
    · (intro w hSw; (try dsimp only at hSw); (go_simp <;> first | with_reducible rfl | (rw [if_neg (by omega)])))
    (try simp only [Act.put, List.getElem_toArray, List.getElem_cons_zero, List.getElem_cons_succ, List.setIfInBounds_toArray, List.set_cons_zero, List.set_cons_succ])
    refine wpAnyH_take (i := 9) (oi := _) (v := ?_) rfl (by kernel_rfl) (by kernel_rfl) (by kernel_rfl) (fun _ _ _ h => h) (Or.inl ⟨by rfl, ?_⟩) (by assumption) ?_
    rotate_left 1
    · (intro w hSw; (try dsimp only at hSw); (go_simp <;> first | with_reducible rfl | (rw [if_neg (by omega)])))
    (try simp only [Act.put, List.getElem_toArray, List.getElem_cons_zero, List.getElem_cons_succ, List.setIfInBounds_toArray, List.set_cons_zero, List.set_cons_succ])
    refine wpAnyH_ready (rs := [10]) (by kernel_rfl) (by simp) ?_
    refine AllReadyH.cons (o := _) rfl (fun K hK => ?_) ?_
    · go_simp
      refine (HIT.out _ (by exact B2.out.drew)).mono ?_
      rintro en w4 ⟨rfl, b4⟩
      have d1 : w4.cell? ⟨w1.heap.size, 1, none⟩ = some (.string ⟨l.toArray⟩) := (b4.cell (p := ⟨w1.heap.size, 1, none⟩) HLT.out).trans c1
      have B4 := Lib.hid (bthen (bdrewN B2.out _) b4)
      clear b4
      go_simp
      refine hK.out _ _ ?_ (fun hHeld => ?_)
      · exact d1
      clear hK K
      (try simp only [Act.put, List.getElem_toArray, List.getElem_cons_zero, List.getElem_cons_succ, List.setIfInBounds_toArray, List.set_cons_zero, List.set_cons_succ])
      refine wpAnyH_take (i := 11) (oi := _) (v := ?_) rfl (by kernel_rfl) (by kernel_rfl) (by kernel_rfl) (fun _ _ _ h => h) (Or.inl ⟨by rfl, ?_⟩) (by assumption) ?_
      rotate_left 1
      · (intro w hSw; (try dsimp only at hSw); (go_simp <;> first | with_reducible rfl | (rw [if_neg (by omega)])))
      (try simp only [Act.put, List.getElem_toArray, List.getElem_cons_zero, List.getElem_cons_succ, List.setIfInBounds_toArray, List.set_cons_zero, List.set_cons_succ])
      refine wpAnyH_take (i := 12) (oi := _) (v := ?_) rfl (by kernel_rfl) (by kernel_rfl) (by kernel_rfl) (fun _ _ _ h => h) (Or.inl ⟨by rfl, ?_⟩) (by assumption) ?_
      rotate_left 1
      · (intro w hSw; (try dsimp only at hSw); (go_simp <;> first | with_reducible rfl | (rw [if_neg (by omega)])))
      (try simp only [Act.put, List.getElem_toArray, List.getElem_cons_zero, List.getElem_cons_succ, List.setIfInBounds_toArray, List.set_cons_zero, List.set_cons_succ])
      refine wpAnyH_take (i := 13) (oi := _) (v := ?_) rfl (by kernel_rfl) (by kernel_rfl) (by kernel_rfl) (fun _ _ _ h => h) (Or.inl ⟨by rfl, ?_⟩) (by assumption) ?_
      rotate_left 1
      · (intro w hSw; (try dsimp only at hSw); (go_simp <;> first | with_reducible rfl | (rw [if_neg (by omega)])))
      (try simp only [Act.put, List.getElem_toArray, List.getElem_cons_zero, List.getElem_cons_succ, List.setIfInBounds_toArray, List.set_cons_zero, List.set_cons_succ])
      refine wpAnyH_done (by kernel_rfl) ?_ _
      go_wp2_with fail
      go_ret2
      exact tx_end _ _ _ _ (by rw [HW.out]; simp [HPQ.out.1, HPQ.out.2]) B4.out
    exact AllReadyH.nil
theorem text_any (x : Nat) (neg : Bool) (l : List UInt8) (e : Int) (w : World) (h1 : ∀ W, Calls Tryz.prog 13 #[.float .f64 x] W (DxPost W (.agg #[.bool neg, .string ⟨l.toArray⟩, .int .i64 e]) 0)) (hl : l.length ≤ 3000) (he1 : -9000 ≤ e) (he2 : e ≤ 9000) (htab : Tens w) :
    Calls Tryz.prog 9 #[.float .f64 x] w (TxPost w (writeF neg l e)) := by
  by_cases hn : l.length = 0
  · exact text_1 x neg l e w h1 hl he1 he2 hn
  by_cases a : 0 ≤ e
  · by_cases b : e + l.length ≤ 21
    · exact text_2 x neg l e w h1 hl he1 he2 (by omega) a b
    · by_cases c : l.length = 1
      · exact text_5a1 x neg l e w h1 hl he1 he2 htab c a (by omega)
      · exact text_5am x neg l e w h1 hl he1 he2 htab (by omega) a (by omega)
  · by_cases b : e + l.length ≤ 21
    · by_cases c : 1 ≤ e + l.length
      · exact text_3 x neg l e w h1 hl he1 he2 (by omega) (by omega) c b
      · by_cases d : -5 ≤ e + l.length
        · exact text_4 x neg l e w h1 hl he1 he2 (by omega) d (by omega)
        · by_cases f : l.length = 1
          · exact text_5c1 x neg l e w h1 hl he1 he2 htab f (by omega)
          · exact text_5cm x neg l e w h1 hl he1 he2 htab (by omega) (by omega)
    · by_cases c : l.length = 1
      · exact absurd c (by omega)
      · exact text_5bm x neg l e w h1 hl he1 he2 htab (by omega) (by omega) (by omega)
end Go.Proofs.YtabmalnandbocaaGreatDoor.Num
