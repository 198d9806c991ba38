/- Chapters 13 and 14 (floats, shortest): contracts of the reference Text; awake; ShortestTexts. No conditions beside those that each contract names. -/
import Derived.Test.YtabmalnandbocaaGreatDoorMW
import Derived.Test.YtabmalnandbocaaGreatDoorRows
import Derived.Lib.LaidTab
import Derived.Test.YtabmalnandbocaaGreatDoorMU
import Derived.Test.YtabmalnandbocaaGreatDoorMV
namespace Go.Proofs.YtabmalnandbocaaGreatDoor.Num
set_option exponentiation.threshold 3000
set_option linter.unusedVariables false
set_option linter.unusedSimpArgs false
set_option exponentiation.threshold 3000
open Go.RowKit Go.Proofs.YtabmalnandbocaaGreatDoor.Mem Go.Proofs.YtabmalnandbocaaGreatDoor.Own Go.Proofs.YtabmalnandbocaaGreatDoor.Big Go.Proofs.YtabmalnandbocaaGreatDoor.Str
theorem zeros_z (z : Int) (q : Nat) (w : World) (hz : z = (q : Nat)) (hq : q ≤ 3000) : Calls Tryz.prog 22 #[.int .i64 z] w (RpPost w q) := by
  subst hz
  refine (zeros_w q w hq).mono fun en w' hh => ?_
  obtain ⟨rfl, rfl⟩ := hh
  exact ⟨rfl, Below.refl _ _⟩
set_option maxHeartbeats 8000000 in
set_option maxRecDepth 100000 in
theorem rtext_1 (x : Nat) (neg : Bool) (l : List UInt8) (e : Int) (w : World) (h1 : ∀ W, Calls Tryz.prog 21 #[.float .f64 x] W (DxPost W (.agg #[.bool neg, .string ⟨l.toArray⟩, .int .i64 e]) 0)) (hl : l.length ≤ 3000) (he1 : -9000 ≤ e) (he2 : e ≤ 9000) (hn : l.length = 0) :
    Calls Tryz.prog 10 #[.float .f64 x] w (TxPost w (writeF neg l e)) := by
  have HD := Lib.hid h1
  clear h1
  have hlz : (⟨l.toArray⟩ : ByteArray).size = l.length := by simp [ByteArray.size]
  have HW := Lib.hid (show ∀ b, writeF b l e = (if b then [45] else []) ++ [48] from fun b => by show _ ++ bodyF l e = _; congr 1; unfold bodyF; rw [if_pos hn])
  have t1 : ((l.length : Int) == 0) = true := by rw [beq_iff_eq]; omega
  cases neg
  · go_enter Tryz.func10, Tryz.ntmps10
    go_wp2_with fail
    refine (HD.out _).mono ?_
    rintro en w1 ⟨rfl, b1⟩
    have HK := Lib.hid (Blk.new w1 32 #[.bool false, .string ⟨l.toArray⟩, .int .i64 e])
    have B1 := Lib.hid (b1.alloc b1.size (.cells #[.bool false, .string ⟨l.toArray⟩, .int .i64 e] 32))
    clear b1
    go_wp2_with fail
    go_ret2
    exact tx_end _ _ _ _ (by rw [HW.out]; simp) B1.out
  · go_enter Tryz.func10, Tryz.ntmps10
    go_wp2_with fail
    refine (HD.out _).mono ?_
    rintro en w1 ⟨rfl, b1⟩
    have HK := Lib.hid (Blk.new w1 32 #[.bool true, .string ⟨l.toArray⟩, .int .i64 e])
    have B1 := Lib.hid (b1.alloc b1.size (.cells #[.bool true, .string ⟨l.toArray⟩, .int .i64 e] 32))
    clear b1
    go_wp2_with fail
    go_ret2
    exact tx_end _ _ _ _ (by rw [HW.out]; simp) B1.out
set_option maxHeartbeats 8000000 in
set_option maxRecDepth 100000 in
theorem rtext_2 (x : Nat) (neg : Bool) (l : List UInt8) (e : Int) (w : World) (h1 : ∀ W, Calls Tryz.prog 21 #[.float .f64 x] W (DxPost W (.agg #[.bool neg, .string ⟨l.toArray⟩, .int .i64 e]) 0)) (hl : l.length ≤ 3000) (he1 : -9000 ≤ e) (he2 : e ≤ 9000) (hn : 1 ≤ l.length) (h0 : 0 ≤ e) (h21 : e + l.length ≤ 21) :
    Calls Tryz.prog 10 #[.float .f64 x] w (TxPost w (writeF neg l e)) := by
  have HD := Lib.hid h1
  clear h1
  have hlz : (⟨l.toArray⟩ : ByteArray).size = l.length := by simp [ByteArray.size]
  obtain ⟨q, rfl⟩ := Int.eq_ofNat_of_zero_le h0
  have HW := Lib.hid (show ∀ b, writeF b l (q : Int) = (if b then [45] else []) ++ (l ++ List.replicate q 48) from fun b => by show _ ++ bodyF l (q : Int) = _; congr 1; unfold bodyF; rw [if_neg (by omega), if_pos ⟨by omega, h21⟩]; rfl)
  have t1 : ((l.length : Int) == 0) = false := by rw [beq_eq_false_iff_ne]; omega
  have hq : q ≤ 21 := by omega
  have hwq : IntKind.i64.wrap (q : Int) = (q : Int) := IntWalk.i64_in _ (by omega)
  cases neg
  · go_enter Tryz.func10, Tryz.ntmps10
    go_wp2_with fail
    refine (HD.out _).mono ?_
    rintro en w1 ⟨rfl, b1⟩
    have HK := Lib.hid (Blk.new w1 32 #[.bool false, .string ⟨l.toArray⟩, .int .i64 (q : Int)])
    have B1 := Lib.hid (b1.alloc b1.size (.cells #[.bool false, .string ⟨l.toArray⟩, .int .i64 (q : Int)] 32))
    clear b1
    go_wp2_with fail
    have c0 : (w1.alloc (.cells #[.bool false, .string ⟨l.toArray⟩, .int .i64 (q : Int)] 32)).cell? ⟨w1.heap.size, 0, none⟩ = some (.bool false) := HK.out.cell 0
    have c1 : (w1.alloc (.cells #[.bool false, .string ⟨l.toArray⟩, .int .i64 (q : Int)] 32)).cell? ⟨w1.heap.size, 1, none⟩ = some (.string ⟨l.toArray⟩) := HK.out.cell 1
    have c2 : (w1.alloc (.cells #[.bool false, .string ⟨l.toArray⟩, .int .i64 (q : Int)] 32)).cell? ⟨w1.heap.size, 2, none⟩ = some (.int .i64 (q : Int)) := HK.out.cell 2
    have B2 : Hid (Below w.heap.size w (w1.alloc (.cells #[.bool false, .string ⟨l.toArray⟩, .int .i64 (q : Int)] 32))) := B1
    generalize w1.alloc (.cells #[.bool false, .string ⟨l.toArray⟩, .int .i64 (q : Int)] 32) = W3 at *
    have HLT : Hid (w1.heap.size < W3.heap.size) := Lib.hid (World.block_lt_of_cell? _ _ c1)
    clear HK B1
    refine wp_region_held_drew (S := (fun w' => w'.cell? ⟨w1.heap.size, 1, none⟩ = some (.string ⟨l.toArray⟩))) (by kernel_rfl) ?_ (fun hHeld => ?_)
    · exact c1
    refine wpAnyH_take (i := 0) (oi := _) (v := ?_) rfl (by kernel_rfl) (by kernel_rfl) (by kernel_rfl) (fun _ _ _ h => h) (Or.inl ⟨by rfl, ?_⟩) (by assumption) ?_
    rotate_left 1
    · (intro w hSw; (try dsimp only at hSw); (go_simp <;> first | with_reducible rfl | (rw [if_neg (by omega)])))
    (try simp only [Act.put, List.getElem_toArray, List.getElem_cons_zero, List.getElem_cons_succ, List.setIfInBounds_toArray, List.set_cons_zero, List.set_cons_succ])
    refine wpAnyH_take (i := 1) (oi := _) (v := ?_) rfl (by kernel_rfl) (by kernel_rfl) (by kernel_rfl) (fun _ _ _ h => h) (Or.inl ⟨by rfl, ?_⟩) (by assumption) ?_
    rotate_left 1
    · (intro w hSw; (try dsimp only at hSw); (go_simp <;> first | with_reducible rfl | (rw [if_neg (by omega)])))
    (try simp only [Act.put, List.getElem_toArray, List.getElem_cons_zero, List.getElem_cons_succ, List.setIfInBounds_toArray, List.set_cons_zero, List.set_cons_succ])
    refine wpAnyH_take (i := 2) (oi := _) (v := ?_) rfl (by kernel_rfl) (by kernel_rfl) (by kernel_rfl) (fun _ _ _ h => h) (Or.inl ⟨by rfl, ?_⟩) (by assumption) ?_
    rotate_left 1
    · (intro w hSw; (try dsimp only at hSw); (go_simp <;> first | with_reducible rfl | (rw [if_neg (by omega)])))
    (try simp only [Act.put, List.getElem_toArray, List.getElem_cons_zero, List.getElem_cons_succ, List.setIfInBounds_toArray, List.set_cons_zero, List.set_cons_succ])
    refine wpAnyH_take (i := 3) (oi := _) (v := ?_) rfl (by kernel_rfl) (by kernel_rfl) (by kernel_rfl) (fun _ _ _ h => h) (Or.inl ⟨by rfl, ?_⟩) (by assumption) ?_
    rotate_left 1
    · (intro w hSw; (try dsimp only at hSw); (go_simp <;> first | with_reducible rfl | (rw [if_neg (by omega)])))
    (try simp only [Act.put, List.getElem_toArray, List.getElem_cons_zero, List.getElem_cons_succ, List.setIfInBounds_toArray, List.set_cons_zero, List.set_cons_succ])
    refine wpAnyH_take (i := 4) (oi := _) (v := ?_) rfl (by kernel_rfl) (by kernel_rfl) (by kernel_rfl) (fun _ _ _ h => h) (Or.inl ⟨by rfl, ?_⟩) (by assumption) ?_
    rotate_left 1
    · (intro w hSw; (try dsimp only at hSw); (go_simp <;> first | with_reducible rfl | (rw [if_neg (by omega)])))
    (try simp only [Act.put, List.getElem_toArray, List.getElem_cons_zero, List.getElem_cons_succ, List.setIfInBounds_toArray, List.set_cons_zero, List.set_cons_succ])
    refine wpAnyH_take (i := 5) (oi := _) (v := ?_) rfl (by kernel_rfl) (by kernel_rfl) (by kernel_rfl) (fun _ _ _ h => h) (Or.inl ⟨by rfl, ?_⟩) (by assumption) ?_
    rotate_left 1
    · (intro w hSw; (try dsimp only at hSw); (go_simp <;> first | with_reducible rfl | (rw [if_neg (by omega)])))
    (try simp only [Act.put, List.getElem_toArray, List.getElem_cons_zero, List.getElem_cons_succ, List.setIfInBounds_toArray, List.set_cons_zero, List.set_cons_succ])
    refine wpAnyH_take (i := 6) (oi := _) (v := ?_) rfl (by kernel_rfl) (by kernel_rfl) (by kernel_rfl) (fun _ _ _ h => h) (Or.inl ⟨by rfl, ?_⟩) (by assumption) ?_
    rotate_left 1
    · (intro w hSw; (try dsimp only at hSw); (go_simp <;> first | with_reducible rfl | (rw [if_neg (by omega)])))
    (try simp only [Act.put, List.getElem_toArray, List.getElem_cons_zero, List.getElem_cons_succ, List.setIfInBounds_toArray, List.set_cons_zero, List.set_cons_succ])
    refine wpAnyH_ready (rs := [7]) (by kernel_rfl) (by simp) ?_
    refine AllReadyH.cons (o := _) rfl (fun K hK => ?_) ?_
    · go_simp
      refine (zeros_z _ q _ (by first | omega | rw [hwq]) (by omega)).mono ?_
      rintro en w4 ⟨rfl, b4⟩
      have d1 : w4.cell? ⟨w1.heap.size, 1, none⟩ = some (.string ⟨l.toArray⟩) := (b4.cell (p := ⟨w1.heap.size, 1, none⟩) HLT.out).trans c1
      have B4 := Lib.hid (bthen (bdrewN B2.out _) b4)
      clear b4
      go_simp
      refine hK.out _ _ ?_ (fun hHeld => ?_)
      · exact d1
      clear hK K
      (try simp only [Act.put, List.getElem_toArray, List.getElem_cons_zero, List.getElem_cons_succ, List.setIfInBounds_toArray, List.set_cons_zero, List.set_cons_succ])
      refine wpAnyH_take (i := 8) (oi := _) (v := ?_) rfl (by kernel_rfl) (by kernel_rfl) (by kernel_rfl) (fun _ _ _ h => h) (Or.inl ⟨by rfl, ?_⟩) (by assumption) ?_
      rotate_left 1
      · (intro w hSw; (try dsimp only at hSw); (go_simp <;> first | with_reducible rfl | (rw [if_neg (by omega)])))
      (try simp only [Act.put, List.getElem_toArray, List.getElem_cons_zero, List.getElem_cons_succ, List.setIfInBounds_toArray, List.set_cons_zero, List.set_cons_succ])
      refine wpAnyH_take (i := 9) (oi := _) (v := ?_) rfl (by kernel_rfl) (by kernel_rfl) (by kernel_rfl) (fun _ _ _ h => h) (Or.inl ⟨by rfl, ?_⟩) (by assumption) ?_
      rotate_left 1
      · (intro w hSw; (try dsimp only at hSw); (go_simp <;> first | with_reducible rfl | (rw [if_neg (by omega)])))
      (try simp only [Act.put, List.getElem_toArray, List.getElem_cons_zero, List.getElem_cons_succ, List.setIfInBounds_toArray, List.set_cons_zero, List.set_cons_succ])
      refine wpAnyH_take (i := 10) (oi := _) (v := ?_) rfl (by kernel_rfl) (by kernel_rfl) (by kernel_rfl) (fun _ _ _ h => h) (Or.inl ⟨by rfl, ?_⟩) (by assumption) ?_
      rotate_left 1
      · (intro w hSw; (try dsimp only at hSw); (go_simp <;> first | with_reducible rfl | (rw [if_neg (by omega)])))
      (try simp only [Act.put, List.getElem_toArray, List.getElem_cons_zero, List.getElem_cons_succ, List.setIfInBounds_toArray, List.set_cons_zero, List.set_cons_succ])
      refine wpAnyH_done (by kernel_rfl) ?_ _
      go_wp2_with fail
      go_ret2
      exact tx_end _ _ _ _ (by rw [HW.out]; simp) B4.out
    exact AllReadyH.nil
  · go_enter Tryz.func10, Tryz.ntmps10
    go_wp2_with fail
    refine (HD.out _).mono ?_
    rintro en w1 ⟨rfl, b1⟩
    have HK := Lib.hid (Blk.new w1 32 #[.bool true, .string ⟨l.toArray⟩, .int .i64 (q : Int)])
    have B1 := Lib.hid (b1.alloc b1.size (.cells #[.bool true, .string ⟨l.toArray⟩, .int .i64 (q : Int)] 32))
    clear b1
    go_wp2_with fail
    have c0 : (w1.alloc (.cells #[.bool true, .string ⟨l.toArray⟩, .int .i64 (q : Int)] 32)).cell? ⟨w1.heap.size, 0, none⟩ = some (.bool true) := HK.out.cell 0
    have c1 : (w1.alloc (.cells #[.bool true, .string ⟨l.toArray⟩, .int .i64 (q : Int)] 32)).cell? ⟨w1.heap.size, 1, none⟩ = some (.string ⟨l.toArray⟩) := HK.out.cell 1
    have c2 : (w1.alloc (.cells #[.bool true, .string ⟨l.toArray⟩, .int .i64 (q : Int)] 32)).cell? ⟨w1.heap.size, 2, none⟩ = some (.int .i64 (q : Int)) := HK.out.cell 2
    have B2 : Hid (Below w.heap.size w (w1.alloc (.cells #[.bool true, .string ⟨l.toArray⟩, .int .i64 (q : Int)] 32))) := B1
    generalize w1.alloc (.cells #[.bool true, .string ⟨l.toArray⟩, .int .i64 (q : Int)] 32) = W3 at *
    have HLT : Hid (w1.heap.size < W3.heap.size) := Lib.hid (World.block_lt_of_cell? _ _ c1)
    clear HK B1
    refine wp_region_held_drew (S := (fun w' => w'.cell? ⟨w1.heap.size, 1, none⟩ = some (.string ⟨l.toArray⟩))) (by kernel_rfl) ?_ (fun hHeld => ?_)
    · exact c1
    refine wpAnyH_take (i := 0) (oi := _) (v := ?_) rfl (by kernel_rfl) (by kernel_rfl) (by kernel_rfl) (fun _ _ _ h => h) (Or.inl ⟨by rfl, ?_⟩) (by assumption) ?_
    rotate_left 1
    · (intro w hSw; (try dsimp only at hSw); (go_simp <;> first | with_reducible rfl | (rw [if_neg (by omega)])))
    (try simp only [Act.put, List.getElem_toArray, List.getElem_cons_zero, List.getElem_cons_succ, List.setIfInBounds_toArray, List.set_cons_zero, List.set_cons_succ])
    refine wpAnyH_take (i := 1) (oi := _) (v := ?_) rfl (by kernel_rfl) (by kernel_rfl) (by kernel_rfl) (fun _ _ _ h => h) (Or.inl ⟨by rfl, ?_⟩) (by assumption) ?_
    rotate_left 1
    · (intro w hSw; (try dsimp only at hSw); (go_simp <;> first | with_reducible rfl | (rw [if_neg (by omega)])))
    (try simp only [Act.put, List.getElem_toArray, List.getElem_cons_zero, List.getElem_cons_succ, List.setIfInBounds_toArray, List.set_cons_zero, List.set_cons_succ])
    refine wpAnyH_take (i := 2) (oi := _) (v := ?_) rfl (by kernel_rfl) (by kernel_rfl) (by kernel_rfl) (fun _ _ _ h => h) (Or.inl ⟨by rfl, ?_⟩) (by assumption) ?_
    rotate_left 1
    · (intro w hSw; (try dsimp only at hSw); (go_simp <;> first | with_reducible rfl | (rw [if_neg (by omega)])))
    (try simp only [Act.put, List.getElem_toArray, List.getElem_cons_zero, List.getElem_cons_succ, List.setIfInBounds_toArray, List.set_cons_zero, List.set_cons_succ])
    refine wpAnyH_take (i := 3) (oi := _) (v := ?_) rfl (by kernel_rfl) (by kernel_rfl) (by kernel_rfl) (fun _ _ _ h => h) (Or.inl ⟨by rfl, ?_⟩) (by assumption) ?_
    rotate_left 1
    · (intro w hSw; (try dsimp only at hSw); (go_simp <;> first | with_reducible rfl | (rw [if_neg (by omega)])))
    (try simp only [Act.put, List.getElem_toArray, List.getElem_cons_zero, List.getElem_cons_succ, List.setIfInBounds_toArray, List.set_cons_zero, List.set_cons_succ])
    refine wpAnyH_take (i := 4) (oi := _) (v := ?_) rfl (by kernel_rfl) (by kernel_rfl) (by kernel_rfl) (fun _ _ _ h => h) (Or.inl ⟨by rfl, ?_⟩) (by assumption) ?_
    rotate_left 1
    · (intro w hSw; (try dsimp only at hSw); (go_simp <;> first | with_reducible rfl | (rw [if_neg (by omega)])))
    (try simp only [Act.put, List.getElem_toArray, List.getElem_cons_zero, List.getElem_cons_succ, List.setIfInBounds_toArray, List.set_cons_zero, List.set_cons_succ])
    refine wpAnyH_take (i := 5) (oi := _) (v := ?_) rfl (by kernel_rfl) (by kernel_rfl) (by kernel_rfl) (fun _ _ _ h => h) (Or.inl ⟨by rfl, ?_⟩) (by assumption) ?_
    rotate_left 1
    · (intro w hSw; (try dsimp only at hSw); (go_simp <;> first | with_reducible rfl | (rw [if_neg (by omega)])))
    (try simp only [Act.put, List.getElem_toArray, List.getElem_cons_zero, List.getElem_cons_succ, List.setIfInBounds_toArray, List.set_cons_zero, List.set_cons_succ])
    refine wpAnyH_take (i := 6) (oi := _) (v := ?_) rfl (by kernel_rfl) (by kernel_rfl) (by kernel_rfl) (fun _ _ _ h => h) (Or.inl ⟨by rfl, ?_⟩) (by assumption) ?_
    rotate_left 1
    · (intro w hSw; (try dsimp only at hSw); (go_simp <;> first | with_reducible rfl | (rw [if_neg (by omega)])))
    (try simp only [Act.put, List.getElem_toArray, List.getElem_cons_zero, List.getElem_cons_succ, List.setIfInBounds_toArray, List.set_cons_zero, List.set_cons_succ])
    refine wpAnyH_ready (rs := [7]) (by kernel_rfl) (by simp) ?_
    refine AllReadyH.cons (o := _) rfl (fun K hK => ?_) ?_
    · go_simp
      refine (zeros_z _ q _ (by first | omega | rw [hwq]) (by omega)).mono ?_
      rintro en w4 ⟨rfl, b4⟩
      have d1 : w4.cell? ⟨w1.heap.size, 1, none⟩ = some (.string ⟨l.toArray⟩) := (b4.cell (p := ⟨w1.heap.size, 1, none⟩) HLT.out).trans c1
      have B4 := Lib.hid (bthen (bdrewN B2.out _) b4)
      clear b4
      go_simp
      refine hK.out _ _ ?_ (fun hHeld => ?_)
      · exact d1
      clear hK K
      (try simp only [Act.put, List.getElem_toArray, List.getElem_cons_zero, List.getElem_cons_succ, List.setIfInBounds_toArray, List.set_cons_zero, List.set_cons_succ])
      refine wpAnyH_take (i := 8) (oi := _) (v := ?_) rfl (by kernel_rfl) (by kernel_rfl) (by kernel_rfl) (fun _ _ _ h => h) (Or.inl ⟨by rfl, ?_⟩) (by assumption) ?_
      rotate_left 1
      · (intro w hSw; (try dsimp only at hSw); (go_simp <;> first | with_reducible rfl | (rw [if_neg (by omega)])))
      (try simp only [Act.put, List.getElem_toArray, List.getElem_cons_zero, List.getElem_cons_succ, List.setIfInBounds_toArray, List.set_cons_zero, List.set_cons_succ])
      refine wpAnyH_take (i := 9) (oi := _) (v := ?_) rfl (by kernel_rfl) (by kernel_rfl) (by kernel_rfl) (fun _ _ _ h => h) (Or.inl ⟨by rfl, ?_⟩) (by assumption) ?_
      rotate_left 1
      · (intro w hSw; (try dsimp only at hSw); (go_simp <;> first | with_reducible rfl | (rw [if_neg (by omega)])))
      (try simp only [Act.put, List.getElem_toArray, List.getElem_cons_zero, List.getElem_cons_succ, List.setIfInBounds_toArray, List.set_cons_zero, List.set_cons_succ])
      refine wpAnyH_take (i := 10) (oi := _) (v := ?_) rfl (by kernel_rfl) (by kernel_rfl) (by kernel_rfl) (fun _ _ _ h => h) (Or.inl ⟨by rfl, ?_⟩) (by assumption) ?_
      rotate_left 1
      · (intro w hSw; (try dsimp only at hSw); (go_simp <;> first | with_reducible rfl | (rw [if_neg (by omega)])))
      (try simp only [Act.put, List.getElem_toArray, List.getElem_cons_zero, List.getElem_cons_succ, List.setIfInBounds_toArray, List.set_cons_zero, List.set_cons_succ])
      refine wpAnyH_done (by kernel_rfl) ?_ _
      go_wp2_with fail
      go_ret2
      exact tx_end _ _ _ _ (by rw [HW.out]; simp) B4.out
    exact AllReadyH.nil
set_option maxHeartbeats 8000000 in
set_option maxRecDepth 100000 in
theorem rtext_3 (x : Nat) (neg : Bool) (l : List UInt8) (e : Int) (w : World) (h1 : ∀ W, Calls Tryz.prog 21 #[.float .f64 x] W (DxPost W (.agg #[.bool neg, .string ⟨l.toArray⟩, .int .i64 e]) 0)) (hl : l.length ≤ 3000) (he1 : -9000 ≤ e) (he2 : e ≤ 9000) (hn : 1 ≤ l.length) (h0 : e < 0) (hp1 : 1 ≤ e + l.length) (h21 : e + l.length ≤ 21) :
    Calls Tryz.prog 10 #[.float .f64 x] w (TxPost w (writeF neg l e)) := by
  have HD := Lib.hid h1
  clear h1
  have hlz : (⟨l.toArray⟩ : ByteArray).size = l.length := by simp [ByteArray.size]
  obtain ⟨p, hp⟩ : ∃ p : Nat, e + (l.length : Int) = (p : Int) := ⟨(e + l.length).toNat, by omega⟩
  obtain ⟨P, hP, hPl, hPs⟩ := sl_to ⟨l.toArray⟩ (e + (l.length : Int)) p hp (by rw [hlz]; omega)
  obtain ⟨Q, hQ, hQl, hQs⟩ := sl_from ⟨l.toArray⟩ (e + (l.length : Int)) p hp (by rw [hlz]; omega)
  have hPb : P.size ≤ 3000 := by omega
  have hQb : Q.size ≤ 3000 := by omega
  have HPQ := Lib.hid (show P.data.toList = l.take p ∧ Q.data.toList = l.drop p from ⟨hPl, hQl⟩)
  have HW := Lib.hid (show ∀ b, writeF b l e = (if b then [45] else []) ++ (l.take p ++ 46 :: l.drop p) from fun b => by show _ ++ bodyF l e = _; congr 1; unfold bodyF; rw [if_neg (by omega), if_neg (by omega), if_pos ⟨by omega, h21⟩, hp]; rfl)
  have t1 : ((l.length : Int) == 0) = false := by rw [beq_eq_false_iff_ne]; omega
  have t2 : decide ((l.length : Int) ≤ e + (l.length : Int)) = false := decide_eq_false (by omega)
  have t3 : ¬ 0 ≤ e := by omega
  have hwp : IntKind.i64.wrap (e + (l.length : Int)) = e + (l.length : Int) := IntWalk.i64_in _ (by omega)
  clear hPl hQl hPs hQs hp
  cases neg
  · go_enter Tryz.func10, Tryz.ntmps10
    go_wp2_with fail
    refine (HD.out _).mono ?_
    rintro en w1 ⟨rfl, b1⟩
    have HK := Lib.hid (Blk.new w1 32 #[.bool false, .string ⟨l.toArray⟩, .int .i64 e])
    have B1 := Lib.hid (b1.alloc b1.size (.cells #[.bool false, .string ⟨l.toArray⟩, .int .i64 e] 32))
    clear b1
    go_wp2_with fail
    have c0 : (w1.alloc (.cells #[.bool false, .string ⟨l.toArray⟩, .int .i64 e] 32)).cell? ⟨w1.heap.size, 0, none⟩ = some (.bool false) := HK.out.cell 0
    have c1 : (w1.alloc (.cells #[.bool false, .string ⟨l.toArray⟩, .int .i64 e] 32)).cell? ⟨w1.heap.size, 1, none⟩ = some (.string ⟨l.toArray⟩) := HK.out.cell 1
    have c2 : (w1.alloc (.cells #[.bool false, .string ⟨l.toArray⟩, .int .i64 e] 32)).cell? ⟨w1.heap.size, 2, none⟩ = some (.int .i64 e) := HK.out.cell 2
    have B2 : Hid (Below w.heap.size w (w1.alloc (.cells #[.bool false, .string ⟨l.toArray⟩, .int .i64 e] 32))) := B1
    generalize w1.alloc (.cells #[.bool false, .string ⟨l.toArray⟩, .int .i64 e] 32) = W3 at *
    have HLT : Hid (w1.heap.size < W3.heap.size) := Lib.hid (World.block_lt_of_cell? _ _ c1)
    clear HK B1
    go_quiet (fail)
    go_wp2_with fail
    go_ret2
    exact tx_end _ _ _ _ (by rw [HW.out]; simp [HPQ.out.1, HPQ.out.2]) (bdrewN B2.out _)
  · go_enter Tryz.func10, Tryz.ntmps10
    go_wp2_with fail
    refine (HD.out _).mono ?_
    rintro en w1 ⟨rfl, b1⟩
    have HK := Lib.hid (Blk.new w1 32 #[.bool true, .string ⟨l.toArray⟩, .int .i64 e])
    have B1 := Lib.hid (b1.alloc b1.size (.cells #[.bool true, .string ⟨l.toArray⟩, .int .i64 e] 32))
    clear b1
    go_wp2_with fail
    have c0 : (w1.alloc (.cells #[.bool true, .string ⟨l.toArray⟩, .int .i64 e] 32)).cell? ⟨w1.heap.size, 0, none⟩ = some (.bool true) := HK.out.cell 0
    have c1 : (w1.alloc (.cells #[.bool true, .string ⟨l.toArray⟩, .int .i64 e] 32)).cell? ⟨w1.heap.size, 1, none⟩ = some (.string ⟨l.toArray⟩) := HK.out.cell 1
    have c2 : (w1.alloc (.cells #[.bool true, .string ⟨l.toArray⟩, .int .i64 e] 32)).cell? ⟨w1.heap.size, 2, none⟩ = some (.int .i64 e) := HK.out.cell 2
    have B2 : Hid (Below w.heap.size w (w1.alloc (.cells #[.bool true, .string ⟨l.toArray⟩, .int .i64 e] 32))) := B1
    generalize w1.alloc (.cells #[.bool true, .string ⟨l.toArray⟩, .int .i64 e] 32) = W3 at *
    have HLT : Hid (w1.heap.size < W3.heap.size) := Lib.hid (World.block_lt_of_cell? _ _ c1)
    clear HK B1
    go_quiet (fail)
    go_wp2_with fail
    go_ret2
    exact tx_end _ _ _ _ (by rw [HW.out]; simp [HPQ.out.1, HPQ.out.2]) (bdrewN B2.out _)
set_option maxHeartbeats 8000000 in
set_option maxRecDepth 100000 in
theorem rtext_4 (x : Nat) (neg : Bool) (l : List UInt8) (e : Int) (w : World) (h1 : ∀ W, Calls Tryz.prog 21 #[.float .f64 x] W (DxPost W (.agg #[.bool neg, .string ⟨l.toArray⟩, .int .i64 e]) 0)) (hl : l.length ≤ 3000) (he1 : -9000 ≤ e) (he2 : e ≤ 9000) (hn : 1 ≤ l.length) (hp5 : -5 ≤ e + l.length) (hp0 : e + l.length ≤ 0) :
    Calls Tryz.prog 10 #[.float .f64 x] w (TxPost w (writeF neg l e)) := by
  have HD := Lib.hid h1
  clear h1
  have hlz : (⟨l.toArray⟩ : ByteArray).size = l.length := by simp [ByteArray.size]
  obtain ⟨q, hq⟩ : ∃ q : Nat, -(e + (l.length : Int)) = (q : Int) := ⟨(-(e + l.length)).toNat, by omega⟩
  have HW := Lib.hid (show ∀ b, writeF b l e = (if b then [45] else []) ++ (48 :: 46 :: (List.replicate q 48 ++ l)) from fun b => by show _ ++ bodyF l e = _; congr 1; unfold bodyF; rw [if_neg (by omega), if_neg (by omega), if_neg (by omega), if_pos ⟨hp5, hp0⟩, hq]; rfl)
  have t1 : ((l.length : Int) == 0) = false := by rw [beq_eq_false_iff_ne]; omega
  have t2 : decide ((l.length : Int) ≤ e + (l.length : Int)) = false := decide_eq_false (by omega)
  have t3 : ¬ 0 ≤ e := by omega
  have HQ := Lib.hid hq
  have hqb : q ≤ 5 := by omega
  have hwq : IntKind.i64.wrap (-(e + (l.length : Int))) = -(e + (l.length : Int)) := IntWalk.i64_in _ (by omega)
  have hwp : IntKind.i64.wrap (e + (l.length : Int)) = e + (l.length : Int) := IntWalk.i64_in _ (by omega)
  clear hq
  cases neg
  · go_enter Tryz.func10, Tryz.ntmps10
    go_wp2_with fail
    refine (HD.out _).mono ?_
    rintro en w1 ⟨rfl, b1⟩
    have HK := Lib.hid (Blk.new w1 32 #[.bool false, .string ⟨l.toArray⟩, .int .i64 e])
    have B1 := Lib.hid (b1.alloc b1.size (.cells #[.bool false, .string ⟨l.toArray⟩, .int .i64 e] 32))
    clear b1
    go_wp2_with fail
    have c0 : (w1.alloc (.cells #[.bool false, .string ⟨l.toArray⟩, .int .i64 e] 32)).cell? ⟨w1.heap.size, 0, none⟩ = some (.bool false) := HK.out.cell 0
    have c1 : (w1.alloc (.cells #[.bool false, .string ⟨l.toArray⟩, .int .i64 e] 32)).cell? ⟨w1.heap.size, 1, none⟩ = some (.string ⟨l.toArray⟩) := HK.out.cell 1
    have c2 : (w1.alloc (.cells #[.bool false, .string ⟨l.toArray⟩, .int .i64 e] 32)).cell? ⟨w1.heap.size, 2, none⟩ = some (.int .i64 e) := HK.out.cell 2
    have B2 : Hid (Below w.heap.size w (w1.alloc (.cells #[.bool false, .string ⟨l.toArray⟩, .int .i64 e] 32))) := B1
    generalize w1.alloc (.cells #[.bool false, .string ⟨l.toArray⟩, .int .i64 e] 32) = W3 at *
    have HLT : Hid (w1.heap.size < W3.heap.size) := Lib.hid (World.block_lt_of_cell? _ _ c1)
    clear HK B1
    refine wp_region_held_drew (S := (fun w' => w'.cell? ⟨w1.heap.size, 1, none⟩ = some (.string ⟨l.toArray⟩))) (by kernel_rfl) ?_ (fun hHeld => ?_)
    · exact c1
    refine wpAnyH_take (i := 0) (oi := _) (v := ?_) rfl (by kernel_rfl) (by kernel_rfl) (by kernel_rfl) (fun _ _ _ h => h) (Or.inl ⟨by rfl, ?_⟩) (by assumption) ?_
    rotate_left 1
    · (intro w hSw; (try dsimp only at hSw); (go_simp <;> first | with_reducible rfl | (rw [if_neg (by omega)])))
    (try simp only [Act.put, List.getElem_toArray, List.getElem_cons_zero, List.getElem_cons_succ, List.setIfInBounds_toArray, List.set_cons_zero, List.set_cons_succ])
    refine wpAnyH_take (i := 1) (oi := _) (v := ?_) rfl (by kernel_rfl) (by kernel_rfl) (by kernel_rfl) (fun _ _ _ h => h) (Or.inl ⟨by rfl, ?_⟩) (by assumption) ?_
    rotate_left 1
    · (intro w hSw; (try dsimp only at hSw); (go_simp <;> first | with_reducible rfl | (rw [if_neg (by omega)])))
    (try simp only [Act.put, List.getElem_toArray, List.getElem_cons_zero, List.getElem_cons_succ, List.setIfInBounds_toArray, List.set_cons_zero, List.set_cons_succ])
    refine wpAnyH_take (i := 2) (oi := _) (v := ?_) rfl (by kernel_rfl) (by kernel_rfl) (by kernel_rfl) (fun _ _ _ h => h) (Or.inl ⟨by rfl, ?_⟩) (by assumption) ?_
    rotate_left 1
    · (intro w hSw; (try dsimp only at hSw); (go_simp <;> first | with_reducible rfl | (rw [if_neg (by omega)])))
    (try simp only [Act.put, List.getElem_toArray, List.getElem_cons_zero, List.getElem_cons_succ, List.setIfInBounds_toArray, List.set_cons_zero, List.set_cons_succ])
    refine wpAnyH_take (i := 3) (oi := _) (v := ?_) rfl (by kernel_rfl) (by kernel_rfl) (by kernel_rfl) (fun _ _ _ h => h) (Or.inl ⟨by rfl, ?_⟩) (by assumption) ?_
    rotate_left 1
    · (intro w hSw; (try dsimp only at hSw); (go_simp <;> first | with_reducible rfl | (rw [if_neg (by omega)])))
    (try simp only [Act.put, List.getElem_toArray, List.getElem_cons_zero, List.getElem_cons_succ, List.setIfInBounds_toArray, List.set_cons_zero, List.set_cons_succ])
    refine wpAnyH_take (i := 6) (oi := _) (v := ?_) rfl (by kernel_rfl) (by kernel_rfl) (by kernel_rfl) (fun _ _ _ h => h) (Or.inl ⟨by rfl, ?_⟩) (by assumption) ?_
    rotate_left 1
    · (intro w hSw; (try dsimp only at hSw); (go_simp <;> first | with_reducible rfl | (rw [if_neg (by omega)])))
    (try simp only [Act.put, List.getElem_toArray, List.getElem_cons_zero, List.getElem_cons_succ, List.setIfInBounds_toArray, List.set_cons_zero, List.set_cons_succ])
    refine wpAnyH_take (i := 7) (oi := _) (v := ?_) rfl (by kernel_rfl) (by kernel_rfl) (by kernel_rfl) (fun _ _ _ h => h) (Or.inl ⟨by rfl, ?_⟩) (by assumption) ?_
    rotate_left 1
    · (intro w hSw; (try dsimp only at hSw); (go_simp <;> first | with_reducible rfl | (rw [if_neg (by omega)])))
    (try simp only [Act.put, List.getElem_toArray, List.getElem_cons_zero, List.getElem_cons_succ, List.setIfInBounds_toArray, List.set_cons_zero, List.set_cons_succ])
    refine wpAnyH_ready (rs := [4]) (by kernel_rfl) (by simp) ?_
    refine AllReadyH.cons (o := _) rfl (fun K hK => ?_) ?_
    · go_simp
      refine (zeros_z _ q _ (by first | exact HQ.out | (have := HQ.out; omega)) (by omega)).mono ?_
      rintro en w4 ⟨rfl, b4⟩
      have d1 : w4.cell? ⟨w1.heap.size, 1, none⟩ = some (.string ⟨l.toArray⟩) := (b4.cell (p := ⟨w1.heap.size, 1, none⟩) HLT.out).trans c1
      have B4 := Lib.hid (bthen (bdrewN B2.out _) b4)
      clear b4
      go_simp
      refine hK.out _ _ ?_ (fun hHeld => ?_)
      · exact d1
      clear hK K
      (try simp only [Act.put, List.getElem_toArray, List.getElem_cons_zero, List.getElem_cons_succ, List.setIfInBounds_toArray, List.set_cons_zero, List.set_cons_succ])
      refine wpAnyH_take (i := 5) (oi := _) (v := ?_) rfl (by kernel_rfl) (by kernel_rfl) (by kernel_rfl) (fun _ _ _ h => h) (Or.inl ⟨by rfl, ?_⟩) (by assumption) ?_
      rotate_left 1
      · (intro w hSw; (try dsimp only at hSw); (go_simp <;> first | with_reducible rfl | (rw [if_neg (by omega)])))
      (try simp only [Act.put, List.getElem_toArray, List.getElem_cons_zero, List.getElem_cons_succ, List.setIfInBounds_toArray, List.set_cons_zero, List.set_cons_succ])
      refine wpAnyH_take (i := 8) (oi := _) (v := ?_) rfl (by kernel_rfl) (by kernel_rfl) (by kernel_rfl) (fun _ _ _ h => h) (Or.inl ⟨by rfl, ?_⟩) (by assumption) ?_
      rotate_left 1
      · (intro w hSw; (try dsimp only at hSw); (go_simp <;> first | with_reducible rfl | (rw [if_neg (by omega)])))
      (try simp only [Act.put, List.getElem_toArray, List.getElem_cons_zero, List.getElem_cons_succ, List.setIfInBounds_toArray, List.set_cons_zero, List.set_cons_succ])
      refine wpAnyH_take (i := 9) (oi := _) (v := ?_) rfl (by kernel_rfl) (by kernel_rfl) (by kernel_rfl) (fun _ _ _ h => h) (Or.inl ⟨by rfl, ?_⟩) (by assumption) ?_
      rotate_left 1
      · (intro w hSw; (try dsimp only at hSw); (go_simp <;> first | with_reducible rfl | (rw [if_neg (by omega)])))
      (try simp only [Act.put, List.getElem_toArray, List.getElem_cons_zero, List.getElem_cons_succ, List.setIfInBounds_toArray, List.set_cons_zero, List.set_cons_succ])
      refine wpAnyH_take (i := 10) (oi := _) (v := ?_) rfl (by kernel_rfl) (by kernel_rfl) (by kernel_rfl) (fun _ _ _ h => h) (Or.inl ⟨by rfl, ?_⟩) (by assumption) ?_
      rotate_left 1
      · (intro w hSw; (try dsimp only at hSw); (go_simp <;> first | with_reducible rfl | (rw [if_neg (by omega)])))
      (try simp only [Act.put, List.getElem_toArray, List.getElem_cons_zero, List.getElem_cons_succ, List.setIfInBounds_toArray, List.set_cons_zero, List.set_cons_succ])
      refine wpAnyH_done (by kernel_rfl) ?_ _
      go_wp2_with fail
      go_ret2
      exact tx_end _ _ _ _ (by rw [HW.out]; simp) B4.out
    exact AllReadyH.nil
  · go_enter Tryz.func10, Tryz.ntmps10
    go_wp2_with fail
    refine (HD.out _).mono ?_
    rintro en w1 ⟨rfl, b1⟩
    have HK := Lib.hid (Blk.new w1 32 #[.bool true, .string ⟨l.toArray⟩, .int .i64 e])
    have B1 := Lib.hid (b1.alloc b1.size (.cells #[.bool true, .string ⟨l.toArray⟩, .int .i64 e] 32))
    clear b1
    go_wp2_with fail
    have c0 : (w1.alloc (.cells #[.bool true, .string ⟨l.toArray⟩, .int .i64 e] 32)).cell? ⟨w1.heap.size, 0, none⟩ = some (.bool true) := HK.out.cell 0
    have c1 : (w1.alloc (.cells #[.bool true, .string ⟨l.toArray⟩, .int .i64 e] 32)).cell? ⟨w1.heap.size, 1, none⟩ = some (.string ⟨l.toArray⟩) := HK.out.cell 1
    have c2 : (w1.alloc (.cells #[.bool true, .string ⟨l.toArray⟩, .int .i64 e] 32)).cell? ⟨w1.heap.size, 2, none⟩ = some (.int .i64 e) := HK.out.cell 2
    have B2 : Hid (Below w.heap.size w (w1.alloc (.cells #[.bool true, .string ⟨l.toArray⟩, .int .i64 e] 32))) := B1
    generalize w1.alloc (.cells #[.bool true, .string ⟨l.toArray⟩, .int .i64 e] 32) = W3 at *
    have HLT : Hid (w1.heap.size < W3.heap.size) := Lib.hid (World.block_lt_of_cell? _ _ c1)
    clear HK B1
    refine wp_region_held_drew (S := (fun w' => w'.cell? ⟨w1.heap.size, 1, none⟩ = some (.string ⟨l.toArray⟩))) (by kernel_rfl) ?_ (fun hHeld => ?_)
    · exact c1
    refine wpAnyH_take (i := 0) (oi := _) (v := ?_) rfl (by kernel_rfl) (by kernel_rfl) (by kernel_rfl) (fun _ _ _ h => h) (Or.inl ⟨by rfl, ?_⟩) (by assumption) ?_
    rotate_left 1
    · (intro w hSw; (try dsimp only at hSw); (go_simp <;> first | with_reducible rfl | (rw [if_neg (by omega)])))
    (try simp only [Act.put, List.getElem_toArray, List.getElem_cons_zero, List.getElem_cons_succ, List.setIfInBounds_toArray, List.set_cons_zero, List.set_cons_succ])
    refine wpAnyH_take (i := 1) (oi := _) (v := ?_) rfl (by kernel_rfl) (by kernel_rfl) (by kernel_rfl) (fun _ _ _ h => h) (Or.inl ⟨by rfl, ?_⟩) (by assumption) ?_
    rotate_left 1
    · (intro w hSw; (try dsimp only at hSw); (go_simp <;> first | with_reducible rfl | (rw [if_neg (by omega)])))
    (try simp only [Act.put, List.getElem_toArray, List.getElem_cons_zero, List.getElem_cons_succ, List.setIfInBounds_toArray, List.set_cons_zero, List.set_cons_succ])
    refine wpAnyH_take (i := 2) (oi := _) (v := ?_) rfl (by kernel_rfl) (by kernel_rfl) (by kernel_rfl) (fun _ _ _ h => h) (Or.inl ⟨by rfl, ?_⟩) (by assumption) ?_
    rotate_left 1
    · (intro w hSw; (try dsimp only at hSw); (go_simp <;> first | with_reducible rfl | (rw [if_neg (by omega)])))
    (try simp only [Act.put, List.getElem_toArray, List.getElem_cons_zero, List.getElem_cons_succ, List.setIfInBounds_toArray, List.set_cons_zero, List.set_cons_succ])
    refine wpAnyH_take (i := 3) (oi := _) (v := ?_) rfl (by kernel_rfl) (by kernel_rfl) (by kernel_rfl) (fun _ _ _ h => h) (Or.inl ⟨by rfl, ?_⟩) (by assumption) ?_
    rotate_left 1
    · (intro w hSw; (try dsimp only at hSw); (go_simp <;> first | with_reducible rfl | (rw [if_neg (by omega)])))
    (try simp only [Act.put, List.getElem_toArray, List.getElem_cons_zero, List.getElem_cons_succ, List.setIfInBounds_toArray, List.set_cons_zero, List.set_cons_succ])
    refine wpAnyH_take (i := 6) (oi := _) (v := ?_) rfl (by kernel_rfl) (by kernel_rfl) (by kernel_rfl) (fun _ _ _ h => h) (Or.inl ⟨by rfl, ?_⟩) (by assumption) ?_
    rotate_left 1
    · (intro w hSw; (try dsimp only at hSw); (go_simp <;> first | with_reducible rfl | (rw [if_neg (by omega)])))
    (try simp only [Act.put, List.getElem_toArray, List.getElem_cons_zero, List.getElem_cons_succ, List.setIfInBounds_toArray, List.set_cons_zero, List.set_cons_succ])
    refine wpAnyH_take (i := 7) (oi := _) (v := ?_) rfl (by kernel_rfl) (by kernel_rfl) (by kernel_rfl) (fun _ _ _ h => h) (Or.inl ⟨by rfl, ?_⟩) (by assumption) ?_
    rotate_left 1
    · (intro w hSw; (try dsimp only at hSw); (go_simp <;> first | with_reducible rfl | (rw [if_neg (by omega)])))
    (try simp only [Act.put, List.getElem_toArray, List.getElem_cons_zero, List.getElem_cons_succ, List.setIfInBounds_toArray, List.set_cons_zero, List.set_cons_succ])
    refine wpAnyH_ready (rs := [4]) (by kernel_rfl) (by simp) ?_
    refine AllReadyH.cons (o := _) rfl (fun K hK => ?_) ?_
    · go_simp
      refine (zeros_z _ q _ (by first | exact HQ.out | (have := HQ.out; omega)) (by omega)).mono ?_
      rintro en w4 ⟨rfl, b4⟩
      have d1 : w4.cell? ⟨w1.heap.size, 1, none⟩ = some (.string ⟨l.toArray⟩) := (b4.cell (p := ⟨w1.heap.size, 1, none⟩) HLT.out).trans c1
      have B4 := Lib.hid (bthen (bdrewN B2.out _) b4)
      clear b4
      go_simp
      refine hK.out _ _ ?_ (fun hHeld => ?_)
      · exact d1
      clear hK K
      (try simp only [Act.put, List.getElem_toArray, List.getElem_cons_zero, List.getElem_cons_succ, List.setIfInBounds_toArray, List.set_cons_zero, List.set_cons_succ])
      refine wpAnyH_take (i := 5) (oi := _) (v := ?_) rfl (by kernel_rfl) (by kernel_rfl) (by kernel_rfl) (fun _ _ _ h => h) (Or.inl ⟨by rfl, ?_⟩) (by assumption) ?_
      rotate_left 1
      · (intro w hSw; (try dsimp only at hSw); (go_simp <;> first | with_reducible rfl | (rw [if_neg (by omega)])))
      (try simp only [Act.put, List.getElem_toArray, List.getElem_cons_zero, List.getElem_cons_succ, List.setIfInBounds_toArray, List.set_cons_zero, List.set_cons_succ])
      refine wpAnyH_take (i := 8) (oi := _) (v := ?_) rfl (by kernel_rfl) (by kernel_rfl) (by kernel_rfl) (fun _ _ _ h => h) (Or.inl ⟨by rfl, ?_⟩) (by assumption) ?_
      rotate_left 1
      · (intro w hSw; (try dsimp only at hSw); (go_simp <;> first | with_reducible rfl | (rw [if_neg (by omega)])))
      (try simp only [Act.put, List.getElem_toArray, List.getElem_cons_zero, List.getElem_cons_succ, List.setIfInBounds_toArray, List.set_cons_zero, List.set_cons_succ])
      refine wpAnyH_take (i := 9) (oi := _) (v := ?_) rfl (by kernel_rfl) (by kernel_rfl) (by kernel_rfl) (fun _ _ _ h => h) (Or.inl ⟨by rfl, ?_⟩) (by assumption) ?_
      rotate_left 1
      · (intro w hSw; (try dsimp only at hSw); (go_simp <;> first | with_reducible rfl | (rw [if_neg (by omega)])))
      (try simp only [Act.put, List.getElem_toArray, List.getElem_cons_zero, List.getElem_cons_succ, List.setIfInBounds_toArray, List.set_cons_zero, List.set_cons_succ])
      refine wpAnyH_take (i := 10) (oi := _) (v := ?_) rfl (by kernel_rfl) (by kernel_rfl) (by kernel_rfl) (fun _ _ _ h => h) (Or.inl ⟨by rfl, ?_⟩) (by assumption) ?_
      rotate_left 1
      · (intro w hSw; (try dsimp only at hSw); (go_simp <;> first | with_reducible rfl | (rw [if_neg (by omega)])))
      (try simp only [Act.put, List.getElem_toArray, List.getElem_cons_zero, List.getElem_cons_succ, List.setIfInBounds_toArray, List.set_cons_zero, List.set_cons_succ])
      refine wpAnyH_done (by kernel_rfl) ?_ _
      go_wp2_with fail
      go_ret2
      exact tx_end _ _ _ _ (by rw [HW.out]; simp) B4.out
    exact AllReadyH.nil
set_option maxHeartbeats 8000000 in
set_option maxRecDepth 100000 in
theorem rtext_5a1 (x : Nat) (neg : Bool) (l : List UInt8) (e : Int) (w : World) (h1 : ∀ W, Calls Tryz.prog 21 #[.float .f64 x] W (DxPost W (.agg #[.bool neg, .string ⟨l.toArray⟩, .int .i64 e]) 0)) (hl : l.length ≤ 3000) (he1 : -9000 ≤ e) (he2 : e ≤ 9000) (htab : Tens w) (hn : l.length = 1) (h0 : 0 ≤ e) (hp : 21 < e + l.length) :
    Calls Tryz.prog 10 #[.float .f64 x] w (TxPost w (writeF neg l e)) := by
  have HD := Lib.hid h1
  clear h1
  have hlz : (⟨l.toArray⟩ : ByteArray).size = l.length := by simp [ByteArray.size]
  obtain ⟨P, hP, hPl, hPs⟩ := sl_to ⟨l.toArray⟩ 1 1 rfl (by rw [hlz]; omega)
  obtain ⟨Q, hQ, hQl, hQs⟩ := sl_from ⟨l.toArray⟩ 1 1 rfl (by rw [hlz]; omega)
  have hPb : P.size ≤ 3000 := by omega
  have hQb : Q.size ≤ 3000 := by omega
  have HPQ := Lib.hid (show P.data.toList = l.take 1 ∧ Q.data.toList = l.drop 1 from ⟨hPl, hQl⟩)
  have hw : ∀ b, writeF b l e = (if b then [45] else []) ++ (l.take 1 ++ ([] ++ 101 :: itoaF (e + l.length - 1))) := fun b => by show _ ++ bodyF l e = _; congr 1; unfold bodyF; rw [if_neg (by omega), if_neg (by omega), if_neg (by omega), if_neg (by omega), if_neg (by omega)]
  have hil := itoa_len (e + l.length - 1) (by omega) (by omega)
  have HIT := Lib.hid (fun (W : World) (hb : Below w.heap.size w W) => itoa_w (e + l.length - 1) W (by omega) (by omega) (htab.below hb))
  generalize itoaF (e + l.length - 1) = I at hw hil HIT
  have HW := Lib.hid hw
  have t1 : ((l.length : Int) == 0) = false := by rw [beq_eq_false_iff_ne]; omega
  have hwp : IntKind.i64.wrap (e + (l.length : Int)) = e + (l.length : Int) := IntWalk.i64_in _ (by omega)
  have hwq : IntKind.i64.wrap (e + (l.length : Int) - 1) = e + (l.length : Int) - 1 := IntWalk.i64_in _ (by omega)
  have t2 : decide ((l.length : Int) ≤ e + (l.length : Int)) = true := decide_eq_true (by omega)
  have t8 : decide ((1 : Int) < (l.length : Int)) = false := by rw [decide_eq_false_iff_not]; omega
  have t9 : (l.length : Int) ≤ 1 := by omega
  have HN1 := Lib.hid hn
  clear hn
  clear hPl hQl hPs hQs hw htab
  cases neg
  · go_enter Tryz.func10, Tryz.ntmps10
    go_wp2_with fail
    refine (HD.out _).mono ?_
    rintro en w1 ⟨rfl, b1⟩
    have HK := Lib.hid (Blk.new w1 32 #[.bool false, .string ⟨l.toArray⟩, .int .i64 e])
    have B1 := Lib.hid (b1.alloc b1.size (.cells #[.bool false, .string ⟨l.toArray⟩, .int .i64 e] 32))
    clear b1
    go_wp2_with fail
    refine (HIT.out _ B1.out).mono ?_
    rintro en w4 ⟨rfl, b4⟩
    have B4 := Lib.hid (bthen B1.out b4)
    clear b4
    go_wp2_with fail
    go_ret2
    exact tx_end _ _ _ _ (by rw [HW.out]; simp [HPQ.out.1, HPQ.out.2]) B4.out
  · go_enter Tryz.func10, Tryz.ntmps10
    go_wp2_with fail
    refine (HD.out _).mono ?_
    rintro en w1 ⟨rfl, b1⟩
    have HK := Lib.hid (Blk.new w1 32 #[.bool true, .string ⟨l.toArray⟩, .int .i64 e])
    have B1 := Lib.hid (b1.alloc b1.size (.cells #[.bool true, .string ⟨l.toArray⟩, .int .i64 e] 32))
    clear b1
    go_wp2_with fail
    refine (HIT.out _ B1.out).mono ?_
    rintro en w4 ⟨rfl, b4⟩
    have B4 := Lib.hid (bthen B1.out b4)
    clear b4
    go_wp2_with fail
    go_ret2
    exact tx_end _ _ _ _ (by rw [HW.out]; simp [HPQ.out.1, HPQ.out.2]) B4.out
set_option maxHeartbeats 8000000 in
set_option maxRecDepth 100000 in
theorem rtext_5c1 (x : Nat) (neg : Bool) (l : List UInt8) (e : Int) (w : World) (h1 : ∀ W, Calls Tryz.prog 21 #[.float .f64 x] W (DxPost W (.agg #[.bool neg, .string ⟨l.toArray⟩, .int .i64 e]) 0)) (hl : l.length ≤ 3000) (he1 : -9000 ≤ e) (he2 : e ≤ 9000) (htab : Tens w) (hn : l.length = 1) (hp : e + l.length + 5 < 0) :
    Calls Tryz.prog 10 #[.float .f64 x] w (TxPost w (writeF neg l e)) := by
  have HD := Lib.hid h1
  clear h1
  have hlz : (⟨l.toArray⟩ : ByteArray).size = l.length := by simp [ByteArray.size]
  obtain ⟨P, hP, hPl, hPs⟩ := sl_to ⟨l.toArray⟩ 1 1 rfl (by rw [hlz]; omega)
  obtain ⟨Q, hQ, hQl, hQs⟩ := sl_from ⟨l.toArray⟩ 1 1 rfl (by rw [hlz]; omega)
  have hPb : P.size ≤ 3000 := by omega
  have hQb : Q.size ≤ 3000 := by omega
  have HPQ := Lib.hid (show P.data.toList = l.take 1 ∧ Q.data.toList = l.drop 1 from ⟨hPl, hQl⟩)
  have hw : ∀ b, writeF b l e = (if b then [45] else []) ++ (l.take 1 ++ ([] ++ 101 :: itoaF (e + l.length - 1))) := fun b => by show _ ++ bodyF l e = _; congr 1; unfold bodyF; rw [if_neg (by omega), if_neg (by omega), if_neg (by omega), if_neg (by omega), if_neg (by omega)]
  have hil := itoa_len (e + l.length - 1) (by omega) (by omega)
  have HIT := Lib.hid (fun (W : World) (hb : Below w.heap.size w W) => itoa_w (e + l.length - 1) W (by omega) (by omega) (htab.below hb))
  generalize itoaF (e + l.length - 1) = I at hw hil HIT
  have HW := Lib.hid hw
  have t1 : ((l.length : Int) == 0) = false := by rw [beq_eq_false_iff_ne]; omega
  have hwp : IntKind.i64.wrap (e + (l.length : Int)) = e + (l.length : Int) := IntWalk.i64_in _ (by omega)
  have hwq : IntKind.i64.wrap (e + (l.length : Int) - 1) = e + (l.length : Int) - 1 := IntWalk.i64_in _ (by omega)
  have t2 : decide ((l.length : Int) ≤ e + (l.length : Int)) = false := decide_eq_false (by omega)
  have t3 : ¬ 0 ≤ e := by omega
  have t8 : decide ((1 : Int) < (l.length : Int)) = false := by rw [decide_eq_false_iff_not]; omega
  have t9 : (l.length : Int) ≤ 1 := by omega
  have HN1 := Lib.hid hn
  clear hn
  have t5 : decide ((1 : Int) ≤ e + (l.length : Int)) = false := decide_eq_false (by omega)
  have t6 : decide ((-5 : Int) ≤ e + (l.length : Int)) = false := decide_eq_false (by omega)
  have t7 : (l.length : Int) ≤ 3000 := by omega
  have HPX := Lib.hid hp
  clear hp
  clear hPl hQl hPs hQs hw htab
  cases neg
  · go_enter Tryz.func10, Tryz.ntmps10
    go_wp2_with fail
    refine (HD.out _).mono ?_
    rintro en w1 ⟨rfl, b1⟩
    have HK := Lib.hid (Blk.new w1 32 #[.bool false, .string ⟨l.toArray⟩, .int .i64 e])
    have B1 := Lib.hid (b1.alloc b1.size (.cells #[.bool false, .string ⟨l.toArray⟩, .int .i64 e] 32))
    clear b1
    go_wp2_with fail
    refine (HIT.out _ B1.out).mono ?_
    rintro en w4 ⟨rfl, b4⟩
    have B4 := Lib.hid (bthen B1.out b4)
    clear b4
    go_wp2_with fail
    go_ret2
    exact tx_end _ _ _ _ (by rw [HW.out]; simp [HPQ.out.1, HPQ.out.2]) B4.out
  · go_enter Tryz.func10, Tryz.ntmps10
    go_wp2_with fail
    refine (HD.out _).mono ?_
    rintro en w1 ⟨rfl, b1⟩
    have HK := Lib.hid (Blk.new w1 32 #[.bool true, .string ⟨l.toArray⟩, .int .i64 e])
    have B1 := Lib.hid (b1.alloc b1.size (.cells #[.bool true, .string ⟨l.toArray⟩, .int .i64 e] 32))
    clear b1
    go_wp2_with fail
    refine (HIT.out _ B1.out).mono ?_
    rintro en w4 ⟨rfl, b4⟩
    have B4 := Lib.hid (bthen B1.out b4)
    clear b4
    go_wp2_with fail
    go_ret2
    exact tx_end _ _ _ _ (by rw [HW.out]; simp [HPQ.out.1, HPQ.out.2]) B4.out
set_option maxHeartbeats 8000000 in
set_option maxRecDepth 100000 in
theorem rtext_5am (x : Nat) (neg : Bool) (l : List UInt8) (e : Int) (w : World) (h1 : ∀ W, Calls Tryz.prog 21 #[.float .f64 x] W (DxPost W (.agg #[.bool neg, .string ⟨l.toArray⟩, .int .i64 e]) 0)) (hl : l.length ≤ 3000) (he1 : -9000 ≤ e) (he2 : e ≤ 9000) (htab : Tens w) (hn : 1 < l.length) (h0 : 0 ≤ e) (hp : 21 < e + l.length) :
    Calls Tryz.prog 10 #[.float .f64 x] w (TxPost w (writeF neg l e)) := by
  have HD := Lib.hid h1
  clear h1
  have hlz : (⟨l.toArray⟩ : ByteArray).size = l.length := by simp [ByteArray.size]
  obtain ⟨P, hP, hPl, hPs⟩ := sl_to ⟨l.toArray⟩ 1 1 rfl (by rw [hlz]; omega)
  obtain ⟨Q, hQ, hQl, hQs⟩ := sl_from ⟨l.toArray⟩ 1 1 rfl (by rw [hlz]; omega)
  have hPb : P.size ≤ 3000 := by omega
  have hQb : Q.size ≤ 3000 := by omega
  have HPQ := Lib.hid (show P.data.toList = l.take 1 ∧ Q.data.toList = l.drop 1 from ⟨hPl, hQl⟩)
  have hw : ∀ b, writeF b l e = (if b then [45] else []) ++ (l.take 1 ++ (46 :: l.drop 1 ++ 101 :: itoaF (e + l.length - 1))) := fun b => by show _ ++ bodyF l e = _; congr 1; unfold bodyF; rw [if_neg (by omega), if_neg (by omega), if_neg (by omega), if_neg (by omega), if_pos (by omega)]
  have hil := itoa_len (e + l.length - 1) (by omega) (by omega)
  have HIT := Lib.hid (fun (W : World) (hb : Below w.heap.size w W) => itoa_w (e + l.length - 1) W (by omega) (by omega) (htab.below hb))
  generalize itoaF (e + l.length - 1) = I at hw hil HIT
  have HW := Lib.hid hw
  have t1 : ((l.length : Int) == 0) = false := by rw [beq_eq_false_iff_ne]; omega
  have hwp : IntKind.i64.wrap (e + (l.length : Int)) = e + (l.length : Int) := IntWalk.i64_in _ (by omega)
  have hwq : IntKind.i64.wrap (e + (l.length : Int) - 1) = e + (l.length : Int) - 1 := IntWalk.i64_in _ (by omega)
  have t2 : decide ((l.length : Int) ≤ e + (l.length : Int)) = true := decide_eq_true (by omega)
  have t8 : decide ((1 : Int) < (l.length : Int)) = true := by rw [decide_eq_true_iff]; omega
  clear hPl hQl hPs hQs hw htab
  cases neg
  · go_enter Tryz.func10, Tryz.ntmps10
    go_wp2_with fail
    refine (HD.out _).mono ?_
    rintro en w1 ⟨rfl, b1⟩
    have HK := Lib.hid (Blk.new w1 32 #[.bool false, .string ⟨l.toArray⟩, .int .i64 e])
    have B1 := Lib.hid (b1.alloc b1.size (.cells #[.bool false, .string ⟨l.toArray⟩, .int .i64 e] 32))
    clear b1
    go_wp2_with fail
    refine (HIT.out _ B1.out).mono ?_
    rintro en w4 ⟨rfl, b4⟩
    have B4 := Lib.hid (bthen B1.out b4)
    clear b4
    go_wp2_with fail
    go_ret2
    exact tx_end _ _ _ _ (by rw [HW.out]; simp [HPQ.out.1, HPQ.out.2]) B4.out
  · go_enter Tryz.func10, Tryz.ntmps10
    go_wp2_with fail
    refine (HD.out _).mono ?_
    rintro en w1 ⟨rfl, b1⟩
    have HK := Lib.hid (Blk.new w1 32 #[.bool true, .string ⟨l.toArray⟩, .int .i64 e])
    have B1 := Lib.hid (b1.alloc b1.size (.cells #[.bool true, .string ⟨l.toArray⟩, .int .i64 e] 32))
    clear b1
    go_wp2_with fail
    refine (HIT.out _ B1.out).mono ?_
    rintro en w4 ⟨rfl, b4⟩
    have B4 := Lib.hid (bthen B1.out b4)
    clear b4
    go_wp2_with fail
    go_ret2
    exact tx_end _ _ _ _ (by rw [HW.out]; simp [HPQ.out.1, HPQ.out.2]) B4.out
set_option maxHeartbeats 8000000 in
set_option maxRecDepth 100000 in
theorem rtext_5bm (x : Nat) (neg : Bool) (l : List UInt8) (e : Int) (w : World) (h1 : ∀ W, Calls Tryz.prog 21 #[.float .f64 x] W (DxPost W (.agg #[.bool neg, .string ⟨l.toArray⟩, .int .i64 e]) 0)) (hl : l.length ≤ 3000) (he1 : -9000 ≤ e) (he2 : e ≤ 9000) (htab : Tens w) (hn : 1 < l.length) (h0 : e < 0) (hp : 21 < e + l.length) :
    Calls Tryz.prog 10 #[.float .f64 x] w (TxPost w (writeF neg l e)) := by
  have HD := Lib.hid h1
  clear h1
  have hlz : (⟨l.toArray⟩ : ByteArray).size = l.length := by simp [ByteArray.size]
  obtain ⟨P, hP, hPl, hPs⟩ := sl_to ⟨l.toArray⟩ 1 1 rfl (by rw [hlz]; omega)
  obtain ⟨Q, hQ, hQl, hQs⟩ := sl_from ⟨l.toArray⟩ 1 1 rfl (by rw [hlz]; omega)
  have hPb : P.size ≤ 3000 := by omega
  have hQb : Q.size ≤ 3000 := by omega
  have HPQ := Lib.hid (show P.data.toList = l.take 1 ∧ Q.data.toList = l.drop 1 from ⟨hPl, hQl⟩)
  have hw : ∀ b, writeF b l e = (if b then [45] else []) ++ (l.take 1 ++ (46 :: l.drop 1 ++ 101 :: itoaF (e + l.length - 1))) := fun b => by show _ ++ bodyF l e = _; congr 1; unfold bodyF; rw [if_neg (by omega), if_neg (by omega), if_neg (by omega), if_neg (by omega), if_pos (by omega)]
  have hil := itoa_len (e + l.length - 1) (by omega) (by omega)
  have HIT := Lib.hid (fun (W : World) (hb : Below w.heap.size w W) => itoa_w (e + l.length - 1) W (by omega) (by omega) (htab.below hb))
  generalize itoaF (e + l.length - 1) = I at hw hil HIT
  have HW := Lib.hid hw
  have t1 : ((l.length : Int) == 0) = false := by rw [beq_eq_false_iff_ne]; omega
  have hwp : IntKind.i64.wrap (e + (l.length : Int)) = e + (l.length : Int) := IntWalk.i64_in _ (by omega)
  have hwq : IntKind.i64.wrap (e + (l.length : Int) - 1) = e + (l.length : Int) - 1 := IntWalk.i64_in _ (by omega)
  have t2 : decide ((l.length : Int) ≤ e + (l.length : Int)) = false := decide_eq_false (by omega)
  have t3 : ¬ 0 ≤ e := by omega
  have t8 : decide ((1 : Int) < (l.length : Int)) = true := by rw [decide_eq_true_iff]; omega
  clear hPl hQl hPs hQs hw htab
  cases neg
  · go_enter Tryz.func10, Tryz.ntmps10
    go_wp2_with fail
    refine (HD.out _).mono ?_
    rintro en w1 ⟨rfl, b1⟩
    have HK := Lib.hid (Blk.new w1 32 #[.bool false, .string ⟨l.toArray⟩, .int .i64 e])
    have B1 := Lib.hid (b1.alloc b1.size (.cells #[.bool false, .string ⟨l.toArray⟩, .int .i64 e] 32))
    clear b1
    go_wp2_with fail
    refine (HIT.out _ B1.out).mono ?_
    rintro en w4 ⟨rfl, b4⟩
    have B4 := Lib.hid (bthen B1.out b4)
    clear b4
    go_wp2_with fail
    go_ret2
    exact tx_end _ _ _ _ (by rw [HW.out]; simp [HPQ.out.1, HPQ.out.2]) B4.out
  · go_enter Tryz.func10, Tryz.ntmps10
    go_wp2_with fail
    refine (HD.out _).mono ?_
    rintro en w1 ⟨rfl, b1⟩
    have HK := Lib.hid (Blk.new w1 32 #[.bool true, .string ⟨l.toArray⟩, .int .i64 e])
    have B1 := Lib.hid (b1.alloc b1.size (.cells #[.bool true, .string ⟨l.toArray⟩, .int .i64 e] 32))
    clear b1
    go_wp2_with fail
    refine (HIT.out _ B1.out).mono ?_
    rintro en w4 ⟨rfl, b4⟩
    have B4 := Lib.hid (bthen B1.out b4)
    clear b4
    go_wp2_with fail
    go_ret2
    exact tx_end _ _ _ _ (by rw [HW.out]; simp [HPQ.out.1, HPQ.out.2]) B4.out
set_option maxHeartbeats 8000000 in
set_option maxRecDepth 100000 in
theorem rtext_5cm (x : Nat) (neg : Bool) (l : List UInt8) (e : Int) (w : World) (h1 : ∀ W, Calls Tryz.prog 21 #[.float .f64 x] W (DxPost W (.agg #[.bool neg, .string ⟨l.toArray⟩, .int .i64 e]) 0)) (hl : l.length ≤ 3000) (he1 : -9000 ≤ e) (he2 : e ≤ 9000) (htab : Tens w) (hn : 1 < l.length) (hp : e + l.length + 5 < 0) :
    Calls Tryz.prog 10 #[.float .f64 x] w (TxPost w (writeF neg l e)) := by
  have HD := Lib.hid h1
  clear h1
  have hlz : (⟨l.toArray⟩ : ByteArray).size = l.length := by simp [ByteArray.size]
  obtain ⟨P, hP, hPl, hPs⟩ := sl_to ⟨l.toArray⟩ 1 1 rfl (by rw [hlz]; omega)
  obtain ⟨Q, hQ, hQl, hQs⟩ := sl_from ⟨l.toArray⟩ 1 1 rfl (by rw [hlz]; omega)
  have hPb : P.size ≤ 3000 := by omega
  have hQb : Q.size ≤ 3000 := by omega
  have HPQ := Lib.hid (show P.data.toList = l.take 1 ∧ Q.data.toList = l.drop 1 from ⟨hPl, hQl⟩)
  have hw : ∀ b, writeF b l e = (if b then [45] else []) ++ (l.take 1 ++ (46 :: l.drop 1 ++ 101 :: itoaF (e + l.length - 1))) := fun b => by show _ ++ bodyF l e = _; congr 1; unfold bodyF; rw [if_neg (by omega), if_neg (by omega), if_neg (by omega), if_neg (by omega), if_pos (by omega)]
  have hil := itoa_len (e + l.length - 1) (by omega) (by omega)
  have HIT := Lib.hid (fun (W : World) (hb : Below w.heap.size w W) => itoa_w (e + l.length - 1) W (by omega) (by omega) (htab.below hb))
  generalize itoaF (e + l.length - 1) = I at hw hil HIT
  have HW := Lib.hid hw
  have t1 : ((l.length : Int) == 0) = false := by rw [beq_eq_false_iff_ne]; omega
  have hwp : IntKind.i64.wrap (e + (l.length : Int)) = e + (l.length : Int) := IntWalk.i64_in _ (by omega)
  have hwq : IntKind.i64.wrap (e + (l.length : Int) - 1) = e + (l.length : Int) - 1 := IntWalk.i64_in _ (by omega)
  have t2 : decide ((l.length : Int) ≤ e + (l.length : Int)) = false := decide_eq_false (by omega)
  have t3 : ¬ 0 ≤ e := by omega
  have t8 : decide ((1 : Int) < (l.length : Int)) = true := by rw [decide_eq_true_iff]; omega
  have t5 : decide ((1 : Int) ≤ e + (l.length : Int)) = false := decide_eq_false (by omega)
  have t6 : decide ((-5 : Int) ≤ e + (l.length : Int)) = false := decide_eq_false (by omega)
  have t7 : (l.length : Int) ≤ 3000 := by omega
  have HPX := Lib.hid hp
  clear hp
  clear hPl hQl hPs hQs hw htab
  cases neg
  · go_enter Tryz.func10, Tryz.ntmps10
    go_wp2_with fail
    refine (HD.out _).mono ?_
    rintro en w1 ⟨rfl, b1⟩
    have HK := Lib.hid (Blk.new w1 32 #[.bool false, .string ⟨l.toArray⟩, .int .i64 e])
    have B1 := Lib.hid (b1.alloc b1.size (.cells #[.bool false, .string ⟨l.toArray⟩, .int .i64 e] 32))
    clear b1
    go_wp2_with fail
    refine (HIT.out _ B1.out).mono ?_
    rintro en w4 ⟨rfl, b4⟩
    have B4 := Lib.hid (bthen B1.out b4)
    clear b4
    go_wp2_with fail
    go_ret2
    exact tx_end _ _ _ _ (by rw [HW.out]; simp [HPQ.out.1, HPQ.out.2]) B4.out
  · go_enter Tryz.func10, Tryz.ntmps10
    go_wp2_with fail
    refine (HD.out _).mono ?_
    rintro en w1 ⟨rfl, b1⟩
    have HK := Lib.hid (Blk.new w1 32 #[.bool true, .string ⟨l.toArray⟩, .int .i64 e])
    have B1 := Lib.hid (b1.alloc b1.size (.cells #[.bool true, .string ⟨l.toArray⟩, .int .i64 e] 32))
    clear b1
    go_wp2_with fail
    refine (HIT.out _ B1.out).mono ?_
    rintro en w4 ⟨rfl, b4⟩
    have B4 := Lib.hid (bthen B1.out b4)
    clear b4
    go_wp2_with fail
    go_ret2
    exact tx_end _ _ _ _ (by rw [HW.out]; simp [HPQ.out.1, HPQ.out.2]) B4.out
theorem rtext_any (x : Nat) (neg : Bool) (l : List UInt8) (e : Int) (w : World) (h1 : ∀ W, Calls Tryz.prog 21 #[.float .f64 x] W (DxPost W (.agg #[.bool neg, .string ⟨l.toArray⟩, .int .i64 e]) 0)) (hl : l.length ≤ 3000) (he1 : -9000 ≤ e) (he2 : e ≤ 9000) (htab : Tens w) :
    Calls Tryz.prog 10 #[.float .f64 x] w (TxPost w (writeF neg l e)) := by
  by_cases hn : l.length = 0
  · exact rtext_1 x neg l e w h1 hl he1 he2 hn
  by_cases a : 0 ≤ e
  · by_cases b : e + l.length ≤ 21
    · exact rtext_2 x neg l e w h1 hl he1 he2 (by omega) a b
    · by_cases c : l.length = 1
      · exact rtext_5a1 x neg l e w h1 hl he1 he2 htab c a (by omega)
      · exact rtext_5am x neg l e w h1 hl he1 he2 htab (by omega) a (by omega)
  · by_cases b : e + l.length ≤ 21
    · by_cases c : 1 ≤ e + l.length
      · exact rtext_3 x neg l e w h1 hl he1 he2 (by omega) (by omega) c b
      · by_cases d : -5 ≤ e + l.length
        · exact rtext_4 x neg l e w h1 hl he1 he2 (by omega) d (by omega)
        · by_cases f : l.length = 1
          · exact rtext_5c1 x neg l e w h1 hl he1 he2 htab f (by omega)
          · exact rtext_5cm x neg l e w h1 hl he1 he2 htab (by omega) (by omega)
    · by_cases c : l.length = 1
      · exact absurd c (by omega)
      · exact rtext_5bm x neg l e w h1 hl he1 he2 htab (by omega) (by omega) (by omega)
end Go.Proofs.YtabmalnandbocaaGreatDoor.Num
namespace Go.Proofs.YtabmalnandbocaaGreatDoor.Num
set_option exponentiation.threshold 3000
set_option linter.unusedVariables false
theorem tabIs_of_third {P : Program} {W : World} {n1 n2 name : String} {d1 d2 : DataW Unit} {k : IntKind} {zs : List Int} {rest : List (String × DataW Unit)} {g : Nat} {t e : TypeId} {n : Nat}
    (hg : P.globalNamed name = some g) (hty : (P.globals[g]?).map (·.type) = some t) (ht : P.underlying t = some (.array n e)) (he : P.underlying e = some (.int k)) (hce : P.cellsOf e = 1) (hct : P.cellsOf t = n)
    (h : laidMet P ((n1, d1) :: (n2, d2) :: (name, Lib.tabData k zs) :: rest) W) : Lib.TabIs P W name k zs := by
  obtain ⟨ps, ⟨_, _, _, _, _, _, _, _, _, _, ⟨_, _, _, _, _, _, _, _, _, _, ⟨g', t', cs, fuel, p, q, hg', ht', hvar, hd, _, _⟩, _⟩, _⟩, _⟩ := h
  obtain rfl := Option.some.inj (hg.symm.trans hg')
  obtain rfl := Option.some.inj (hty.symm.trans ht')
  unfold Lib.TabIs
  rw [hvar, ← Lib.cells_of_tab ht he hce hct hd]
theorem tens_of {W : World} {rest : List (String × DataW Unit)} (h : laidMet Tryz.prog (("math/bits.deBruijn32tab", Rows.laid_math_bits_deBruijn32tab) :: ("math/bits.deBruijn64tab", Rows.laid_math_bits_deBruijn64tab) :: ("internal/strconv.uint64pow10", Rows.laid_internal_strconv_uint64pow10) :: rest) W) : Tens W :=
  tabIs_of_third (g := 2) (t := 163) (e := 22) (n := 20) (by kernel_rfl) (by kernel_rfl) Tryz.underlying163 Tryz.underlying22 (by kernel_rfl) (by kernel_rfl)
    (show laidMet Tryz.prog (("math/bits.deBruijn32tab", Rows.laid_math_bits_deBruijn32tab) :: ("math/bits.deBruijn64tab", Rows.laid_math_bits_deBruijn64tab) :: ("internal/strconv.uint64pow10", Lib.tabData .u64 Lib.pow10Tab) :: rest) W from h)
end Go.Proofs.YtabmalnandbocaaGreatDoor.Num
namespace Go.Proofs.YtabmalnandbocaaGreatDoor.Num
set_option exponentiation.threshold 3000
set_option linter.unusedVariables false
set_option linter.unusedSimpArgs false
set_option exponentiation.threshold 3000
open Go.RowKit Go.Proofs.YtabmalnandbocaaGreatDoor.Mem Go.Proofs.YtabmalnandbocaaGreatDoor.Own Go.Proofs.YtabmalnandbocaaGreatDoor.Big Go.Proofs.YtabmalnandbocaaGreatDoor.Str
open Ieee (double single)
def LwPost (w : World) (en : Ending) (w' : World) : Prop := en = .returned (.bool true) ∧ Below w.heap.size w w'
/-- A text with what goes with it. -/
def TePost (w : World) (l : List UInt8) (e : Int) (en : Ending) (w' : World) : Prop := en = .returned (.tuple #[.string ⟨l.toArray⟩, .int .i64 e]) ∧ Below w.heap.size w w'
set_option maxHeartbeats 4000000 in
set_option maxRecDepth 100000 in
theorem text_bad (x : Nat) (w : World) (h1 : ∀ W, Calls Tryz.prog 13 #[.float .f64 x] W (DxPost W (.agg #[.bool false, .string ⟨([] : List UInt8).toArray⟩, .int .i64 0]) 130)) :
    Calls Tryz.prog 9 #[.float .f64 x] w (TePost w [] 130) := by
  have HD := Lib.hid h1
  clear h1
  go_enter Tryz.func9, Tryz.ntmps9
  go_wp2_with fail
  refine (HD.out _).mono ?_
  rintro en w1 ⟨rfl, b1⟩
  have B1 := Lib.hid (b1.alloc b1.size (.cells #[.bool false, .string ⟨([] : List UInt8).toArray⟩, .int .i64 0] 32))
  clear b1
  go_wp2_with fail
  go_ret2
  exact ⟨rfl, B1.out⟩
set_option maxHeartbeats 4000000 in
set_option maxRecDepth 100000 in
theorem rtext_bad (x : Nat) (w : World) (h1 : ∀ W, Calls Tryz.prog 21 #[.float .f64 x] W (DxPost W (.agg #[.bool false, .string ⟨([] : List UInt8).toArray⟩, .int .i64 0]) 130)) :
    Calls Tryz.prog 10 #[.float .f64 x] w (TePost w [] 130) := by
  have HD := Lib.hid h1
  clear h1
  go_enter Tryz.func10, Tryz.ntmps10
  go_wp2_with fail
  refine (HD.out _).mono ?_
  rintro en w1 ⟨rfl, b1⟩
  have B1 := Lib.hid (b1.alloc b1.size (.cells #[.bool false, .string ⟨([] : List UInt8).toArray⟩, .int .i64 0] 32))
  clear b1
  go_wp2_with fail
  go_ret2
  exact ⟨rfl, B1.out⟩
theorem dl_len {k : Nat} (hk : k < double.infRung) : (dL k).length ≤ 3000 ∧ -9000 ≤ dE k ∧ dE k ≤ 9000 := by
  have h17 := dig_17 hk
  refine ⟨by omega, ?_⟩
  obtain ⟨b1, b2, b3⟩ := ex_bounds hk
  cases hd : digF k with
  | none => rw [(dL_none hd).2]; omega
  | some p =>
    obtain ⟨n, u⟩ := p
    obtain ⟨a, b, c, d, f⟩ := pickF_some hd
    have hc : Canon (exL k) := told_canon _
    have h0 := cN_pos hc a (by omega) u
    have hz := tz_lt h0 (cN_le hc n u)
    rw [(dL_len hd).2]
    unfold cE te
    rw [if_neg h0]
    omega
theorem dE_bd {k : Nat} (hk : k < double.infRung) : -9000 ≤ dE k ∧ dE k ≤ 9000 := (dl_len hk).2
theorem text_yes (s : Bool) (k : Nat) (w : World) (hk : k < double.infRung) (ht : Tens w) : Calls Tryz.prog 9 #[.float .f64 (double.word s k)] w (TePost w (writeF s (dL k) (dE k)) 0) := by
  obtain ⟨a, b, c⟩ := dl_len hk
  exact text_any _ s (dL k) (dE k) w (fun W => digits_yes s k W hk) a b c ht
theorem rtext_yes (s : Bool) (k : Nat) (w : World) (hk : k < double.infRung) (ht : Tens w) : Calls Tryz.prog 10 #[.float .f64 (double.word s k)] w (TePost w (writeF s (dL k) (dE k)) 0) := by
  obtain ⟨a, b, c⟩ := dl_len hk
  exact rtext_any _ s (dL k) (dE k) w (fun W => rdigits_yes s k W hk) a b c ht
theorem text_nano (w : World) (ht : Tens w) : Calls Tryz.prog 9 #[.float .f64 13696987496304380986] w (TePost w [45, 49, 46, 50, 53, 101, 45, 57] 0) := by
  have h := text_yes true 4473615459449605178 w (by decide) ht
  rw [nano_w] at h
  exact h
theorem text_half (w : World) (ht : Tens w) : Calls Tryz.prog 9 #[.float .f64 4602678819172646912] w (TePost w [48, 46, 53] 0) := by
  have h := text_yes false 4602678819172646912 w (by decide) ht
  rw [half_wr] at h
  exact h
set_option maxHeartbeats 4000000 in
set_option maxRecDepth 100000 in
theorem shortestTexts_any (x : Nat) (l : List UInt8) (e : Int) (w : World) (hx : x < 18446744073709551616) (ht : Tens w)
    (h1 : ∀ W, Tens W → Calls Tryz.prog 9 #[.float .f64 x] W (TePost W l e))
    (h2 : ∀ W, Tens W → Calls Tryz.prog 10 #[.float .f64 x] W (TePost W l e)) :
    Calls Tryz.prog 3 #[.int .u64 (x : Nat)] w (LwPost w) := by
  have hfb := frombits_run x
  have H1 := Lib.hid h1
  have H2 := Lib.hid h2
  have HT := Lib.hid ht
  clear h1 h2 ht
  go_enter Tryz.func3, Tryz.ntmps3
  go_wp2_with fail
  refine (text_nano _ HT.out).mono ?_
  rintro en w1 ⟨rfl, b1⟩
  have B1 := Lib.hid b1
  have HT1 := Lib.hid (HT.out.below b1)
  clear b1
  go_wp2_with fail
  refine (H1.out _ HT1.out).mono ?_
  rintro en w2 ⟨rfl, b2⟩
  have B2 := Lib.hid (bthen B1.out b2)
  have HT2 := Lib.hid (HT1.out.below b2)
  clear b2
  go_wp2_with fail
  refine (H2.out _ HT2.out).mono ?_
  rintro en w3 ⟨rfl, b3⟩
  have B3 := Lib.hid (bthen B2.out b3)
  clear b3
  go_wp2_with fail
  go_ret
  exact ⟨rfl, B3.out⟩
theorem shortestTexts_w (x : Nat) (w : World) (hx : x < 18446744073709551616) (ht : Tens w) : Calls Tryz.prog 3 #[.int .u64 (x : Nat)] w (LwPost w) := by
  obtain ⟨s, n, hn, rfl⟩ := Rung.word_of (f := double) (x := x) (Nat.lt_of_lt_of_le hx (by decide))
  by_cases h : n < double.infRung
  · exact shortestTexts_any _ _ 0 w hx ht (fun W hW => text_yes s n W h hW) (fun W hW => rtext_yes s n W h hW)
  · exact shortestTexts_any _ [] 130 w hx ht (fun W _ => text_bad _ W (fun W => digits_no s n W (by omega) hn)) (fun W _ => rtext_bad _ W (fun W => rdigits_no s n W (by omega) hn))
end Go.Proofs.YtabmalnandbocaaGreatDoor.Num
