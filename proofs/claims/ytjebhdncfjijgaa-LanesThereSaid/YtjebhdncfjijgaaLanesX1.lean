/- The stage's theorem of layer 1: its walk, for two ways of turning (printed by gen_there.py beside it). -/
import Derived.Test.YtjebhdncfjijgaaLanesU
import Derived.Test.YtjebhdncfjijgaaLanesX
import Derived.Deep.RegionHeld3
import Derived.Deep.DrawnRows
namespace Go.Proofs.Ytjebhdncfjijgaa.Lanes
set_option linter.unusedVariables false
set_option linter.unusedSimpArgs false
open Go.RowKit Go.Proofs.Ytjebhdncfjijgaa.Bytes
attribute [local go_sem ↓] Go.wp_at_zero Go.wp_at_succ


set_option maxHeartbeats 8000000 in
set_option maxRecDepth 100000 in
theorem there_2 (b0 b1 b2 b3 b4 b5 b6 b7 x : Nat) (k : Int) (hb : b0 < 256 ∧ b1 < 256 ∧ b2 < 256 ∧ b3 < 256 ∧ b4 < 256 ∧ b5 < 256 ∧ b6 < 256 ∧ b7 < 256) (hx : x < 18446744073709551616) (hk : (wrap64 (k.tmod 8 + 8)).tmod 8 = 2) (w : World) :
    Calls Try.prog 9 #[.agg #[.int .u8 b0, .int .u8 b1, .int .u8 b2, .int .u8 b3, .int .u8 b4, .int .u8 b5, .int .u8 b6, .int .u8 b7], .int .u64 x, .int .i64 k] w fun e w' => e = .returned (.bool true) ∧ Below w.heap.size w w' := by
  have heq := fun (b0 b1 b2 b3 b4 b5 b6 b7 : Int) (w : World) => eq8 b0 b1 b2 b3 b4 b5 b6 b7 w
  have H1 := Lib.hid (load_pk hb)
  have H2 := Lib.hid (load_bytes x hx)
  have HX := pk_lt hb
  obtain ⟨y0, y1, y2, y3, y4, y5, y6, y7⟩ := byte_pk hb
  have HS := Lib.hid (And.intro y0 (And.intro y1 (And.intro y2 (And.intro y3 (And.intro y4 (And.intro y5 (And.intro y6 y7)))))))
  clear y0 y1 y2 y3 y4 y5 y6 y7
  have st : Ending.returned (.agg #[.int .u8 (byteN (pk b0 b1 b2 b3 b4 b5 b6 b7) 0), .int .u8 (byteN (pk b0 b1 b2 b3 b4 b5 b6 b7) 1), .int .u8 (byteN (pk b0 b1 b2 b3 b4 b5 b6 b7) 2), .int .u8 (byteN (pk b0 b1 b2 b3 b4 b5 b6 b7) 3), .int .u8 (byteN (pk b0 b1 b2 b3 b4 b5 b6 b7) 4), .int .u8 (byteN (pk b0 b1 b2 b3 b4 b5 b6 b7) 5), .int .u8 (byteN (pk b0 b1 b2 b3 b4 b5 b6 b7) 6), .int .u8 (byteN (pk b0 b1 b2 b3 b4 b5 b6 b7) 7)]) = Ending.returned (.agg #[.int .u8 b0, .int .u8 b1, .int .u8 b2, .int .u8 b3, .int .u8 b4, .int .u8 b5, .int .u8 b6, .int .u8 b7]) := by
    rw [HS.out.1, HS.out.2.1, HS.out.2.2.1, HS.out.2.2.2.1, HS.out.2.2.2.2.1, HS.out.2.2.2.2.2.1, HS.out.2.2.2.2.2.2.1, HS.out.2.2.2.2.2.2.2]
  have ST := Lib.hid st
  clear st
  have hstore : ∀ W : World, Calls Try.prog 21 #[.int .u64 (pk b0 b1 b2 b3 b4 b5 b6 b7 : Nat)] W fun e w' => e = .returned (.agg #[.int .u8 b0, .int .u8 b1, .int .u8 b2, .int .u8 b3, .int .u8 b4, .int .u8 b5, .int .u8 b6, .int .u8 b7]) ∧ Below W.heap.size W w' := fun W => (store_w _ HX W).mono fun e w' h => ⟨h.1.trans ST.out, h.2⟩
  have HST := Lib.hid hstore
  clear hstore
  have HK := Lib.hid hk
  clear hk
  go_enter Try.func9, Try.ntmps9
  go_wp2_with fail
  go_region_held3 (fun w' => w.heap.size < w'.heap.size ∧ w'.cell? ⟨w.heap.size, 0, none⟩ = some (.int .u8 b0) ∧ w'.cell? ⟨w.heap.size, 1, none⟩ = some (.int .u8 b1) ∧ w'.cell? ⟨w.heap.size, 2, none⟩ = some (.int .u8 b2) ∧ w'.cell? ⟨w.heap.size, 3, none⟩ = some (.int .u8 b3) ∧ w'.cell? ⟨w.heap.size, 4, none⟩ = some (.int .u8 b4) ∧ w'.cell? ⟨w.heap.size, 5, none⟩ = some (.int .u8 b5) ∧ w'.cell? ⟨w.heap.size, 6, none⟩ = some (.int .u8 b6) ∧ w'.cell? ⟨w.heap.size, 7, none⟩ = some (.int .u8 b7)) ((go_split_ands; refine ⟨?_, ?_, ?_, ?_, ?_, ?_, ?_, ?_, ?_⟩ <;> first | omega | go_keep))
    (first
    | (go_at_call 29; (with_reducible refine (awake_any _).mono ?_); rintro e w1 ⟨rfl, hb1⟩; have hz1 := hb1.size; obtain ⟨hcc1, hff1⟩ := bcell hb1)
    | (go_at_call 19; (with_reducible refine (load_w b0 b1 b2 b3 b4 b5 b6 b7 _).mono ?_); rintro e w1 ⟨rfl, hb2⟩; have hz2 := hb2.size; obtain ⟨hcc2, hff2⟩ := bcell hb2; rw [H1.out])
    | (go_at_call 21; (with_reducible refine (HST.out _).mono ?_); rintro e w1 ⟨rfl, hb3⟩; have hz3 := hb3.size; obtain ⟨hcc3, hff3⟩ := bcell hb3)
    | (go_at_call 21; (with_reducible refine (store_w x hx _).mono ?_); rintro e w1 ⟨rfl, hb4⟩; have hz4 := hb4.size; obtain ⟨hcc4, hff4⟩ := bcell hb4)
    | (go_at_call 19; (with_reducible refine (load_w (byteN x 0) (byteN x 1) (byteN x 2) (byteN x 3) (byteN x 4) (byteN x 5) (byteN x 6) (byteN x 7) _).mono ?_); rintro e w1 ⟨rfl, hb5⟩; have hz5 := hb5.size; obtain ⟨hcc5, hff5⟩ := bcell hb5; rw [H2.out]))
  go_wp2_with fail
  rw [HK.out]
  rw [show (x : Int) % 256 = ((x % 256 : Nat) : Int) by omega]
  have hcl : x % 256 < 256 := Nat.mod_lt _ (by decide)
  generalize x % 256 = c at *
  have hgt : w.heap.size < w1.heap.size := by omega
  have hgt1 : w.heap.size < w1.heap.size + 1 := by omega
  have H3 := Lib.hid (load_pk (a0 := b1) (a1 := b0) (a2 := b7) (a3 := b6) (a4 := b5) (a5 := b4) (a6 := b3) (a7 := b2) (by omega))
  have G := bthen (bthen (bthen (bthen hb1 hb2) hb3) hb4) hb5
  have c0c : w1.cell? ⟨w.heap.size, 0, none⟩ = some (.int .u8 b0) := (G.cell (p := ⟨w.heap.size, 0, none⟩) (by simp)).trans (cell_of_row _ _ _ _ _ _ (heap_alloc_new w _))
  have c1c : w1.cell? ⟨w.heap.size, 1, none⟩ = some (.int .u8 b1) := (G.cell (p := ⟨w.heap.size, 1, none⟩) (by simp)).trans (cell_of_row _ _ _ _ _ _ (heap_alloc_new w _))
  have c2c : w1.cell? ⟨w.heap.size, 2, none⟩ = some (.int .u8 b2) := (G.cell (p := ⟨w.heap.size, 2, none⟩) (by simp)).trans (cell_of_row _ _ _ _ _ _ (heap_alloc_new w _))
  have c3c : w1.cell? ⟨w.heap.size, 3, none⟩ = some (.int .u8 b3) := (G.cell (p := ⟨w.heap.size, 3, none⟩) (by simp)).trans (cell_of_row _ _ _ _ _ _ (heap_alloc_new w _))
  have c4c : w1.cell? ⟨w.heap.size, 4, none⟩ = some (.int .u8 b4) := (G.cell (p := ⟨w.heap.size, 4, none⟩) (by simp)).trans (cell_of_row _ _ _ _ _ _ (heap_alloc_new w _))
  have c5c : w1.cell? ⟨w.heap.size, 5, none⟩ = some (.int .u8 b5) := (G.cell (p := ⟨w.heap.size, 5, none⟩) (by simp)).trans (cell_of_row _ _ _ _ _ _ (heap_alloc_new w _))
  have c6c : w1.cell? ⟨w.heap.size, 6, none⟩ = some (.int .u8 b6) := (G.cell (p := ⟨w.heap.size, 6, none⟩) (by simp)).trans (cell_of_row _ _ _ _ _ _ (heap_alloc_new w _))
  have c7c : w1.cell? ⟨w.heap.size, 7, none⟩ = some (.int .u8 b7) := (G.cell (p := ⟨w.heap.size, 7, none⟩) (by simp)).trans (cell_of_row _ _ _ _ _ _ (heap_alloc_new w _))
  have hgs := G.size
  clear hb1 hb2 hb3 hb4 hb5 hz1 hz2 hz3 hz4 hz5 hcc1 hcc2 hcc3 hcc4 hcc5 hff1 hff2 hff3 hff4 hff5
  refine wp_loop_rounds 9 ?_
  iterate 8 (rw [rounds_succ]; go_wp2_with fail)
  rw [rounds_succ]; go_wp2_with fail
  go_region_held3 (fun w' => w1.heap.size < w'.heap.size ∧ w'.cell? ⟨w.heap.size, 0, none⟩ = some (.int .u8 b0) ∧ w'.cell? ⟨w.heap.size, 1, none⟩ = some (.int .u8 b1) ∧ w'.cell? ⟨w.heap.size, 2, none⟩ = some (.int .u8 b2) ∧ w'.cell? ⟨w.heap.size, 3, none⟩ = some (.int .u8 b3) ∧ w'.cell? ⟨w.heap.size, 4, none⟩ = some (.int .u8 b4) ∧ w'.cell? ⟨w.heap.size, 5, none⟩ = some (.int .u8 b5) ∧ w'.cell? ⟨w.heap.size, 6, none⟩ = some (.int .u8 b6) ∧ w'.cell? ⟨w.heap.size, 7, none⟩ = some (.int .u8 b7) ∧ w'.cell? ⟨w1.heap.size, 0, none⟩ = some (.int .u8 b1) ∧ w'.cell? ⟨w1.heap.size, 1, none⟩ = some (.int .u8 b0) ∧ w'.cell? ⟨w1.heap.size, 2, none⟩ = some (.int .u8 b7) ∧ w'.cell? ⟨w1.heap.size, 3, none⟩ = some (.int .u8 b6) ∧ w'.cell? ⟨w1.heap.size, 4, none⟩ = some (.int .u8 b5) ∧ w'.cell? ⟨w1.heap.size, 5, none⟩ = some (.int .u8 b4) ∧ w'.cell? ⟨w1.heap.size, 6, none⟩ = some (.int .u8 b3) ∧ w'.cell? ⟨w1.heap.size, 7, none⟩ = some (.int .u8 b2)) ((go_split_ands; refine ⟨(by first | omega | go_keep), ?_, ?_, ?_, ?_, ?_, ?_, ?_, ?_, ?_, ?_, ?_, ?_, ?_, ?_, ?_, ?_⟩ <;> go_keep))
    (first
    | (go_at_call 19; (with_reducible refine (load_w b0 b1 b2 b3 b4 b5 b6 b7 _).mono ?_); rintro e w2 ⟨rfl, hb2⟩; have hz2 := hb2.size; (try simp at hz2); have hq2 : w.heap.size < w2.heap.size := (by omega); have hp2 : w1.heap.size < w2.heap.size := (by omega); obtain ⟨hcc2, hff2⟩ := bcell hb2; rw [H1.out])
    | (go_at_call 19; (with_reducible refine (load_w b1 b0 b7 b6 b5 b4 b3 b2 _).mono ?_); rintro e w2 ⟨rfl, hb3⟩; have hz3 := hb3.size; (try simp at hz3); have hq3 : w.heap.size < w2.heap.size := (by omega); have hp3 : w1.heap.size < w2.heap.size := (by omega); obtain ⟨hcc3, hff3⟩ := bcell hb3; rw [H3.out]))
  have hW := bthen (bthen (bthen (bthen ((Below.refl w.heap.size w).alloc (Nat.le_refl _) _).drew G) (((Below.refl w1.heap.size w1).alloc (Nat.le_refl _) _).drew)) hb2) hb3
  clear hb2 hb3 hz2 hz3 hcc2 hcc3 hff2 hff3 hq2 hq3 hp2 hp3 c0c c1c c2c c3c c4c c5c c6c c7c G hgs hgt hgt1
  go_wp2_with fail
  have hbY : b1 < 256 ∧ b0 < 256 ∧ b7 < 256 ∧ b6 < 256 ∧ b5 < 256 ∧ b4 < 256 ∧ b3 < 256 ∧ b2 < 256 := by omega
  have HY := pk_lt hbY
  have HSX := Lib.hid ((sum_pk hb).trans (by omega : ((b0 + b1 + b2 + b3 + b4 + b5 + b6 + b7 : Nat) : Int) = ((b0 + b1 + b2 + b3 + b4 + b5 + b6 + b7 : Nat) : Int)))
  have HSY := Lib.hid ((sum_pk hbY).trans (by omega : ((b1 + b0 + b7 + b6 + b5 + b4 + b3 + b2 : Nat) : Int) = ((b0 + b1 + b2 + b3 + b4 + b5 + b6 + b7 : Nat) : Int)))
  have FEX := Lib.hid (fun j hj => atE _ c j HX hcl hj)
  have FBX := Lib.hid (fun j hj => atB _ c j HX hcl hj)
  have FLX := Lib.hid (fun j hj => atL (pk b0 b1 b2 b3 b4 b5 b6 b7) (IntKind.i8.wrap c) j hj)
  have FEY := Lib.hid (fun j hj => atE _ c j HY hcl hj)
  have FBY := Lib.hid (fun j hj => atB _ c j HY hcl hj)
  have FLY := Lib.hid (fun j hj => atL (pk b1 b0 b7 b6 b5 b4 b3 b2) (IntKind.i8.wrap c) j hj)
  obtain ⟨e0, e1, e2, e3, e4, e5, e6, e7⟩ := byte_pk hb
  obtain ⟨f0, f1, f2, f3, f4, f5, f6, f7⟩ := byte_pk hbY
  have XB := Lib.hid (And.intro e0 (And.intro e1 (And.intro e2 (And.intro e3 (And.intro e4 (And.intro e5 (And.intro e6 e7)))))))
  have YB := Lib.hid (And.intro f0 (And.intro f1 (And.intro f2 (And.intro f3 (And.intro f4 (And.intro f5 (And.intro f6 f7)))))))
  clear e0 e1 e2 e3 e4 e5 e6 e7 f0 f1 f2 f3 f4 f5 f6 f7 HST HS ST H1 H2 H3
  generalize pk b0 b1 b2 b3 b4 b5 b6 b7 = X at *
  generalize pk b1 b0 b7 b6 b5 b4 b3 b2 = Y at *
  go_loopw [12] (fun i wr => ∃ j : Nat, j ≤ 8 ∧ i = .int .i64 j ∧ Below w.heap.size w wr) (fun i _ => 8 - (intOf i).toNat)
  case atStart => exact ⟨0, by omega, rfl, hW⟩
  case round =>
    obtain ⟨j, hj, rfl, hWr⟩ := hrel
    by_cases hlt : j < 8
    · have : j = 0 ∨ j = 1 ∨ j = 2 ∨ j = 3 ∨ j = 4 ∨ j = 5 ∨ j = 6 ∨ j = 7 := by omega
      clear hlt hj
      rcases this with rfl | rfl | rfl | rfl | rfl | rfl | rfl | rfl
      · have ge : (bits .and .u8 (topsI (sameI X c)) 1 != 0) = _ := FEX.out 0 (by omega)
        have gb : (bits .and .u8 (topsI (lessI X (fillI c))) 1 != 0) = _ := FBX.out 0 (by omega)
        have gl : (bits .and .u8 (low (lessB X (IntKind.i8.wrap c)) 8 : Nat) 1 != 0) = _ := FLX.out 0 (by omega)
        have ge' : (bits .and .u8 (topsI (sameI Y c)) 2 != 0) = _ := FEY.out 1 (by omega)
        have gb' : (bits .and .u8 (topsI (lessI Y (fillI c))) 2 != 0) = _ := FBY.out 1 (by omega)
        have gl' : (bits .and .u8 (low (lessB Y (IntKind.i8.wrap c)) 8 : Nat) 2 != 0) = _ := FLY.out 1 (by omega)
        rw [XB.out.1] at ge gb gl
        rw [YB.out.2.1] at ge' gb' gl'
        generalize decide (b0 = c) = q1 at *
        generalize decide (b0 < c) = q2 at *
        generalize decide (sgn b0 < IntKind.i8.wrap c) = q3 at *
        go_wp2_with fail
        go_quiet (fail)
        go_wp2_with fail
        refine (equal_w _ _ _).mono ?_; rintro e w3 ⟨rfl, rfl⟩
        go_wp2_with fail
        refine (equal_w _ _ _).mono ?_; rintro e w3 ⟨rfl, rfl⟩
        go_wp2_with fail
        refine (blw_w _ _ _).mono ?_; rintro e w3 ⟨rfl, rfl⟩
        go_wp2_with fail
        refine (blw_w _ _ _).mono ?_; rintro e w3 ⟨rfl, rfl⟩
        go_wp2_with fail
        refine (less_w X HX _ _).mono ?_; rintro e w3 ⟨rfl, hb3⟩
        go_wp2_with fail
        refine (less_w Y HY _ _).mono ?_; rintro e w4 ⟨rfl, hb4⟩
        go_wp2_with fail
        go_roundw
        case rel => exact ⟨1, by omega, rfl, bthen (bthen (bdrewN hWr _) hb3) hb4⟩
        case measure => simp [intOf]
      · have ge : (bits .and .u8 (topsI (sameI X c)) 2 != 0) = _ := FEX.out 1 (by omega)
        have gb : (bits .and .u8 (topsI (lessI X (fillI c))) 2 != 0) = _ := FBX.out 1 (by omega)
        have gl : (bits .and .u8 (low (lessB X (IntKind.i8.wrap c)) 8 : Nat) 2 != 0) = _ := FLX.out 1 (by omega)
        have ge' : (bits .and .u8 (topsI (sameI Y c)) 1 != 0) = _ := FEY.out 0 (by omega)
        have gb' : (bits .and .u8 (topsI (lessI Y (fillI c))) 1 != 0) = _ := FBY.out 0 (by omega)
        have gl' : (bits .and .u8 (low (lessB Y (IntKind.i8.wrap c)) 8 : Nat) 1 != 0) = _ := FLY.out 0 (by omega)
        rw [XB.out.2.1] at ge gb gl
        rw [YB.out.1] at ge' gb' gl'
        generalize decide (b1 = c) = q1 at *
        generalize decide (b1 < c) = q2 at *
        generalize decide (sgn b1 < IntKind.i8.wrap c) = q3 at *
        go_wp2_with fail
        go_quiet (fail)
        go_wp2_with fail
        refine (equal_w _ _ _).mono ?_; rintro e w3 ⟨rfl, rfl⟩
        go_wp2_with fail
        refine (equal_w _ _ _).mono ?_; rintro e w3 ⟨rfl, rfl⟩
        go_wp2_with fail
        refine (blw_w _ _ _).mono ?_; rintro e w3 ⟨rfl, rfl⟩
        go_wp2_with fail
        refine (blw_w _ _ _).mono ?_; rintro e w3 ⟨rfl, rfl⟩
        go_wp2_with fail
        refine (less_w X HX _ _).mono ?_; rintro e w3 ⟨rfl, hb3⟩
        go_wp2_with fail
        refine (less_w Y HY _ _).mono ?_; rintro e w4 ⟨rfl, hb4⟩
        go_wp2_with fail
        go_roundw
        case rel => exact ⟨2, by omega, rfl, bthen (bthen (bdrewN hWr _) hb3) hb4⟩
        case measure => simp [intOf]
      · have ge : (bits .and .u8 (topsI (sameI X c)) 4 != 0) = _ := FEX.out 2 (by omega)
        have gb : (bits .and .u8 (topsI (lessI X (fillI c))) 4 != 0) = _ := FBX.out 2 (by omega)
        have gl : (bits .and .u8 (low (lessB X (IntKind.i8.wrap c)) 8 : Nat) 4 != 0) = _ := FLX.out 2 (by omega)
        have ge' : (bits .and .u8 (topsI (sameI Y c)) 128 != 0) = _ := FEY.out 7 (by omega)
        have gb' : (bits .and .u8 (topsI (lessI Y (fillI c))) 128 != 0) = _ := FBY.out 7 (by omega)
        have gl' : (bits .and .u8 (low (lessB Y (IntKind.i8.wrap c)) 8 : Nat) 128 != 0) = _ := FLY.out 7 (by omega)
        rw [XB.out.2.2.1] at ge gb gl
        rw [YB.out.2.2.2.2.2.2.2] at ge' gb' gl'
        generalize decide (b2 = c) = q1 at *
        generalize decide (b2 < c) = q2 at *
        generalize decide (sgn b2 < IntKind.i8.wrap c) = q3 at *
        go_wp2_with fail
        go_quiet (fail)
        go_wp2_with fail
        refine (equal_w _ _ _).mono ?_; rintro e w3 ⟨rfl, rfl⟩
        go_wp2_with fail
        refine (equal_w _ _ _).mono ?_; rintro e w3 ⟨rfl, rfl⟩
        go_wp2_with fail
        refine (blw_w _ _ _).mono ?_; rintro e w3 ⟨rfl, rfl⟩
        go_wp2_with fail
        refine (blw_w _ _ _).mono ?_; rintro e w3 ⟨rfl, rfl⟩
        go_wp2_with fail
        refine (less_w X HX _ _).mono ?_; rintro e w3 ⟨rfl, hb3⟩
        go_wp2_with fail
        refine (less_w Y HY _ _).mono ?_; rintro e w4 ⟨rfl, hb4⟩
        go_wp2_with fail
        go_roundw
        case rel => exact ⟨3, by omega, rfl, bthen (bthen (bdrewN hWr _) hb3) hb4⟩
        case measure => simp [intOf]
      · have ge : (bits .and .u8 (topsI (sameI X c)) 8 != 0) = _ := FEX.out 3 (by omega)
        have gb : (bits .and .u8 (topsI (lessI X (fillI c))) 8 != 0) = _ := FBX.out 3 (by omega)
        have gl : (bits .and .u8 (low (lessB X (IntKind.i8.wrap c)) 8 : Nat) 8 != 0) = _ := FLX.out 3 (by omega)
        have ge' : (bits .and .u8 (topsI (sameI Y c)) 64 != 0) = _ := FEY.out 6 (by omega)
        have gb' : (bits .and .u8 (topsI (lessI Y (fillI c))) 64 != 0) = _ := FBY.out 6 (by omega)
        have gl' : (bits .and .u8 (low (lessB Y (IntKind.i8.wrap c)) 8 : Nat) 64 != 0) = _ := FLY.out 6 (by omega)
        rw [XB.out.2.2.2.1] at ge gb gl
        rw [YB.out.2.2.2.2.2.2.1] at ge' gb' gl'
        generalize decide (b3 = c) = q1 at *
        generalize decide (b3 < c) = q2 at *
        generalize decide (sgn b3 < IntKind.i8.wrap c) = q3 at *
        go_wp2_with fail
        go_quiet (fail)
        go_wp2_with fail
        refine (equal_w _ _ _).mono ?_; rintro e w3 ⟨rfl, rfl⟩
        go_wp2_with fail
        refine (equal_w _ _ _).mono ?_; rintro e w3 ⟨rfl, rfl⟩
        go_wp2_with fail
        refine (blw_w _ _ _).mono ?_; rintro e w3 ⟨rfl, rfl⟩
        go_wp2_with fail
        refine (blw_w _ _ _).mono ?_; rintro e w3 ⟨rfl, rfl⟩
        go_wp2_with fail
        refine (less_w X HX _ _).mono ?_; rintro e w3 ⟨rfl, hb3⟩
        go_wp2_with fail
        refine (less_w Y HY _ _).mono ?_; rintro e w4 ⟨rfl, hb4⟩
        go_wp2_with fail
        go_roundw
        case rel => exact ⟨4, by omega, rfl, bthen (bthen (bdrewN hWr _) hb3) hb4⟩
        case measure => simp [intOf]
      · have ge : (bits .and .u8 (topsI (sameI X c)) 16 != 0) = _ := FEX.out 4 (by omega)
        have gb : (bits .and .u8 (topsI (lessI X (fillI c))) 16 != 0) = _ := FBX.out 4 (by omega)
        have gl : (bits .and .u8 (low (lessB X (IntKind.i8.wrap c)) 8 : Nat) 16 != 0) = _ := FLX.out 4 (by omega)
        have ge' : (bits .and .u8 (topsI (sameI Y c)) 32 != 0) = _ := FEY.out 5 (by omega)
        have gb' : (bits .and .u8 (topsI (lessI Y (fillI c))) 32 != 0) = _ := FBY.out 5 (by omega)
        have gl' : (bits .and .u8 (low (lessB Y (IntKind.i8.wrap c)) 8 : Nat) 32 != 0) = _ := FLY.out 5 (by omega)
        rw [XB.out.2.2.2.2.1] at ge gb gl
        rw [YB.out.2.2.2.2.2.1] at ge' gb' gl'
        generalize decide (b4 = c) = q1 at *
        generalize decide (b4 < c) = q2 at *
        generalize decide (sgn b4 < IntKind.i8.wrap c) = q3 at *
        go_wp2_with fail
        go_quiet (fail)
        go_wp2_with fail
        refine (equal_w _ _ _).mono ?_; rintro e w3 ⟨rfl, rfl⟩
        go_wp2_with fail
        refine (equal_w _ _ _).mono ?_; rintro e w3 ⟨rfl, rfl⟩
        go_wp2_with fail
        refine (blw_w _ _ _).mono ?_; rintro e w3 ⟨rfl, rfl⟩
        go_wp2_with fail
        refine (blw_w _ _ _).mono ?_; rintro e w3 ⟨rfl, rfl⟩
        go_wp2_with fail
        refine (less_w X HX _ _).mono ?_; rintro e w3 ⟨rfl, hb3⟩
        go_wp2_with fail
        refine (less_w Y HY _ _).mono ?_; rintro e w4 ⟨rfl, hb4⟩
        go_wp2_with fail
        go_roundw
        case rel => exact ⟨5, by omega, rfl, bthen (bthen (bdrewN hWr _) hb3) hb4⟩
        case measure => simp [intOf]
      · have ge : (bits .and .u8 (topsI (sameI X c)) 32 != 0) = _ := FEX.out 5 (by omega)
        have gb : (bits .and .u8 (topsI (lessI X (fillI c))) 32 != 0) = _ := FBX.out 5 (by omega)
        have gl : (bits .and .u8 (low (lessB X (IntKind.i8.wrap c)) 8 : Nat) 32 != 0) = _ := FLX.out 5 (by omega)
        have ge' : (bits .and .u8 (topsI (sameI Y c)) 16 != 0) = _ := FEY.out 4 (by omega)
        have gb' : (bits .and .u8 (topsI (lessI Y (fillI c))) 16 != 0) = _ := FBY.out 4 (by omega)
        have gl' : (bits .and .u8 (low (lessB Y (IntKind.i8.wrap c)) 8 : Nat) 16 != 0) = _ := FLY.out 4 (by omega)
        rw [XB.out.2.2.2.2.2.1] at ge gb gl
        rw [YB.out.2.2.2.2.1] at ge' gb' gl'
        generalize decide (b5 = c) = q1 at *
        generalize decide (b5 < c) = q2 at *
        generalize decide (sgn b5 < IntKind.i8.wrap c) = q3 at *
        go_wp2_with fail
        go_quiet (fail)
        go_wp2_with fail
        refine (equal_w _ _ _).mono ?_; rintro e w3 ⟨rfl, rfl⟩
        go_wp2_with fail
        refine (equal_w _ _ _).mono ?_; rintro e w3 ⟨rfl, rfl⟩
        go_wp2_with fail
        refine (blw_w _ _ _).mono ?_; rintro e w3 ⟨rfl, rfl⟩
        go_wp2_with fail
        refine (blw_w _ _ _).mono ?_; rintro e w3 ⟨rfl, rfl⟩
        go_wp2_with fail
        refine (less_w X HX _ _).mono ?_; rintro e w3 ⟨rfl, hb3⟩
        go_wp2_with fail
        refine (less_w Y HY _ _).mono ?_; rintro e w4 ⟨rfl, hb4⟩
        go_wp2_with fail
        go_roundw
        case rel => exact ⟨6, by omega, rfl, bthen (bthen (bdrewN hWr _) hb3) hb4⟩
        case measure => simp [intOf]
      · have ge : (bits .and .u8 (topsI (sameI X c)) 64 != 0) = _ := FEX.out 6 (by omega)
        have gb : (bits .and .u8 (topsI (lessI X (fillI c))) 64 != 0) = _ := FBX.out 6 (by omega)
        have gl : (bits .and .u8 (low (lessB X (IntKind.i8.wrap c)) 8 : Nat) 64 != 0) = _ := FLX.out 6 (by omega)
        have ge' : (bits .and .u8 (topsI (sameI Y c)) 8 != 0) = _ := FEY.out 3 (by omega)
        have gb' : (bits .and .u8 (topsI (lessI Y (fillI c))) 8 != 0) = _ := FBY.out 3 (by omega)
        have gl' : (bits .and .u8 (low (lessB Y (IntKind.i8.wrap c)) 8 : Nat) 8 != 0) = _ := FLY.out 3 (by omega)
        rw [XB.out.2.2.2.2.2.2.1] at ge gb gl
        rw [YB.out.2.2.2.1] at ge' gb' gl'
        generalize decide (b6 = c) = q1 at *
        generalize decide (b6 < c) = q2 at *
        generalize decide (sgn b6 < IntKind.i8.wrap c) = q3 at *
        go_wp2_with fail
        go_quiet (fail)
        go_wp2_with fail
        refine (equal_w _ _ _).mono ?_; rintro e w3 ⟨rfl, rfl⟩
        go_wp2_with fail
        refine (equal_w _ _ _).mono ?_; rintro e w3 ⟨rfl, rfl⟩
        go_wp2_with fail
        refine (blw_w _ _ _).mono ?_; rintro e w3 ⟨rfl, rfl⟩
        go_wp2_with fail
        refine (blw_w _ _ _).mono ?_; rintro e w3 ⟨rfl, rfl⟩
        go_wp2_with fail
        refine (less_w X HX _ _).mono ?_; rintro e w3 ⟨rfl, hb3⟩
        go_wp2_with fail
        refine (less_w Y HY _ _).mono ?_; rintro e w4 ⟨rfl, hb4⟩
        go_wp2_with fail
        go_roundw
        case rel => exact ⟨7, by omega, rfl, bthen (bthen (bdrewN hWr _) hb3) hb4⟩
        case measure => simp [intOf]
      · have ge : (bits .and .u8 (topsI (sameI X c)) 128 != 0) = _ := FEX.out 7 (by omega)
        have gb : (bits .and .u8 (topsI (lessI X (fillI c))) 128 != 0) = _ := FBX.out 7 (by omega)
        have gl : (bits .and .u8 (low (lessB X (IntKind.i8.wrap c)) 8 : Nat) 128 != 0) = _ := FLX.out 7 (by omega)
        have ge' : (bits .and .u8 (topsI (sameI Y c)) 4 != 0) = _ := FEY.out 2 (by omega)
        have gb' : (bits .and .u8 (topsI (lessI Y (fillI c))) 4 != 0) = _ := FBY.out 2 (by omega)
        have gl' : (bits .and .u8 (low (lessB Y (IntKind.i8.wrap c)) 8 : Nat) 4 != 0) = _ := FLY.out 2 (by omega)
        rw [XB.out.2.2.2.2.2.2.2] at ge gb gl
        rw [YB.out.2.2.1] at ge' gb' gl'
        generalize decide (b7 = c) = q1 at *
        generalize decide (b7 < c) = q2 at *
        generalize decide (sgn b7 < IntKind.i8.wrap c) = q3 at *
        go_wp2_with fail
        go_quiet (fail)
        go_wp2_with fail
        refine (equal_w _ _ _).mono ?_; rintro e w3 ⟨rfl, rfl⟩
        go_wp2_with fail
        refine (equal_w _ _ _).mono ?_; rintro e w3 ⟨rfl, rfl⟩
        go_wp2_with fail
        refine (blw_w _ _ _).mono ?_; rintro e w3 ⟨rfl, rfl⟩
        go_wp2_with fail
        refine (blw_w _ _ _).mono ?_; rintro e w3 ⟨rfl, rfl⟩
        go_wp2_with fail
        refine (less_w X HX _ _).mono ?_; rintro e w3 ⟨rfl, hb3⟩
        go_wp2_with fail
        refine (less_w Y HY _ _).mono ?_; rintro e w4 ⟨rfl, hb4⟩
        go_wp2_with fail
        go_roundw
        case rel => exact ⟨8, by omega, rfl, bthen (bthen (bdrewN hWr _) hb3) hb4⟩
        case measure => simp [intOf]
    · obtain rfl : j = 8 := by omega
      go_wp2_with fail
      refine (sum_w _ _).mono ?_; rintro e w3 ⟨rfl, rfl⟩
      rw [HSX.out]
      go_wp2_with fail
      refine (sum_w _ _).mono ?_; rintro e w3 ⟨rfl, rfl⟩
      rw [HSY.out]
      go_wp2_with fail
      go_ret
      exact ⟨by simp, hWr⟩

set_option maxHeartbeats 8000000 in
set_option maxRecDepth 100000 in
theorem there_3 (b0 b1 b2 b3 b4 b5 b6 b7 x : Nat) (k : Int) (hb : b0 < 256 ∧ b1 < 256 ∧ b2 < 256 ∧ b3 < 256 ∧ b4 < 256 ∧ b5 < 256 ∧ b6 < 256 ∧ b7 < 256) (hx : x < 18446744073709551616) (hk : (wrap64 (k.tmod 8 + 8)).tmod 8 = 3) (w : World) :
    Calls Try.prog 9 #[.agg #[.int .u8 b0, .int .u8 b1, .int .u8 b2, .int .u8 b3, .int .u8 b4, .int .u8 b5, .int .u8 b6, .int .u8 b7], .int .u64 x, .int .i64 k] w fun e w' => e = .returned (.bool true) ∧ Below w.heap.size w w' := by
  have heq := fun (b0 b1 b2 b3 b4 b5 b6 b7 : Int) (w : World) => eq8 b0 b1 b2 b3 b4 b5 b6 b7 w
  have H1 := Lib.hid (load_pk hb)
  have H2 := Lib.hid (load_bytes x hx)
  have HX := pk_lt hb
  obtain ⟨y0, y1, y2, y3, y4, y5, y6, y7⟩ := byte_pk hb
  have HS := Lib.hid (And.intro y0 (And.intro y1 (And.intro y2 (And.intro y3 (And.intro y4 (And.intro y5 (And.intro y6 y7)))))))
  clear y0 y1 y2 y3 y4 y5 y6 y7
  have st : Ending.returned (.agg #[.int .u8 (byteN (pk b0 b1 b2 b3 b4 b5 b6 b7) 0), .int .u8 (byteN (pk b0 b1 b2 b3 b4 b5 b6 b7) 1), .int .u8 (byteN (pk b0 b1 b2 b3 b4 b5 b6 b7) 2), .int .u8 (byteN (pk b0 b1 b2 b3 b4 b5 b6 b7) 3), .int .u8 (byteN (pk b0 b1 b2 b3 b4 b5 b6 b7) 4), .int .u8 (byteN (pk b0 b1 b2 b3 b4 b5 b6 b7) 5), .int .u8 (byteN (pk b0 b1 b2 b3 b4 b5 b6 b7) 6), .int .u8 (byteN (pk b0 b1 b2 b3 b4 b5 b6 b7) 7)]) = Ending.returned (.agg #[.int .u8 b0, .int .u8 b1, .int .u8 b2, .int .u8 b3, .int .u8 b4, .int .u8 b5, .int .u8 b6, .int .u8 b7]) := by
    rw [HS.out.1, HS.out.2.1, HS.out.2.2.1, HS.out.2.2.2.1, HS.out.2.2.2.2.1, HS.out.2.2.2.2.2.1, HS.out.2.2.2.2.2.2.1, HS.out.2.2.2.2.2.2.2]
  have ST := Lib.hid st
  clear st
  have hstore : ∀ W : World, Calls Try.prog 21 #[.int .u64 (pk b0 b1 b2 b3 b4 b5 b6 b7 : Nat)] W fun e w' => e = .returned (.agg #[.int .u8 b0, .int .u8 b1, .int .u8 b2, .int .u8 b3, .int .u8 b4, .int .u8 b5, .int .u8 b6, .int .u8 b7]) ∧ Below W.heap.size W w' := fun W => (store_w _ HX W).mono fun e w' h => ⟨h.1.trans ST.out, h.2⟩
  have HST := Lib.hid hstore
  clear hstore
  have HK := Lib.hid hk
  clear hk
  go_enter Try.func9, Try.ntmps9
  go_wp2_with fail
  go_region_held3 (fun w' => w.heap.size < w'.heap.size ∧ w'.cell? ⟨w.heap.size, 0, none⟩ = some (.int .u8 b0) ∧ w'.cell? ⟨w.heap.size, 1, none⟩ = some (.int .u8 b1) ∧ w'.cell? ⟨w.heap.size, 2, none⟩ = some (.int .u8 b2) ∧ w'.cell? ⟨w.heap.size, 3, none⟩ = some (.int .u8 b3) ∧ w'.cell? ⟨w.heap.size, 4, none⟩ = some (.int .u8 b4) ∧ w'.cell? ⟨w.heap.size, 5, none⟩ = some (.int .u8 b5) ∧ w'.cell? ⟨w.heap.size, 6, none⟩ = some (.int .u8 b6) ∧ w'.cell? ⟨w.heap.size, 7, none⟩ = some (.int .u8 b7)) ((go_split_ands; refine ⟨?_, ?_, ?_, ?_, ?_, ?_, ?_, ?_, ?_⟩ <;> first | omega | go_keep))
    (first
    | (go_at_call 29; (with_reducible refine (awake_any _).mono ?_); rintro e w1 ⟨rfl, hb1⟩; have hz1 := hb1.size; obtain ⟨hcc1, hff1⟩ := bcell hb1)
    | (go_at_call 19; (with_reducible refine (load_w b0 b1 b2 b3 b4 b5 b6 b7 _).mono ?_); rintro e w1 ⟨rfl, hb2⟩; have hz2 := hb2.size; obtain ⟨hcc2, hff2⟩ := bcell hb2; rw [H1.out])
    | (go_at_call 21; (with_reducible refine (HST.out _).mono ?_); rintro e w1 ⟨rfl, hb3⟩; have hz3 := hb3.size; obtain ⟨hcc3, hff3⟩ := bcell hb3)
    | (go_at_call 21; (with_reducible refine (store_w x hx _).mono ?_); rintro e w1 ⟨rfl, hb4⟩; have hz4 := hb4.size; obtain ⟨hcc4, hff4⟩ := bcell hb4)
    | (go_at_call 19; (with_reducible refine (load_w (byteN x 0) (byteN x 1) (byteN x 2) (byteN x 3) (byteN x 4) (byteN x 5) (byteN x 6) (byteN x 7) _).mono ?_); rintro e w1 ⟨rfl, hb5⟩; have hz5 := hb5.size; obtain ⟨hcc5, hff5⟩ := bcell hb5; rw [H2.out]))
  go_wp2_with fail
  rw [HK.out]
  rw [show (x : Int) % 256 = ((x % 256 : Nat) : Int) by omega]
  have hcl : x % 256 < 256 := Nat.mod_lt _ (by decide)
  generalize x % 256 = c at *
  have hgt : w.heap.size < w1.heap.size := by omega
  have hgt1 : w.heap.size < w1.heap.size + 1 := by omega
  have H3 := Lib.hid (load_pk (a0 := b2) (a1 := b1) (a2 := b0) (a3 := b7) (a4 := b6) (a5 := b5) (a6 := b4) (a7 := b3) (by omega))
  have G := bthen (bthen (bthen (bthen hb1 hb2) hb3) hb4) hb5
  have c0c : w1.cell? ⟨w.heap.size, 0, none⟩ = some (.int .u8 b0) := (G.cell (p := ⟨w.heap.size, 0, none⟩) (by simp)).trans (cell_of_row _ _ _ _ _ _ (heap_alloc_new w _))
  have c1c : w1.cell? ⟨w.heap.size, 1, none⟩ = some (.int .u8 b1) := (G.cell (p := ⟨w.heap.size, 1, none⟩) (by simp)).trans (cell_of_row _ _ _ _ _ _ (heap_alloc_new w _))
  have c2c : w1.cell? ⟨w.heap.size, 2, none⟩ = some (.int .u8 b2) := (G.cell (p := ⟨w.heap.size, 2, none⟩) (by simp)).trans (cell_of_row _ _ _ _ _ _ (heap_alloc_new w _))
  have c3c : w1.cell? ⟨w.heap.size, 3, none⟩ = some (.int .u8 b3) := (G.cell (p := ⟨w.heap.size, 3, none⟩) (by simp)).trans (cell_of_row _ _ _ _ _ _ (heap_alloc_new w _))
  have c4c : w1.cell? ⟨w.heap.size, 4, none⟩ = some (.int .u8 b4) := (G.cell (p := ⟨w.heap.size, 4, none⟩) (by simp)).trans (cell_of_row _ _ _ _ _ _ (heap_alloc_new w _))
  have c5c : w1.cell? ⟨w.heap.size, 5, none⟩ = some (.int .u8 b5) := (G.cell (p := ⟨w.heap.size, 5, none⟩) (by simp)).trans (cell_of_row _ _ _ _ _ _ (heap_alloc_new w _))
  have c6c : w1.cell? ⟨w.heap.size, 6, none⟩ = some (.int .u8 b6) := (G.cell (p := ⟨w.heap.size, 6, none⟩) (by simp)).trans (cell_of_row _ _ _ _ _ _ (heap_alloc_new w _))
  have c7c : w1.cell? ⟨w.heap.size, 7, none⟩ = some (.int .u8 b7) := (G.cell (p := ⟨w.heap.size, 7, none⟩) (by simp)).trans (cell_of_row _ _ _ _ _ _ (heap_alloc_new w _))
  have hgs := G.size
  clear hb1 hb2 hb3 hb4 hb5 hz1 hz2 hz3 hz4 hz5 hcc1 hcc2 hcc3 hcc4 hcc5 hff1 hff2 hff3 hff4 hff5
  refine wp_loop_rounds 9 ?_
  iterate 8 (rw [rounds_succ]; go_wp2_with fail)
  rw [rounds_succ]; go_wp2_with fail
  go_region_held3 (fun w' => w1.heap.size < w'.heap.size ∧ w'.cell? ⟨w.heap.size, 0, none⟩ = some (.int .u8 b0) ∧ w'.cell? ⟨w.heap.size, 1, none⟩ = some (.int .u8 b1) ∧ w'.cell? ⟨w.heap.size, 2, none⟩ = some (.int .u8 b2) ∧ w'.cell? ⟨w.heap.size, 3, none⟩ = some (.int .u8 b3) ∧ w'.cell? ⟨w.heap.size, 4, none⟩ = some (.int .u8 b4) ∧ w'.cell? ⟨w.heap.size, 5, none⟩ = some (.int .u8 b5) ∧ w'.cell? ⟨w.heap.size, 6, none⟩ = some (.int .u8 b6) ∧ w'.cell? ⟨w.heap.size, 7, none⟩ = some (.int .u8 b7) ∧ w'.cell? ⟨w1.heap.size, 0, none⟩ = some (.int .u8 b2) ∧ w'.cell? ⟨w1.heap.size, 1, none⟩ = some (.int .u8 b1) ∧ w'.cell? ⟨w1.heap.size, 2, none⟩ = some (.int .u8 b0) ∧ w'.cell? ⟨w1.heap.size, 3, none⟩ = some (.int .u8 b7) ∧ w'.cell? ⟨w1.heap.size, 4, none⟩ = some (.int .u8 b6) ∧ w'.cell? ⟨w1.heap.size, 5, none⟩ = some (.int .u8 b5) ∧ w'.cell? ⟨w1.heap.size, 6, none⟩ = some (.int .u8 b4) ∧ w'.cell? ⟨w1.heap.size, 7, none⟩ = some (.int .u8 b3)) ((go_split_ands; refine ⟨(by first | omega | go_keep), ?_, ?_, ?_, ?_, ?_, ?_, ?_, ?_, ?_, ?_, ?_, ?_, ?_, ?_, ?_, ?_⟩ <;> go_keep))
    (first
    | (go_at_call 19; (with_reducible refine (load_w b0 b1 b2 b3 b4 b5 b6 b7 _).mono ?_); rintro e w2 ⟨rfl, hb2⟩; have hz2 := hb2.size; (try simp at hz2); have hq2 : w.heap.size < w2.heap.size := (by omega); have hp2 : w1.heap.size < w2.heap.size := (by omega); obtain ⟨hcc2, hff2⟩ := bcell hb2; rw [H1.out])
    | (go_at_call 19; (with_reducible refine (load_w b2 b1 b0 b7 b6 b5 b4 b3 _).mono ?_); rintro e w2 ⟨rfl, hb3⟩; have hz3 := hb3.size; (try simp at hz3); have hq3 : w.heap.size < w2.heap.size := (by omega); have hp3 : w1.heap.size < w2.heap.size := (by omega); obtain ⟨hcc3, hff3⟩ := bcell hb3; rw [H3.out]))
  have hW := bthen (bthen (bthen (bthen ((Below.refl w.heap.size w).alloc (Nat.le_refl _) _).drew G) (((Below.refl w1.heap.size w1).alloc (Nat.le_refl _) _).drew)) hb2) hb3
  clear hb2 hb3 hz2 hz3 hcc2 hcc3 hff2 hff3 hq2 hq3 hp2 hp3 c0c c1c c2c c3c c4c c5c c6c c7c G hgs hgt hgt1
  go_wp2_with fail
  have hbY : b2 < 256 ∧ b1 < 256 ∧ b0 < 256 ∧ b7 < 256 ∧ b6 < 256 ∧ b5 < 256 ∧ b4 < 256 ∧ b3 < 256 := by omega
  have HY := pk_lt hbY
  have HSX := Lib.hid ((sum_pk hb).trans (by omega : ((b0 + b1 + b2 + b3 + b4 + b5 + b6 + b7 : Nat) : Int) = ((b0 + b1 + b2 + b3 + b4 + b5 + b6 + b7 : Nat) : Int)))
  have HSY := Lib.hid ((sum_pk hbY).trans (by omega : ((b2 + b1 + b0 + b7 + b6 + b5 + b4 + b3 : Nat) : Int) = ((b0 + b1 + b2 + b3 + b4 + b5 + b6 + b7 : Nat) : Int)))
  have FEX := Lib.hid (fun j hj => atE _ c j HX hcl hj)
  have FBX := Lib.hid (fun j hj => atB _ c j HX hcl hj)
  have FLX := Lib.hid (fun j hj => atL (pk b0 b1 b2 b3 b4 b5 b6 b7) (IntKind.i8.wrap c) j hj)
  have FEY := Lib.hid (fun j hj => atE _ c j HY hcl hj)
  have FBY := Lib.hid (fun j hj => atB _ c j HY hcl hj)
  have FLY := Lib.hid (fun j hj => atL (pk b2 b1 b0 b7 b6 b5 b4 b3) (IntKind.i8.wrap c) j hj)
  obtain ⟨e0, e1, e2, e3, e4, e5, e6, e7⟩ := byte_pk hb
  obtain ⟨f0, f1, f2, f3, f4, f5, f6, f7⟩ := byte_pk hbY
  have XB := Lib.hid (And.intro e0 (And.intro e1 (And.intro e2 (And.intro e3 (And.intro e4 (And.intro e5 (And.intro e6 e7)))))))
  have YB := Lib.hid (And.intro f0 (And.intro f1 (And.intro f2 (And.intro f3 (And.intro f4 (And.intro f5 (And.intro f6 f7)))))))
  clear e0 e1 e2 e3 e4 e5 e6 e7 f0 f1 f2 f3 f4 f5 f6 f7 HST HS ST H1 H2 H3
  generalize pk b0 b1 b2 b3 b4 b5 b6 b7 = X at *
  generalize pk b2 b1 b0 b7 b6 b5 b4 b3 = Y at *
  go_loopw [12] (fun i wr => ∃ j : Nat, j ≤ 8 ∧ i = .int .i64 j ∧ Below w.heap.size w wr) (fun i _ => 8 - (intOf i).toNat)
  case atStart => exact ⟨0, by omega, rfl, hW⟩
  case round =>
    obtain ⟨j, hj, rfl, hWr⟩ := hrel
    by_cases hlt : j < 8
    · have : j = 0 ∨ j = 1 ∨ j = 2 ∨ j = 3 ∨ j = 4 ∨ j = 5 ∨ j = 6 ∨ j = 7 := by omega
      clear hlt hj
      rcases this with rfl | rfl | rfl | rfl | rfl | rfl | rfl | rfl
      · have ge : (bits .and .u8 (topsI (sameI X c)) 1 != 0) = _ := FEX.out 0 (by omega)
        have gb : (bits .and .u8 (topsI (lessI X (fillI c))) 1 != 0) = _ := FBX.out 0 (by omega)
        have gl : (bits .and .u8 (low (lessB X (IntKind.i8.wrap c)) 8 : Nat) 1 != 0) = _ := FLX.out 0 (by omega)
        have ge' : (bits .and .u8 (topsI (sameI Y c)) 4 != 0) = _ := FEY.out 2 (by omega)
        have gb' : (bits .and .u8 (topsI (lessI Y (fillI c))) 4 != 0) = _ := FBY.out 2 (by omega)
        have gl' : (bits .and .u8 (low (lessB Y (IntKind.i8.wrap c)) 8 : Nat) 4 != 0) = _ := FLY.out 2 (by omega)
        rw [XB.out.1] at ge gb gl
        rw [YB.out.2.2.1] at ge' gb' gl'
        generalize decide (b0 = c) = q1 at *
        generalize decide (b0 < c) = q2 at *
        generalize decide (sgn b0 < IntKind.i8.wrap c) = q3 at *
        go_wp2_with fail
        go_quiet (fail)
        go_wp2_with fail
        refine (equal_w _ _ _).mono ?_; rintro e w3 ⟨rfl, rfl⟩
        go_wp2_with fail
        refine (equal_w _ _ _).mono ?_; rintro e w3 ⟨rfl, rfl⟩
        go_wp2_with fail
        refine (blw_w _ _ _).mono ?_; rintro e w3 ⟨rfl, rfl⟩
        go_wp2_with fail
        refine (blw_w _ _ _).mono ?_; rintro e w3 ⟨rfl, rfl⟩
        go_wp2_with fail
        refine (less_w X HX _ _).mono ?_; rintro e w3 ⟨rfl, hb3⟩
        go_wp2_with fail
        refine (less_w Y HY _ _).mono ?_; rintro e w4 ⟨rfl, hb4⟩
        go_wp2_with fail
        go_roundw
        case rel => exact ⟨1, by omega, rfl, bthen (bthen (bdrewN hWr _) hb3) hb4⟩
        case measure => simp [intOf]
      · have ge : (bits .and .u8 (topsI (sameI X c)) 2 != 0) = _ := FEX.out 1 (by omega)
        have gb : (bits .and .u8 (topsI (lessI X (fillI c))) 2 != 0) = _ := FBX.out 1 (by omega)
        have gl : (bits .and .u8 (low (lessB X (IntKind.i8.wrap c)) 8 : Nat) 2 != 0) = _ := FLX.out 1 (by omega)
        have ge' : (bits .and .u8 (topsI (sameI Y c)) 2 != 0) = _ := FEY.out 1 (by omega)
        have gb' : (bits .and .u8 (topsI (lessI Y (fillI c))) 2 != 0) = _ := FBY.out 1 (by omega)
        have gl' : (bits .and .u8 (low (lessB Y (IntKind.i8.wrap c)) 8 : Nat) 2 != 0) = _ := FLY.out 1 (by omega)
        rw [XB.out.2.1] at ge gb gl
        rw [YB.out.2.1] at ge' gb' gl'
        generalize decide (b1 = c) = q1 at *
        generalize decide (b1 < c) = q2 at *
        generalize decide (sgn b1 < IntKind.i8.wrap c) = q3 at *
        go_wp2_with fail
        go_quiet (fail)
        go_wp2_with fail
        refine (equal_w _ _ _).mono ?_; rintro e w3 ⟨rfl, rfl⟩
        go_wp2_with fail
        refine (equal_w _ _ _).mono ?_; rintro e w3 ⟨rfl, rfl⟩
        go_wp2_with fail
        refine (blw_w _ _ _).mono ?_; rintro e w3 ⟨rfl, rfl⟩
        go_wp2_with fail
        refine (blw_w _ _ _).mono ?_; rintro e w3 ⟨rfl, rfl⟩
        go_wp2_with fail
        refine (less_w X HX _ _).mono ?_; rintro e w3 ⟨rfl, hb3⟩
        go_wp2_with fail
        refine (less_w Y HY _ _).mono ?_; rintro e w4 ⟨rfl, hb4⟩
        go_wp2_with fail
        go_roundw
        case rel => exact ⟨2, by omega, rfl, bthen (bthen (bdrewN hWr _) hb3) hb4⟩
        case measure => simp [intOf]
      · have ge : (bits .and .u8 (topsI (sameI X c)) 4 != 0) = _ := FEX.out 2 (by omega)
        have gb : (bits .and .u8 (topsI (lessI X (fillI c))) 4 != 0) = _ := FBX.out 2 (by omega)
        have gl : (bits .and .u8 (low (lessB X (IntKind.i8.wrap c)) 8 : Nat) 4 != 0) = _ := FLX.out 2 (by omega)
        have ge' : (bits .and .u8 (topsI (sameI Y c)) 1 != 0) = _ := FEY.out 0 (by omega)
        have gb' : (bits .and .u8 (topsI (lessI Y (fillI c))) 1 != 0) = _ := FBY.out 0 (by omega)
        have gl' : (bits .and .u8 (low (lessB Y (IntKind.i8.wrap c)) 8 : Nat) 1 != 0) = _ := FLY.out 0 (by omega)
        rw [XB.out.2.2.1] at ge gb gl
        rw [YB.out.1] at ge' gb' gl'
        generalize decide (b2 = c) = q1 at *
        generalize decide (b2 < c) = q2 at *
        generalize decide (sgn b2 < IntKind.i8.wrap c) = q3 at *
        go_wp2_with fail
        go_quiet (fail)
        go_wp2_with fail
        refine (equal_w _ _ _).mono ?_; rintro e w3 ⟨rfl, rfl⟩
        go_wp2_with fail
        refine (equal_w _ _ _).mono ?_; rintro e w3 ⟨rfl, rfl⟩
        go_wp2_with fail
        refine (blw_w _ _ _).mono ?_; rintro e w3 ⟨rfl, rfl⟩
        go_wp2_with fail
        refine (blw_w _ _ _).mono ?_; rintro e w3 ⟨rfl, rfl⟩
        go_wp2_with fail
        refine (less_w X HX _ _).mono ?_; rintro e w3 ⟨rfl, hb3⟩
        go_wp2_with fail
        refine (less_w Y HY _ _).mono ?_; rintro e w4 ⟨rfl, hb4⟩
        go_wp2_with fail
        go_roundw
        case rel => exact ⟨3, by omega, rfl, bthen (bthen (bdrewN hWr _) hb3) hb4⟩
        case measure => simp [intOf]
      · have ge : (bits .and .u8 (topsI (sameI X c)) 8 != 0) = _ := FEX.out 3 (by omega)
        have gb : (bits .and .u8 (topsI (lessI X (fillI c))) 8 != 0) = _ := FBX.out 3 (by omega)
        have gl : (bits .and .u8 (low (lessB X (IntKind.i8.wrap c)) 8 : Nat) 8 != 0) = _ := FLX.out 3 (by omega)
        have ge' : (bits .and .u8 (topsI (sameI Y c)) 128 != 0) = _ := FEY.out 7 (by omega)
        have gb' : (bits .and .u8 (topsI (lessI Y (fillI c))) 128 != 0) = _ := FBY.out 7 (by omega)
        have gl' : (bits .and .u8 (low (lessB Y (IntKind.i8.wrap c)) 8 : Nat) 128 != 0) = _ := FLY.out 7 (by omega)
        rw [XB.out.2.2.2.1] at ge gb gl
        rw [YB.out.2.2.2.2.2.2.2] at ge' gb' gl'
        generalize decide (b3 = c) = q1 at *
        generalize decide (b3 < c) = q2 at *
        generalize decide (sgn b3 < IntKind.i8.wrap c) = q3 at *
        go_wp2_with fail
        go_quiet (fail)
        go_wp2_with fail
        refine (equal_w _ _ _).mono ?_; rintro e w3 ⟨rfl, rfl⟩
        go_wp2_with fail
        refine (equal_w _ _ _).mono ?_; rintro e w3 ⟨rfl, rfl⟩
        go_wp2_with fail
        refine (blw_w _ _ _).mono ?_; rintro e w3 ⟨rfl, rfl⟩
        go_wp2_with fail
        refine (blw_w _ _ _).mono ?_; rintro e w3 ⟨rfl, rfl⟩
        go_wp2_with fail
        refine (less_w X HX _ _).mono ?_; rintro e w3 ⟨rfl, hb3⟩
        go_wp2_with fail
        refine (less_w Y HY _ _).mono ?_; rintro e w4 ⟨rfl, hb4⟩
        go_wp2_with fail
        go_roundw
        case rel => exact ⟨4, by omega, rfl, bthen (bthen (bdrewN hWr _) hb3) hb4⟩
        case measure => simp [intOf]
      · have ge : (bits .and .u8 (topsI (sameI X c)) 16 != 0) = _ := FEX.out 4 (by omega)
        have gb : (bits .and .u8 (topsI (lessI X (fillI c))) 16 != 0) = _ := FBX.out 4 (by omega)
        have gl : (bits .and .u8 (low (lessB X (IntKind.i8.wrap c)) 8 : Nat) 16 != 0) = _ := FLX.out 4 (by omega)
        have ge' : (bits .and .u8 (topsI (sameI Y c)) 64 != 0) = _ := FEY.out 6 (by omega)
        have gb' : (bits .and .u8 (topsI (lessI Y (fillI c))) 64 != 0) = _ := FBY.out 6 (by omega)
        have gl' : (bits .and .u8 (low (lessB Y (IntKind.i8.wrap c)) 8 : Nat) 64 != 0) = _ := FLY.out 6 (by omega)
        rw [XB.out.2.2.2.2.1] at ge gb gl
        rw [YB.out.2.2.2.2.2.2.1] at ge' gb' gl'
        generalize decide (b4 = c) = q1 at *
        generalize decide (b4 < c) = q2 at *
        generalize decide (sgn b4 < IntKind.i8.wrap c) = q3 at *
        go_wp2_with fail
        go_quiet (fail)
        go_wp2_with fail
        refine (equal_w _ _ _).mono ?_; rintro e w3 ⟨rfl, rfl⟩
        go_wp2_with fail
        refine (equal_w _ _ _).mono ?_; rintro e w3 ⟨rfl, rfl⟩
        go_wp2_with fail
        refine (blw_w _ _ _).mono ?_; rintro e w3 ⟨rfl, rfl⟩
        go_wp2_with fail
        refine (blw_w _ _ _).mono ?_; rintro e w3 ⟨rfl, rfl⟩
        go_wp2_with fail
        refine (less_w X HX _ _).mono ?_; rintro e w3 ⟨rfl, hb3⟩
        go_wp2_with fail
        refine (less_w Y HY _ _).mono ?_; rintro e w4 ⟨rfl, hb4⟩
        go_wp2_with fail
        go_roundw
        case rel => exact ⟨5, by omega, rfl, bthen (bthen (bdrewN hWr _) hb3) hb4⟩
        case measure => simp [intOf]
      · have ge : (bits .and .u8 (topsI (sameI X c)) 32 != 0) = _ := FEX.out 5 (by omega)
        have gb : (bits .and .u8 (topsI (lessI X (fillI c))) 32 != 0) = _ := FBX.out 5 (by omega)
        have gl : (bits .and .u8 (low (lessB X (IntKind.i8.wrap c)) 8 : Nat) 32 != 0) = _ := FLX.out 5 (by omega)
        have ge' : (bits .and .u8 (topsI (sameI Y c)) 32 != 0) = _ := FEY.out 5 (by omega)
        have gb' : (bits .and .u8 (topsI (lessI Y (fillI c))) 32 != 0) = _ := FBY.out 5 (by omega)
        have gl' : (bits .and .u8 (low (lessB Y (IntKind.i8.wrap c)) 8 : Nat) 32 != 0) = _ := FLY.out 5 (by omega)
        rw [XB.out.2.2.2.2.2.1] at ge gb gl
        rw [YB.out.2.2.2.2.2.1] at ge' gb' gl'
        generalize decide (b5 = c) = q1 at *
        generalize decide (b5 < c) = q2 at *
        generalize decide (sgn b5 < IntKind.i8.wrap c) = q3 at *
        go_wp2_with fail
        go_quiet (fail)
        go_wp2_with fail
        refine (equal_w _ _ _).mono ?_; rintro e w3 ⟨rfl, rfl⟩
        go_wp2_with fail
        refine (equal_w _ _ _).mono ?_; rintro e w3 ⟨rfl, rfl⟩
        go_wp2_with fail
        refine (blw_w _ _ _).mono ?_; rintro e w3 ⟨rfl, rfl⟩
        go_wp2_with fail
        refine (blw_w _ _ _).mono ?_; rintro e w3 ⟨rfl, rfl⟩
        go_wp2_with fail
        refine (less_w X HX _ _).mono ?_; rintro e w3 ⟨rfl, hb3⟩
        go_wp2_with fail
        refine (less_w Y HY _ _).mono ?_; rintro e w4 ⟨rfl, hb4⟩
        go_wp2_with fail
        go_roundw
        case rel => exact ⟨6, by omega, rfl, bthen (bthen (bdrewN hWr _) hb3) hb4⟩
        case measure => simp [intOf]
      · have ge : (bits .and .u8 (topsI (sameI X c)) 64 != 0) = _ := FEX.out 6 (by omega)
        have gb : (bits .and .u8 (topsI (lessI X (fillI c))) 64 != 0) = _ := FBX.out 6 (by omega)
        have gl : (bits .and .u8 (low (lessB X (IntKind.i8.wrap c)) 8 : Nat) 64 != 0) = _ := FLX.out 6 (by omega)
        have ge' : (bits .and .u8 (topsI (sameI Y c)) 16 != 0) = _ := FEY.out 4 (by omega)
        have gb' : (bits .and .u8 (topsI (lessI Y (fillI c))) 16 != 0) = _ := FBY.out 4 (by omega)
        have gl' : (bits .and .u8 (low (lessB Y (IntKind.i8.wrap c)) 8 : Nat) 16 != 0) = _ := FLY.out 4 (by omega)
        rw [XB.out.2.2.2.2.2.2.1] at ge gb gl
        rw [YB.out.2.2.2.2.1] at ge' gb' gl'
        generalize decide (b6 = c) = q1 at *
        generalize decide (b6 < c) = q2 at *
        generalize decide (sgn b6 < IntKind.i8.wrap c) = q3 at *
        go_wp2_with fail
        go_quiet (fail)
        go_wp2_with fail
        refine (equal_w _ _ _).mono ?_; rintro e w3 ⟨rfl, rfl⟩
        go_wp2_with fail
        refine (equal_w _ _ _).mono ?_; rintro e w3 ⟨rfl, rfl⟩
        go_wp2_with fail
        refine (blw_w _ _ _).mono ?_; rintro e w3 ⟨rfl, rfl⟩
        go_wp2_with fail
        refine (blw_w _ _ _).mono ?_; rintro e w3 ⟨rfl, rfl⟩
        go_wp2_with fail
        refine (less_w X HX _ _).mono ?_; rintro e w3 ⟨rfl, hb3⟩
        go_wp2_with fail
        refine (less_w Y HY _ _).mono ?_; rintro e w4 ⟨rfl, hb4⟩
        go_wp2_with fail
        go_roundw
        case rel => exact ⟨7, by omega, rfl, bthen (bthen (bdrewN hWr _) hb3) hb4⟩
        case measure => simp [intOf]
      · have ge : (bits .and .u8 (topsI (sameI X c)) 128 != 0) = _ := FEX.out 7 (by omega)
        have gb : (bits .and .u8 (topsI (lessI X (fillI c))) 128 != 0) = _ := FBX.out 7 (by omega)
        have gl : (bits .and .u8 (low (lessB X (IntKind.i8.wrap c)) 8 : Nat) 128 != 0) = _ := FLX.out 7 (by omega)
        have ge' : (bits .and .u8 (topsI (sameI Y c)) 8 != 0) = _ := FEY.out 3 (by omega)
        have gb' : (bits .and .u8 (topsI (lessI Y (fillI c))) 8 != 0) = _ := FBY.out 3 (by omega)
        have gl' : (bits .and .u8 (low (lessB Y (IntKind.i8.wrap c)) 8 : Nat) 8 != 0) = _ := FLY.out 3 (by omega)
        rw [XB.out.2.2.2.2.2.2.2] at ge gb gl
        rw [YB.out.2.2.2.1] at ge' gb' gl'
        generalize decide (b7 = c) = q1 at *
        generalize decide (b7 < c) = q2 at *
        generalize decide (sgn b7 < IntKind.i8.wrap c) = q3 at *
        go_wp2_with fail
        go_quiet (fail)
        go_wp2_with fail
        refine (equal_w _ _ _).mono ?_; rintro e w3 ⟨rfl, rfl⟩
        go_wp2_with fail
        refine (equal_w _ _ _).mono ?_; rintro e w3 ⟨rfl, rfl⟩
        go_wp2_with fail
        refine (blw_w _ _ _).mono ?_; rintro e w3 ⟨rfl, rfl⟩
        go_wp2_with fail
        refine (blw_w _ _ _).mono ?_; rintro e w3 ⟨rfl, rfl⟩
        go_wp2_with fail
        refine (less_w X HX _ _).mono ?_; rintro e w3 ⟨rfl, hb3⟩
        go_wp2_with fail
        refine (less_w Y HY _ _).mono ?_; rintro e w4 ⟨rfl, hb4⟩
        go_wp2_with fail
        go_roundw
        case rel => exact ⟨8, by omega, rfl, bthen (bthen (bdrewN hWr _) hb3) hb4⟩
        case measure => simp [intOf]
    · obtain rfl : j = 8 := by omega
      go_wp2_with fail
      refine (sum_w _ _).mono ?_; rintro e w3 ⟨rfl, rfl⟩
      rw [HSX.out]
      go_wp2_with fail
      refine (sum_w _ _).mono ?_; rintro e w3 ⟨rfl, rfl⟩
      rw [HSY.out]
      go_wp2_with fail
      go_ret
      exact ⟨by simp, hWr⟩
end Go.Proofs.Ytjebhdncfjijgaa.Lanes
