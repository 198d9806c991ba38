/- The law Utf8Runes: its walk. -/
import Derived.Test.YtpdglihihpopeaaUtfY
import Derived.Test.YtpdglihihpopeaaUtfT
import Derived.Test.YtpdglihihpopeaaUtfN
namespace Go.Proofs.Ytpdglihihpopeaa.Utf
set_option linter.unusedVariables false
set_option linter.unusedSimpArgs false
open Go.RowKit Go.Proofs.Ytpdglihihpopeaa.Mem Go.Proofs.Ytpdglihihpopeaa.Own

def oneS : ByteArray := ⟨#[195, 169, 97, 255]⟩
theorem oneS_runes : runesL oneS.data.toList = [(0, 233), (2, 97)] := by decide
theorem told_one (kb ga gl : Nat) (left : Int) (deep : Nat) (hd : deep ≤ 1000) (w : World) (hk : w.cell? ⟨kb, 0, none⟩ = some (.string oneS)) (ha : Blk w ga 3 #[.int .i64 0, .int .i64 2]) (hl : Blk w gl 21 #[.int .i32 233, .int .i32 97]) :
    Calls Try.prog 10 #[.func (.func 23) #[] #[.pointer (some ⟨kb, 0, none⟩)], .slice (some ⟨ga, 0, none⟩) 2 2, .slice (some ⟨gl, 0, none⟩) 2 2, .int .i64 left, .int .i64 (deep : Int)] w
      fun e w' => e = .returned (.bool true) ∧ Below w.heap.size w w' := by
  have h := told_w oneS (by decide) kb 2 2 (some ⟨ga, 0, none⟩) (some ⟨gl, 0, none⟩) deep hd left w hk
  rw [oneS_runes] at h
  refine h (fun j x hj => ⟨ga, gl, rfl, rfl, ?_⟩)
  have a0 := Blk.cell ha 0
  have a1 := Blk.cell ha 1
  have l0 := Blk.cell hl 0
  have l1 := Blk.cell hl 1
  match j, hj with
  | 0, hj => cases hj; exact ⟨a0, l0⟩
  | 1, hj => cases hj; exact ⟨a1, l1⟩
  | j + 2, hj => simp at hj
theorem told_own (s : ByteArray) (hs : s.size ≤ 140737488351232) (kb ca cl base : Nat) (pa pl : Option Addr) (left : Int) (deep : Nat) (hd : deep ≤ 1000) (w : World) (hk : w.cell? ⟨kb, 0, none⟩ = some (.string s))
    (ha : w.ownsRow base 3 1 (.slice pa (runesL s.data.toList).length ca) (runesL s.data.toList).length (ats (runesL s.data.toList)))
    (hl : w.ownsRow base 21 1 (.slice pl (runesL s.data.toList).length cl) (runesL s.data.toList).length (chs (runesL s.data.toList))) :
    Calls Try.prog 10 #[.func (.func 23) #[] #[.pointer (some ⟨kb, 0, none⟩)], .slice pa (runesL s.data.toList).length ca, .slice pl (runesL s.data.toList).length cl, .int .i64 left, .int .i64 (deep : Int)] w
      fun e w' => e = .returned (.bool true) ∧ Below w.heap.size w w' := by
  refine told_w s hs kb ca cl pa pl deep hd left w hk (fun j x hj => ?_)
  have hlt := (List.getElem?_eq_some_iff.1 hj).1
  obtain ⟨g1, z1, -, -, a1⟩ := own_cells ha (by omega)
  obtain ⟨g2, z2, -, -, a2⟩ := own_cells hl (by omega)
  exact ⟨g1, g2, z1, z2, a1 j _ (by simp [ats, hj]), a2 j _ (by simp [chs, hj])⟩
set_option maxHeartbeats 4000000 in
set_option maxRecDepth 100000 in
theorem runes (s : ByteArray) (left : Int) (hs : s.size ≤ 1048576) (w : World) : Calls Try.prog 3 #[.string s, .int .i64 left] w fun e w' => e = .returned (.bool true) ∧ Below w.heap.size w w' := by
  have hnf := fn_nil (.func 23) #[]
  have HW := Lib.hid (walk_w s (by omega))
  go_enter Try.func3, Try.ntmps3
  go_wp2_with fail
  refine (runes_w oneS _).mono ?_; rintro e w1 ⟨rfl, hk1, hb1, hz1⟩
  have HZ1 := Lib.hid hz1; clear hz1
  go_wp2_with fail
  have k1 : Blk ((w1.alloc (.cells #[.int .i64 0, .int .i64 2] 3)).alloc (.cells #[.int .i32 233, .int .i32 97] 21)) w1.heap.size 3 #[.int .i64 0, .int .i64 2] := (Blk.new w1 _ _).alloc _
  have k2 : Blk ((w1.alloc (.cells #[.int .i64 0, .int .i64 2] 3)).alloc (.cells #[.int .i32 233, .int .i32 97] 21)) (w1.heap.size + 1) 21 #[.int .i32 233, .int .i32 97] := by
    have := Blk.new (w1.alloc (.cells #[.int .i64 0, .int .i64 2] 3)) 21 #[.int .i32 233, .int .i32 97]
    simpa using this
  have hb2 : Below w1.heap.size w1 ((w1.alloc (.cells #[.int .i64 0, .int .i64 2] 3)).alloc (.cells #[.int .i32 233, .int .i32 97] 21)) := ((Below.refl _ w1).alloc (Nat.le_refl _) _).alloc (by simp) _
  have hk2 : ((w1.alloc (.cells #[.int .i64 0, .int .i64 2] 3)).alloc (.cells #[.int .i32 233, .int .i32 97] 21)).cell? ⟨w.heap.size, 0, none⟩ = some (.string oneS) := (hb2.cell (p := ⟨w.heap.size, 0, none⟩) (World.block_lt_of_cell? _ _ hk1)).trans hk1
  have hbel := bthen hb1 hb2
  clear hb1 hb2
  generalize (w1.alloc (.cells #[.int .i64 0, .int .i64 2] 3)).alloc (.cells #[.int .i32 233, .int .i32 97] 21) = w2 at *
  refine (told_one w.heap.size w1.heap.size (w1.heap.size + 1) 0 1 (by omega) w2 hk2 k1 k2).mono ?_; rintro e w3 ⟨rfl, hb3⟩
  have hk3 : w3.cell? ⟨w.heap.size, 0, none⟩ = some (.string oneS) := (hb3.cell (p := ⟨w.heap.size, 0, none⟩) (World.block_lt_of_cell? _ _ hk2)).trans hk2
  replace hbel := bthen hbel hb3
  clear hk1 hk2 k1 k2 hb3
  go_wp2_with fail
  refine (HW.out _).mono ?_; rintro e w4 ⟨pa, pl, ca, cl, rfl, ho1, ho2, hb4⟩
  have hk4 : w4.cell? ⟨w.heap.size, 0, none⟩ = some (.string oneS) := (hb4.cell (p := ⟨w.heap.size, 0, none⟩) (World.block_lt_of_cell? _ _ hk3)).trans hk3
  replace hbel := bthen hbel hb4
  clear hk3 hb4
  go_wp2_with fail
  refine (runes_w s _).mono ?_; rintro e w5 ⟨rfl, hk5, hb5, hz5⟩
  have hk6 : w5.cell? ⟨w.heap.size, 0, none⟩ = some (.string oneS) := (hb5.cell (p := ⟨w.heap.size, 0, none⟩) (World.block_lt_of_cell? _ _ hk4)).trans hk4
  replace hbel := bthen hbel hb5
  have ho1' := own_below ho1 hb5
  have ho2' := own_below ho2 hb5
  clear hk4 hb5 ho1 ho2 hz5
  go_wp2_with fail
  refine (told_own s (by omega) w4.heap.size ca cl w3.heap.size pa pl left 1 (by omega) w5 hk5 ho1' ho2').mono ?_; rintro e w6 ⟨rfl, hb6⟩
  have hk7 : w6.cell? ⟨w.heap.size, 0, none⟩ = some (.string oneS) := (hb6.cell (p := ⟨w.heap.size, 0, none⟩) (World.block_lt_of_cell? _ _ hk6)).trans hk6
  have hk8 : w6.cell? ⟨w4.heap.size, 0, none⟩ = some (.string s) := (hb6.cell (p := ⟨w4.heap.size, 0, none⟩) (World.block_lt_of_cell? _ _ hk5)).trans hk5
  have ho3 := own_below ho1' hb6
  have ho4 := own_below ho2' hb6
  replace hbel := bthen hbel hb6
  clear hk5 hk6 ho1' ho2' hb6
  go_wp2_with fail
  refine (told_own s (by omega) w4.heap.size ca cl w3.heap.size pa pl 0 0 (by omega) w6 hk8 ho3 ho4).mono ?_; rintro e w7 ⟨rfl, hb7⟩
  have hk9 : w7.cell? ⟨w.heap.size, 0, none⟩ = some (.string oneS) := (hb7.cell (p := ⟨w.heap.size, 0, none⟩) (World.block_lt_of_cell? _ _ hk7)).trans hk7
  have hk10 : w7.cell? ⟨w4.heap.size, 0, none⟩ = some (.string s) := (hb7.cell (p := ⟨w4.heap.size, 0, none⟩) (World.block_lt_of_cell? _ _ hk8)).trans hk8
  have ho5 := own_below ho3 hb7
  have ho6 := own_below ho4 hb7
  replace hbel := bthen hbel hb7
  clear hk7 hk8 ho3 ho4 hb7
  go_wp2_with fail
  have k1 : Blk ((w7.alloc (.cells #[.int .i64 0, .int .i64 2] 3)).alloc (.cells #[.int .i32 233, .int .i32 97] 21)) w7.heap.size 3 #[.int .i64 0, .int .i64 2] := (Blk.new w7 _ _).alloc _
  have k2 : Blk ((w7.alloc (.cells #[.int .i64 0, .int .i64 2] 3)).alloc (.cells #[.int .i32 233, .int .i32 97] 21)) (w7.heap.size + 1) 21 #[.int .i32 233, .int .i32 97] := by
    have := Blk.new (w7.alloc (.cells #[.int .i64 0, .int .i64 2] 3)) 21 #[.int .i32 233, .int .i32 97]
    simpa using this
  have hb8 : Below w7.heap.size w7 ((w7.alloc (.cells #[.int .i64 0, .int .i64 2] 3)).alloc (.cells #[.int .i32 233, .int .i32 97] 21)) := ((Below.refl _ w7).alloc (Nat.le_refl _) _).alloc (by simp) _
  have hk11 := (hb8.cell (p := ⟨w.heap.size, 0, none⟩) (World.block_lt_of_cell? _ _ hk9)).trans hk9
  have hk12 := (hb8.cell (p := ⟨w4.heap.size, 0, none⟩) (World.block_lt_of_cell? _ _ hk10)).trans hk10
  have ho7 := own_below ho5 hb8
  have ho8 := own_below ho6 hb8
  replace hbel := bthen hbel hb8
  clear hk9 hk10 ho5 ho6 hb8
  generalize (w7.alloc (.cells #[.int .i64 0, .int .i64 2] 3)).alloc (.cells #[.int .i32 233, .int .i32 97] 21) = w8 at *
  refine (told_one w.heap.size w7.heap.size (w7.heap.size + 1) 1 0 (by omega) w8 hk11 k1 k2).mono ?_; rintro e w9 ⟨rfl, hb9⟩
  have hk13 := (hb9.cell (p := ⟨w4.heap.size, 0, none⟩) (World.block_lt_of_cell? _ _ hk12)).trans hk12
  have ho9 := own_below ho7 hb9
  have ho10 := own_below ho8 hb9
  replace hbel := bthen hbel hb9
  clear hk11 hk12 ho7 ho8 hb9 k1 k2
  go_wp2_with fail
  refine (told_own s (by omega) w4.heap.size ca cl w3.heap.size pa pl 3 2 (by omega) w9 hk13 ho9 ho10).mono ?_; rintro e w10 ⟨rfl, hb10⟩
  go_wp2_with fail
  go_ret
  exact ⟨rfl, bthen hbel hb10⟩
end Go.Proofs.Ytpdglihihpopeaa.Utf
