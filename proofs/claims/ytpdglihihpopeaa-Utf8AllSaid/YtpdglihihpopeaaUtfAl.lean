/- The law Utf8All: its walk. -/
import Derived.Test.YtpdglihihpopeaaUtfU
namespace Go.Proofs.Ytpdglihihpopeaa.Utf
set_option linter.unusedVariables false
set_option linter.unusedSimpArgs false
open Go.RowKit Go.Proofs.Ytpdglihihpopeaa.Mem
theorem one_any (r : Int) (w : World) : Calls Try.prog 20 #[.int .i32 r] w fun e w' => e = .returned (.bool true) ∧ Below w.heap.size w w' := by
  by_cases h : sizeF r = 0
  · exact one_bad r h w
  · exact one_good r h w
def bordL : List Int := [0, 127, 128, 2047, 2048, 55295, 55296, 57343, 57344, 65533, 65535, 65536, 1114111]
def bordCells : Array Value := (bordL.map (Value.int .i64)).toArray
theorem bord_get (i : Nat) (h : i < 13) : bordCells[i]? = some (.int .i64 (bordL.getD i 0)) ∧ 0 ≤ bordL.getD i 0 ∧ bordL.getD i 0 ≤ 1114111 := by
  match i, h with
  | 0, _ => exact ⟨rfl, by decide, by decide⟩
  | 1, _ => exact ⟨rfl, by decide, by decide⟩
  | 2, _ => exact ⟨rfl, by decide, by decide⟩
  | 3, _ => exact ⟨rfl, by decide, by decide⟩
  | 4, _ => exact ⟨rfl, by decide, by decide⟩
  | 5, _ => exact ⟨rfl, by decide, by decide⟩
  | 6, _ => exact ⟨rfl, by decide, by decide⟩
  | 7, _ => exact ⟨rfl, by decide, by decide⟩
  | 8, _ => exact ⟨rfl, by decide, by decide⟩
  | 9, _ => exact ⟨rfl, by decide, by decide⟩
  | 10, _ => exact ⟨rfl, by decide, by decide⟩
  | 11, _ => exact ⟨rfl, by decide, by decide⟩
  | 12, _ => exact ⟨rfl, by decide, by decide⟩
set_option maxHeartbeats 4000000 in
set_option maxRecDepth 100000 in
theorem all (w : World) : Calls Try.prog 7 #[] w fun e w' => e = .returned (.bool true) ∧ Below w.heap.size w w' := by
  have s1 : sizeF (-1) = 0 := by decide
  have s2 : sizeF 1114112 = 0 := by decide
  have s3 : sizeF 2147483647 = 0 := by decide
  have S1 := Lib.hid (fun w1 => s1 ▸ size_w (-1) w1)
  have S2 := Lib.hid (fun w1 => s2 ▸ size_w 1114112 w1)
  have S3 := Lib.hid (fun w1 => s3 ▸ size_w 2147483647 w1)
  clear s1 s2 s3
  go_enter Try.func7, Try.ntmps7
  go_wp2_with fail
  have hb0 : Below w.heap.size w (w.alloc (.cells bordCells 3)) := (Below.refl _ w).alloc (Nat.le_refl _) _
  have hbl0 : Blk (w.alloc (.cells bordCells 3)) w.heap.size 3 bordCells := Blk.new w _ _
  go_loopw [2] (fun v wr => ∃ i : Nat, i ≤ 13 ∧ v = .int .i64 i ∧ Blk wr w.heap.size 3 bordCells ∧ Below w.heap.size w wr) (fun v _ => 13 - (intOf v).toNat)
  case atStart => exact ⟨0, by omega, rfl, hbl0, hb0⟩
  case round =>
    clear hbl0 hb0
    obtain ⟨i, hi, rfl, hbl, hbel⟩ := hrel
    obtain ⟨wo, rfl⟩ : ∃ wo : World, wo = wr := ⟨_, rfl⟩
    by_cases hlt : i < 13
    · have t0 : decide ((i : Int) < 13) = true := by simp; omega
      obtain ⟨g1, g2, g3⟩ := bord_get i hlt
      have hc := (Blk.cell hbl i).trans g1
      have HG1 := Lib.hid g1; clear g1
      generalize bordL.getD i 0 = b at *
      go_wp2_with fail
      go_loopw [3] (fun v wr => ∃ c : Int, b - 1 ≤ c ∧ c ≤ b + 2 ∧ v = .int .i64 c ∧ Blk wr w.heap.size 3 bordCells ∧ Below w.heap.size w wr) (fun v _ => (b + 2 - intOf v).toNat)
      case atStart => exact ⟨b - 1, by omega, by omega, rfl, hbl, hbel⟩
      case round =>
        clear hc hbl hbel
        obtain ⟨c, hc1, hc2, rfl, hbl, hbel⟩ := hrel
        have hc := (Blk.cell hbl i).trans HG1.out
        by_cases hcl : c ≤ b + 1
        · have u0 : decide (c ≤ b + 1) = true := by simp; omega
          have hw : IntKind.i32.wrap c = c := IntWalk.i32_in _ (by omega)
          go_wp2_with fail
          refine (one_any c _).mono ?_; rintro e w1 ⟨rfl, hb1⟩
          go_wp2_with fail
          go_roundw
          case rel => exact ⟨c + 1, by omega, by omega, rfl, hbl.below hb1 hbl.lt, bthen hbel hb1⟩
          case measure => simp [intOf]; omega
        · have u0 : decide (c ≤ b + 1) = false := by simp; omega
          go_wp2_with fail
          exact ⟨⟨i + 1, by omega, by go_num, hbl, hbel⟩, by simp [intOf]; omega⟩
    · have t0 : decide ((i : Int) < 13) = false := by simp; omega
      go_wp2_with fail
      go_loopw [4] (fun v wr => ∃ c : Int, 0 ≤ c ∧ c ≤ 1114130 ∧ v = .int .i64 c ∧ Below w.heap.size w wr) (fun v _ => (1114130 - intOf v).toNat)
      case atStart => exact ⟨0, by omega, by omega, rfl, hbel⟩
      case round =>
        clear hbl hbel
        obtain ⟨c, hc1, hc2, rfl, hbel⟩ := hrel
        by_cases hcl : c ≤ 1114111
        · have u0 : decide (c ≤ 1114111) = true := by simp; omega
          have hw : IntKind.i32.wrap c = c := IntWalk.i32_in _ (by omega)
          go_wp2_with fail
          refine (one_any c _).mono ?_; rintro e w1 ⟨rfl, hb1⟩
          go_wp2_with fail
          go_roundw
          case rel => exact ⟨c + 13, by omega, by omega, rfl, bthen hbel hb1⟩
          case measure => simp [intOf]; omega
        · have u0 : decide (c ≤ 1114111) = false := by simp; omega
          go_wp2_with fail
          refine (firsts_w _).mono ?_; rintro e w1 ⟨rfl, hb1⟩
          go_wp2_with fail
          refine (S1.out _).mono ?_; rintro e w2 ⟨rfl, rfl⟩
          go_wp2_with fail
          refine (S2.out _).mono ?_; rintro e w2 ⟨rfl, rfl⟩
          go_wp2_with fail
          refine (S3.out _).mono ?_; rintro e w2 ⟨rfl, rfl⟩
          go_wp2_with fail
          go_ret
          exact ⟨rfl, bthen hbel hb1⟩
end Go.Proofs.Ytpdglihihpopeaa.Utf
