/- The walks of quarryref15's High, Low and Character. -/
import Derived.Test.YtlfkhfmepcnfeaaTxtR
namespace Go.Proofs.Ytlfkhfmepcnfeaa.Txt
set_option linter.unusedVariables false
set_option linter.unusedSimpArgs false
open Go.RowKit Go.Proofs.Ytlfkhfmepcnfeaa.Mem Go.Proofs.Ytlfkhfmepcnfeaa.Own Go.Proofs.Ytlfkhfmepcnfeaa.Utf Go.Proofs.Ytlfkhfmepcnfeaa.Bld

def highF (p : Nat × Int × Bool) : Bool := p.2.2 && (decide (55296 ≤ p.2.1) && decide (p.2.1 ≤ 56319))
set_option maxHeartbeats 1000000 in
theorem high_w (p : Nat × Int × Bool) (w : World) : Calls Try.prog 28 #[pieceOf p] w fun e w' => e = .returned (.bool (highF p)) ∧ Below w.heap.size w w' := by
  obtain ⟨sz, m, f⟩ := p
  show Calls _ _ #[.agg #[.int .i64 (sz : Int), .int .i64 m, .bool f]] _ _
  go_enter Try.func28, Try.ntmps28
  go_wp2_with fail
  all_goals
    go_ret
    refine ⟨?_, by go_grown⟩
    show Ending.returned (.bool _) = Ending.returned (.bool _)
    simp_all [highF]
    try omega
def lowF (p : Nat × Int × Bool) : Bool := p.2.2 && (decide (56320 ≤ p.2.1) && decide (p.2.1 ≤ 57343))
set_option maxHeartbeats 1000000 in
theorem low_w (p : Nat × Int × Bool) (w : World) : Calls Try.prog 29 #[pieceOf p] w fun e w' => e = .returned (.bool (lowF p)) ∧ Below w.heap.size w w' := by
  obtain ⟨sz, m, f⟩ := p
  show Calls _ _ #[.agg #[.int .i64 (sz : Int), .int .i64 m, .bool f]] _ _
  go_enter Try.func29, Try.ntmps29
  go_wp2_with fail
  all_goals
    go_ret
    refine ⟨?_, by go_grown⟩
    show Ending.returned (.bool _) = Ending.returned (.bool _)
    simp_all [lowF]
    try omega
/-- A slice of these bytes, in memory of its own. -/
def Bytes (bs : List UInt8) (w : World) (e : Ending) (w' : World) : Prop :=
  ∃ g cap, e = .returned (.slice (some ⟨g, 0, none⟩) bs.length cap) ∧ (∀ j u, (Lib.byteCells bs)[j]? = some u → w'.cell? ⟨g, j, none⟩ = some u) ∧ Below w.heap.size w w'
theorem bytes_of (w : World) (bs : List UInt8) (cs : Array Value) (T : TypeId) (n cap : Nat) (hn : n = bs.length) (hc : cs.toList = Lib.byteCells bs) :
    Bytes bs w (.returned (.slice (some ⟨w.heap.size, 0, none⟩) n cap)) (w.alloc (.cells cs T)) := by
  subst hn
  refine ⟨w.heap.size, cap, rfl, ?_, (Below.refl _ w).alloc (Nat.le_refl _) _⟩
  intro j u hu
  rw [cell_of_row _ _ j _ _ _ (heap_alloc_new w _), ← Array.getElem?_toList, hc]
  exact hu
set_option maxHeartbeats 1000000 in
theorem char_one (r : Int) (h0 : 0 ≤ r) (h1 : r < 128) (w : World) : Calls Try.prog 30 #[.int .i64 r] w (Bytes (encL r) w) := by
  have he : Lib.byteCells (encL r) = [.int .u8 (r)] := by
    rw [enc_one h0 h1]; simp only [Lib.byteCells, List.map_cons, List.map_nil]; rw [toB_cell (by omega) (by omega)]
  have hl : 1 = (encL r).length := by rw [enc_one h0 h1]; rfl
  have HE := Lib.hid he; have HL := Lib.hid hl; clear he hl
  go_enter Try.func30, Try.ntmps30
  go_wp2_with fail
  go_ret
  exact bytes_of w (encL r) _ _ _ _ HL.out HE.out.symm
set_option maxHeartbeats 1000000 in
theorem char_two (r : Int) (h0 : 128 ≤ r) (h1 : r < 2048) (w : World) : Calls Try.prog 30 #[.int .i64 r] w (Bytes (encL r) w) := by
  have he : Lib.byteCells (encL r) = [.int .u8 (192 + r / 64), .int .u8 (128 + r % 64)] := by
    rw [enc_two h0 h1]; simp only [Lib.byteCells, List.map_cons, List.map_nil]; rw [toB_cell (by omega) (by omega), toB_cell (by omega) (by omega)]
  have hl : 2 = (encL r).length := by rw [enc_two h0 h1]; rfl
  have HE := Lib.hid he; have HL := Lib.hid hl; clear he hl
  go_enter Try.func30, Try.ntmps30
  go_wp2_with fail
  go_ret
  exact bytes_of w (encL r) _ _ _ _ HL.out HE.out.symm
set_option maxHeartbeats 1000000 in
theorem char_three (r : Int) (h0 : 2048 ≤ r) (h1 : r < 65536) (hs : ¬(55296 ≤ r ∧ r ≤ 57343)) (w : World) : Calls Try.prog 30 #[.int .i64 r] w (Bytes (encL r) w) := by
  have he : Lib.byteCells (encL r) = [.int .u8 (224 + r / 4096), .int .u8 (128 + r / 64 % 64), .int .u8 (128 + r % 64)] := by
    rw [enc_three h0 h1 hs]; simp only [Lib.byteCells, List.map_cons, List.map_nil]; rw [toB_cell (by omega) (by omega), toB_cell (by omega) (by omega), toB_cell (by omega) (by omega)]
  have hl : 3 = (encL r).length := by rw [enc_three h0 h1 hs]; rfl
  have HE := Lib.hid he; have HL := Lib.hid hl; clear he hl
  go_enter Try.func30, Try.ntmps30
  go_wp2_with fail
  go_ret
  exact bytes_of w (encL r) _ _ _ _ HL.out HE.out.symm
set_option maxHeartbeats 1000000 in
theorem char_four (r : Int) (h0 : 65536 ≤ r) (h1 : r ≤ 1114111) (w : World) : Calls Try.prog 30 #[.int .i64 r] w (Bytes (encL r) w) := by
  have he : Lib.byteCells (encL r) = [.int .u8 (240 + r / 262144), .int .u8 (128 + r / 4096 % 64), .int .u8 (128 + r / 64 % 64), .int .u8 (128 + r % 64)] := by
    rw [enc_four h0 h1]; simp only [Lib.byteCells, List.map_cons, List.map_nil]; rw [toB_cell (by omega) (by omega), toB_cell (by omega) (by omega), toB_cell (by omega) (by omega), toB_cell (by omega) (by omega)]
  have hl : 4 = (encL r).length := by rw [enc_four h0 h1]; rfl
  have HE := Lib.hid he; have HL := Lib.hid hl; clear he hl
  go_enter Try.func30, Try.ntmps30
  go_wp2_with fail
  go_ret
  exact bytes_of w (encL r) _ _ _ _ HL.out HE.out.symm
theorem char_w (r : Int) (h0 : 0 ≤ r) (h1 : r ≤ 1114111) (hs : ¬(55296 ≤ r ∧ r ≤ 57343)) (w : World) : Calls Try.prog 30 #[.int .i64 r] w (Bytes (encL r) w) := by
  by_cases a : r < 128
  · exact char_one r h0 a w
  by_cases b : r < 2048
  · exact char_two r (by omega) b w
  by_cases c : r < 65536
  · exact char_three r (by omega) c hs w
  · exact char_four r (by omega) h1 w
end Go.Proofs.Ytlfkhfmepcnfeaa.Txt
