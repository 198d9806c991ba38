/- The walk of the reference's Form. -/
import Derived.Test.YtpdglihihpopeaaUtfZ
import Derived.Maps.AppendAt
import Derived.Deep.AppendLies
import Derived.OwnWalk
import Derived.Laws.OwnMore
namespace Go.Proofs.Ytpdglihihpopeaa.Utf
set_option linter.unusedVariables false
set_option linter.unusedSimpArgs false
open Go.RowKit Go.Proofs.Ytpdglihihpopeaa.Mem
theorem u8_info : (Try.prog.info? 5).map (fun i => (i.zero, i.size, i.bytes)) = some (some (.int .u8 0), 1, 1) := by kernel_rfl
theorem info_parts {P : Program} {t : TypeId} {z : Value} {a b : Nat} (h : (P.info? t).map (fun i => (i.zero, i.size, i.bytes)) = some (some z, a, b)) : ∃ i, P.info? t = some i ∧ i.zero = some z ∧ i.size = a ∧ i.bytes = b := by
  cases hq : P.info? t with
  | none => rw [hq] at h; cases h
  | some i => rw [hq] at h; simp at h; exact ⟨i, rfl, h.1, h.2.1, h.2.2⟩
/-- A slice of these bytes, in memory of its own. -/
def Formed (bs : List Int) (w : World) (e : Ending) (w' : World) : Prop :=
  ∃ g cap, e = .returned (.slice (some ⟨g, 0, none⟩) bs.length cap) ∧ (∀ j u, (bs.map (Value.int .u8))[j]? = some u → w'.cell? ⟨g, j, none⟩ = some u) ∧ Below w.heap.size w w'
theorem formed_of (w w1 : World) (xs : List Int) (zs : Array Value) (T : TypeId) (cap : Nat) (hw : w1.heap.size = w.heap.size + 1) (hb : Below w.heap.size w w1) :
    Formed xs w (.returned (.slice (some ⟨w.heap.size + 1, 0, none⟩) xs.length cap)) ((w1.alloc (.cells ((xs.map (Value.int .u8)).toArray ++ zs) T)).drew) := by
  refine ⟨w.heap.size + 1, cap, rfl, ?_, ?_⟩
  · intro j u hu
    have hbl : ((w1.alloc (.cells ((xs.map (Value.int .u8)).toArray ++ zs) T)).drew).heap[w.heap.size + 1]? = some (.cells ((xs.map (Value.int .u8)).toArray ++ zs) T (0, 0)) := by
      have := heap_alloc_new w1 (.cells ((xs.map (Value.int .u8)).toArray ++ zs) T)
      rw [hw] at this
      exact this
    rw [cell_of_row _ _ j _ _ _ hbl]
    have hj := (List.getElem?_eq_some_iff.1 hu).1
    rw [Array.getElem?_append_left (by simpa using hj)]
    simpa using hu
  · have := hb.alloc (by omega) (.cells ((xs.map (Value.int .u8)).toArray ++ zs) T)
    exact bdrewN this 1
set_option maxHeartbeats 1000000 in
theorem form_one (r : Int) (h0 : 0 ≤ r) (h1 : r < 128) (w : World) :
    Calls Try.prog 19 #[.int .i32 r] w (Formed [r] w) := by
  have hz : sizeF r = 1 := by unfold sizeF; rw [if_neg (by omega), if_pos (by omega)]
  obtain ⟨i0, hi, hz0, hz1, hz2⟩ := info_parts u8_info
  have HS := Lib.hid (fun w1 => hz ▸ rsize_w r w1)
  clear hz
  go_enter Try.func19, Try.ntmps19
  go_wp2_with fail
  refine (HS.out _).mono ?_; rintro e w1 ⟨rfl, rfl⟩
  go_wp2_with fail
  go_ret
  exact formed_of w _ [r] _ _ _ (by simp) ((Below.refl _ w).alloc (Nat.le_refl _) _)
set_option maxHeartbeats 1000000 in
theorem form_two (r : Int) (h1 : 128 ≤ r) (h2 : r < 2048) (w : World) :
    Calls Try.prog 19 #[.int .i32 r] w (Formed [192 + r / 64, 128 + r % 64] w) := by
  have hz : sizeF r = 2 := by unfold sizeF; rw [if_neg (by omega), if_neg (by omega), if_pos (by omega)]
  obtain ⟨i0, hi, hz0, hz1, hz2⟩ := info_parts u8_info
  have HS := Lib.hid (fun w1 => hz ▸ rsize_w r w1)
  clear hz
  go_enter Try.func19, Try.ntmps19
  go_wp2_with fail
  refine (HS.out _).mono ?_; rintro e w1 ⟨rfl, rfl⟩
  go_wp2_with fail
  go_ret
  exact formed_of w _ [192 + r / 64, 128 + r % 64] _ _ _ (by simp) ((Below.refl _ w).alloc (Nat.le_refl _) _)
set_option maxHeartbeats 1000000 in
theorem form_three (r : Int) (h1 : 2048 ≤ r) (h2 : r < 65536) (hs : ¬(55296 ≤ r ∧ r ≤ 57343)) (w : World) :
    Calls Try.prog 19 #[.int .i32 r] w (Formed [224 + r / 4096, 128 + r / 64 % 64, 128 + r % 64] w) := by
  have hz : sizeF r = 3 := by unfold sizeF; rw [if_neg (by omega), if_neg (by omega), if_neg (by omega), if_pos (by omega)]
  obtain ⟨i0, hi, hz0, hz1, hz2⟩ := info_parts u8_info
  have HS := Lib.hid (fun w1 => hz ▸ rsize_w r w1)
  clear hz
  go_enter Try.func19, Try.ntmps19
  go_wp2_with fail
  refine (HS.out _).mono ?_; rintro e w1 ⟨rfl, rfl⟩
  go_wp2_with fail
  go_ret
  exact formed_of w _ [224 + r / 4096, 128 + r / 64 % 64, 128 + r % 64] _ _ _ (by simp) ((Below.refl _ w).alloc (Nat.le_refl _) _)
set_option maxHeartbeats 1000000 in
theorem form_four (r : Int) (h1 : 65536 ≤ r) (h2 : r ≤ 1114111) (w : World) :
    Calls Try.prog 19 #[.int .i32 r] w (Formed [240 + r / 262144, 128 + r / 4096 % 64, 128 + r / 64 % 64, 128 + r % 64] w) := by
  have hz : sizeF r = 4 := by unfold sizeF; rw [if_neg (by omega), if_neg (by omega), if_neg (by omega), if_neg (by omega)]
  obtain ⟨i0, hi, hz0, hz1, hz2⟩ := info_parts u8_info
  have HS := Lib.hid (fun w1 => hz ▸ rsize_w r w1)
  clear hz
  go_enter Try.func19, Try.ntmps19
  go_wp2_with fail
  refine (HS.out _).mono ?_; rintro e w1 ⟨rfl, rfl⟩
  go_wp2_with fail
  go_ret
  exact formed_of w _ [240 + r / 262144, 128 + r / 4096 % 64, 128 + r / 64 % 64, 128 + r % 64] _ _ _ (by simp) ((Below.refl _ w).alloc (Nat.le_refl _) _)
set_option maxHeartbeats 1000000 in
theorem form_none (r : Int) (h : sizeF r = 0) (w : World) :
    Calls Try.prog 19 #[.int .i32 r] w fun e w' => e = .returned (.slice none 0 0) ∧ w = w' := by
  have HS := Lib.hid (fun w1 => h ▸ rsize_w r w1)
  clear h
  go_enter Try.func19, Try.ntmps19
  go_wp2_with fail
  refine (HS.out _).mono ?_; rintro e w1 ⟨rfl, rfl⟩
  go_wp2_with fail
  go_ret
  exact ⟨rfl, rfl⟩
end Go.Proofs.Ytpdglihihpopeaa.Utf
