/- The law Utf8Farthest: its walk. -/
import Derived.Test.YtpdglihihpopeaaUtfH
import Derived.Laws.IdiomStrings
import Derived.WalkSpells
namespace Go.Proofs.Ytpdglihihpopeaa.Utf
set_option linter.unusedVariables false
set_option linter.unusedSimpArgs false
open Go.RowKit Go.Proofs.Ytpdglihihpopeaa.Mem

theorem goes_yes (s : ByteArray) (hs : s.size ≤ 140737488351232) (h : (runL sc0 s.data.toList).bad = false) (w : World) :
    Calls Try.prog 13 #[.string s] w fun e w' => e = .returned (.bool true) ∧ Below w.heap.size w w' :=
  (goes_w s hs w).mono fun e w' ⟨⟨b, he, hb⟩, hw⟩ => ⟨by rw [he, hb.2 (go_on _ h)], hw⟩
theorem goes_no (s : ByteArray) (hs : s.size ≤ 140737488351232) (h : (runL sc0 s.data.toList).bad = true) (w : World) :
    Calls Try.prog 13 #[.string s] w fun e w' => e = .returned (.bool false) ∧ Below w.heap.size w w' :=
  (goes_w s hs w).mono fun e w' ⟨⟨b, he, hb⟩, hw⟩ => ⟨by
    rw [he]; cases b with
    | false => rfl
    | true => exact absurd (hb.1 rfl) (goes_not _ h), hw⟩
theorem ext_list (s : ByteArray) (k : Nat) : (s.extract 0 k).data.toList = s.data.toList.take k := by simp
set_option maxHeartbeats 2000000 in
set_option maxRecDepth 100000 in
theorem farthest (s : ByteArray) (hs : s.size ≤ 140737488351232) (w : World) : Calls Try.prog 4 #[.string s] w fun e w' => e = .returned (.bool true) ∧ Below w.heap.size w w' := by
  have b1 : badF ⟨#[97, 255]⟩ = 1 := by decide
  have HB1 := Lib.hid (fun w1 => b1 ▸ bad_w ⟨#[97, 255]⟩ (by decide) w1)
  clear b1
  rcases bad_cases s.data.toList with ⟨hm, -, -⟩ | ⟨k, hk, hm, hnb, hrest⟩
  · rw [← badF_run] at hm
    have HB := Lib.hid (fun w1 => hm ▸ bad_w s (by omega) w1)
    clear hm
    go_enter Try.func4, Try.ntmps4
    go_wp2_with fail
    refine (HB.out _).mono ?_; rintro e w1 ⟨rfl, hb1⟩
    go_wp2_with fail
    refine (HB1.out _).mono ?_; rintro e w2 ⟨rfl, hb2⟩
    go_wp2_with fail
    go_ret
    exact ⟨rfl, bthen hb1 hb2⟩
  · rw [← badF_run] at hm
    have hks : k ≤ s.size := by simpa using hk
    have HB := Lib.hid (fun w1 => hm ▸ bad_w s (by omega) w1)
    have HG := Lib.hid (fun w1 => goes_yes (s.extract 0 k) (by simp; omega) (by rw [ext_list]; exact hnb) w1)
    have hnb' := Lib.hid hnb
    clear hm hnb hk
    have t1 : ((k : Int) == -1) = false := by simp
    have t2 : decide ((k : Int) < 0) = false := by simp
    rcases hrest with ⟨hk, -⟩ | ⟨hk, hb⟩
    · obtain rfl : k = s.size := by simpa using hk
      have t3 : decide ((s.size : Int) > (s.size : Int)) = false := by simp
      have HG := Lib.hid (fun w1 => goes_yes s hs (by have := hnb'.out; rwa [List.take_of_length_le (by simp)] at this) w1)
      clear hk
      go_enter Try.func4, Try.ntmps4
      go_wp2_with fail
      refine (HB.out _).mono ?_; rintro e w1 ⟨rfl, hb1⟩
      go_wp2_with fail
      refine (HB1.out _).mono ?_; rintro e w2 ⟨rfl, hb2⟩
      go_wp2_with fail
      refine (HG.out _).mono ?_; rintro e w3 ⟨rfl, hb3⟩
      go_wp2_with fail
      go_ret
      exact ⟨rfl, bthen (bthen hb1 hb2) hb3⟩
    · have hk' : k < s.size := by simpa using hk
      have t3 : decide (k > s.size) = false := by simp; omega
      have t4 : decide (s.size < k) = false := by simp; omega
      have t5 : ((k : Int) == (s.size : Int)) = false := by simp; omega
      have t6 : (k == s.size) = false := by simp; omega
      have HN := Lib.hid (fun w1 => goes_no (s.extract 0 (k + 1)) (by simp; omega) (by rw [ext_list]; exact hb) w1)
      clear hk hb
      go_enter Try.func4, Try.ntmps4
      go_wp2_with fail
      refine (HB.out _).mono ?_; rintro e w1 ⟨rfl, hb1⟩
      go_wp2_with fail
      refine (HB1.out _).mono ?_; rintro e w2 ⟨rfl, hb2⟩
      go_wp2_with fail
      refine (HG.out _).mono ?_; rintro e w3 ⟨rfl, hb3⟩
      go_wp2_with fail
      refine (HN.out _).mono ?_; rintro e w4 ⟨rfl, hb4⟩
      go_wp2_with fail
      go_ret
      exact ⟨rfl, bthen (bthen (bthen hb1 hb2) hb3) hb4⟩
end Go.Proofs.Ytpdglihihpopeaa.Utf
