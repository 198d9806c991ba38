/- The walk of the law TextsBack. -/
import Derived.Test.YtlfkhfmepcnfeaaLawB
import Derived.Test.YtlfkhfmepcnfeaaMeans
import Derived.Test.YtlfkhfmepcnfeaaSame
namespace Go.Proofs.Ytlfkhfmepcnfeaa.Txt
set_option linter.unusedVariables false
set_option linter.unusedSimpArgs false
open Go.RowKit Go.Proofs.Ytlfkhfmepcnfeaa.Mem Go.Proofs.Ytlfkhfmepcnfeaa.Own Go.Proofs.Ytlfkhfmepcnfeaa.Utf Go.Proofs.Ytlfkhfmepcnfeaa.Bld

theorem arr_list (s : ByteArray) : (⟨s.data.toList.toArray⟩ : ByteArray) = s := by cases s; simp
theorem end_as {S : ByteArray} {R B : List UInt8} (h : S.data.toList = R ++ 34 :: B) (hq : qs false R = some false) (hs : S.size ≤ 140737488351232) (w : World) :
    Calls Try.prog 10 #[.string S, .int .i64 0] w fun e w' => e = .returned (.tuple #[.int .i64 (R.length : Int), .int .i64 0]) ∧ w = w' := by
  have e : S = ⟨(R ++ 34 :: B).toArray⟩ := by rw [← h, arr_list]
  obtain ⟨h1, h2⟩ := qs_end R B hq
  rw [← e] at h1 h2
  have := Ends.end_w S 0 hs (Nat.zero_le _) w
  rw [h1, h2] at this
  exact this
set_option maxHeartbeats 4000000 in
theorem back (s behind : ByteArray) (hs : s.size + behind.size ≤ 1048576) (w : World) : Calls Try.prog 9 #[.string s, .string behind] w fun e w' => e = .returned (.bool true) ∧ Below w.heap.size w w' := by
  have HB := Lib.hid (bad_w s (by omega))
  have HA := Lib.hid awake_w
  by_cases hb : badF s = -1
  · have tb : decide (0 ≤ badF s) = false := by rw [hb]; decide
    have hB : esB s = ⟨(escL s.data.toList).toArray⟩ ∧ esE s = 0 := by unfold esB esE; rw [if_neg (by simp [hb]), if_neg (by simp [hb])]; exact ⟨rfl, rfl⟩
    obtain ⟨R, hR⟩ : ∃ R : ByteArray, (⟨(escL s.data.toList).toArray⟩ : ByteArray) = R := ⟨_, rfl⟩
    have hRl : R.data.toList = escL s.data.toList := by rw [← hR]
    have hRs : R.size ≤ 6 * s.size := by
      have h1 := escL_len s.data.toList
      have h2 : R.data.toList.length = R.size := by simp
      rw [← h2, hRl]; simpa using h1
    have hRb : badF R = -1 := by rw [badF_run, hRl]; exact esc_badL (by rw [← badF_run]; exact hb)
    obtain ⟨hu1, hu2⟩ := un_some hRb (show unF R.data.toList = some s.data.toList by rw [hRl]; exact un_back _)
    rw [arr_list] at hu1
    have hsame : sameF R s = true := by unfold sameF; rw [hu1, hu2]; simp
    have hqs : qs false R.data.toList = some false := by rw [hRl]; exact qs_back _
    have hlow : ∀ k (h : k < R.size), 32 ≤ R[k].toNat := fun k h => low_back s.data.toList _ (by rw [← hRl]; exact Array.getElem_mem_toList _)
    have hRB : (R ++ ⟨#[34]⟩ ++ behind).data.toList = R.data.toList ++ 34 :: behind.data.toList := by simp [ByteArray.toList_data_append]
    have hRBs : (R ++ ⟨#[34]⟩ ++ behind).size ≤ 140737488351232 := by rw [ByteArray.size_append, ByteArray.size_append]; show R.size + 1 + behind.size ≤ _; omega
    have HE := Lib.hid (esc_as (hB.1.trans hR) hB.2 (by omega))
    have HU := Lib.hid (un_as hu1 hu2 (by omega))
    have HS := Lib.hid (same_as hsame (by omega))
    have HL := Lib.hid hlow
    have HEN := Lib.hid (end_as hRB hqs hRBs)
    have hlen : R.data.toList.length = R.size := by simp
    rw [hlen] at HEN
    clear hb hB hR hRl hRb hu1 hu2 hsame hqs hlow hRB hRBs hlen
    go_enter Try.func9, Try.ntmps9
    go_wp2_with fail
    refine (HE.out _).mono ?_; rintro e w1 ⟨rfl, hb1⟩
    go_wp2_with fail
    refine (HB.out _).mono ?_; rintro e w2 ⟨rfl, hb2⟩
    go_wp2_with fail
    refine (HU.out _).mono ?_; rintro e w3 ⟨rfl, hb3⟩
    have hbel := bthen (bthen hb1 hb2) hb3
    clear hb1 hb2 hb3
    go_wp2_with fail
    go_loop [9] (fun i => ∃ k : Nat, k ≤ R.size ∧ i = .int .i64 (k : Int)) (fun i => R.size - (intOf i).toNat)
    case atStart => exact ⟨0, by omega, rfl⟩
    case round =>
      obtain ⟨k, hk, rfl⟩ := hrel
      by_cases hlt : k < R.size
      · have t0 : decide ((k : Int) < (R.size : Int)) = true := by simp; omega
        have h32 := HL.out k hlt
        have t1 : decide ((R[k].toNat : Int) < 32) = false := by simp; omega
        clear h32
        go_wp2_with fail
        refine ⟨⟨k + 1, by omega, by congr 1⟩, by simp [intOf]; omega⟩
      · obtain rfl : k = R.size := by omega
        have t0 : decide ((R.size : Int) < (R.size : Int)) = false := by simp
        go_wp2_with fail
        refine (HEN.out _).mono ?_; rintro e w4 ⟨rfl, rfl⟩
        go_wp2_with fail
        refine (HS.out _).mono ?_; rintro e w5 ⟨rfl, hb5⟩
        go_wp2_with fail
        refine (HA.out _).mono ?_; rintro e w6 ⟨rfl, hb6⟩
        go_wp2_with fail
        go_ret
        exact ⟨by simp, bthen (bthen hbel hb5) hb6⟩
  · have hbn := badF_nonneg s hb
    have tb : decide (0 ≤ badF s) = true := by simpa using hbn
    have hB : esB s = .empty ∧ esE s = 50 := by unfold esB esE; rw [if_pos hb, if_pos hb]; exact ⟨rfl, rfl⟩
    have HE := Lib.hid (esc_as hB.1 hB.2 (by omega))
    clear hb hbn hB
    go_enter Try.func9, Try.ntmps9
    go_wp2_with fail
    refine (HE.out _).mono ?_; rintro e w1 ⟨rfl, hb1⟩
    go_wp2_with fail
    refine (HB.out _).mono ?_; rintro e w2 ⟨rfl, hb2⟩
    go_wp2_with fail
    refine (HA.out _).mono ?_; rintro e w3 ⟨rfl, hb3⟩
    go_wp2_with fail
    go_ret
    exact ⟨by simp, bthen (bthen hb1 hb2) hb3⟩
end Go.Proofs.Ytlfkhfmepcnfeaa.Txt
