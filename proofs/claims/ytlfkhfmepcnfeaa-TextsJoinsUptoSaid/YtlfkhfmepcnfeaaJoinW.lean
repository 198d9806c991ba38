/- The walk of the law TextsJoins. -/
import Derived.Test.YtlfkhfmepcnfeaaJoin
namespace Go.Proofs.Ytlfkhfmepcnfeaa.Txt
set_option linter.unusedVariables false
set_option linter.unusedSimpArgs false
open Go.RowKit Go.Proofs.Ytlfkhfmepcnfeaa.Mem Go.Proofs.Ytlfkhfmepcnfeaa.Own Go.Proofs.Ytlfkhfmepcnfeaa.Utf Go.Proofs.Ytlfkhfmepcnfeaa.Bld

theorem half_low_as {s : ByteArray} {b : Bool} (h : halfL s.data.toList false = b) (w : World) : Calls Try.prog 22 #[.string s, .bool false] w fun e w' => e = .returned (.bool b) ∧ Below w.heap.size w w' := h ▸ half_low s w
theorem half_high_as {s : ByteArray} {b : Bool} (h : halfL s.data.toList true = b) (hs : s.size ≤ 2097152) (w : World) : Calls Try.prog 22 #[.string s, .bool true] w fun e w' => e = .returned (.bool b) ∧ Below w.heap.size w w' := h ▸ half_high s hs w
theorem bad_as {s : ByteArray} {v : Int} (h : badF s = v) (hs : s.size ≤ 1125899906842624) (w : World) : Calls Try.prog 19 #[.string s] w fun e w' => e = .returned (.int .i64 v) ∧ Below w.heap.size w w' := h ▸ bad_w s hs w
theorem join_un {raw more : ByteArray} {o1 o2 : List UInt8} (h1 : badF raw = -1) (h2 : badF more = -1) (u1 : unF raw.data.toList = some o1) (u2 : unF more.data.toList = some o2) (hh : ¬(halfL raw.data.toList true = true ∧ halfL more.data.toList false = true)) :
    unB (raw ++ more) = ⟨o1.toArray⟩ ++ ⟨o2.toArray⟩ ∧ unE (raw ++ more) = 0 := by
  have hl : (raw ++ more).data.toList = raw.data.toList ++ more.data.toList := by simp [ByteArray.toList_data_append]
  have hb : badF (raw ++ more) = -1 := by
    rw [badF_run] at h1 h2 ⊢
    rw [hl]
    exact good_app _ _ h1 h2
  have hu : unF (raw ++ more).data.toList = some (o1 ++ o2) := by
    rw [hl, joins _ _ (Nat.le_refl _) o1 _ u1 (fun q => hh ⟨half_is_high q.1, half_is_low q.2⟩), u2]; rfl
  obtain ⟨e1, e2⟩ := un_some hb hu
  refine ⟨?_, e2⟩
  rw [e1, ByteArray.ext_iff]
  simp
set_option maxHeartbeats 4000000 in
theorem join_law (raw more : ByteArray) (hs : raw.size + more.size ≤ 1048576) (w : World) : Calls Try.prog 8 #[.string raw, .string more] w fun e w' => e = .returned (.bool true) ∧ Below w.heap.size w w' := by
  have HU1 := Lib.hid (un_w raw (by omega))
  have HU2 := Lib.hid (un_w more (by omega))
  have HA := Lib.hid awake_w
  rcases un_cases raw with h1 | ⟨hb1, he1, o1, hu1, hB1⟩
  · have t1 : (unE raw == 0) = false := by simpa using h1
    have t2 : (unE raw != 0) = true := by simpa using h1
    clear h1
    go_enter Try.func8, Try.ntmps8
    go_wp2_with fail
    refine (HU1.out _).mono ?_; rintro e w1 ⟨rfl, hb1⟩
    go_wp2_with fail
    refine (HU2.out _).mono ?_; rintro e w2 ⟨rfl, hb2⟩
    go_wp2_with fail
    refine (HA.out _).mono ?_; rintro e w3 ⟨rfl, hb3⟩
    go_wp2_with fail
    go_ret
    exact ⟨rfl, bthen (bthen hb1 hb2) hb3⟩
  · have hol := un_len _ _ (Nat.le_refl _) o1 hu1
    rw [show raw.data.toList.length = raw.size by simp] at hol
    obtain ⟨S, hS⟩ : ∃ S : ByteArray, (⟨o1.toArray⟩ : ByteArray) = S := ⟨_, rfl⟩
    have hSl : S.data.toList = o1 := by rw [← hS]
    have hSs : S.size = o1.length := by rw [← hSl]; simp
    have HU1' := Lib.hid (un_as (hB1.trans hS) he1 (by omega))
    have hSb : badF S = -1 := by rw [badF_run, hSl]; exact un_bad hu1 (by rw [← badF_run]; exact hb1)
    have HBS := Lib.hid (bad_as hSb (by omega))
    have hE : (raw ++ ⟨#[34]⟩).data.toList = raw.data.toList ++ 34 :: [] := by simp [ByteArray.toList_data_append]
    have hq := un_qs _ _ (Nat.le_refl _) o1 hu1
    have HEN := Lib.hid (end_as hE hq (by rw [ByteArray.size_append]; show raw.size + 1 ≤ _; omega))
    rw [show raw.data.toList.length = raw.size by simp] at HEN
    have HH1 := Lib.hid (fun w => half_high raw (by omega) w)
    have HH2 := Lib.hid (fun w => half_low more w)
    clear hE hq hSb HU1
    rcases un_cases more with h2 | ⟨hb2, he2, o2, hu2, hB2⟩
    · have t1 : (unE more != 0) = true := by simpa using h2
      clear h2 hb1 he1 hu1 hB1 hS hSl hSs hol
      go_enter Try.func8, Try.ntmps8
      go_wp2_with fail
      refine (HU1'.out _).mono ?_; rintro e w1 ⟨rfl, hb1⟩
      go_wp2_with fail
      refine (HU2.out _).mono ?_; rintro e w2 ⟨rfl, hb2⟩
      go_wp2_with fail
      refine (HBS.out _).mono ?_; rintro e w3 ⟨rfl, hb3⟩
      go_wp2_with fail
      refine (HEN.out _).mono ?_; rintro e w4 ⟨rfl, rfl⟩
      go_wp2_with fail
      refine (HA.out _).mono ?_; rintro e w5 ⟨rfl, hb5⟩
      go_wp2_with fail
      go_ret
      exact ⟨rfl, bthen (bthen (bthen hb1 hb2) hb3) hb5⟩
    · obtain ⟨T, hT⟩ : ∃ T : ByteArray, (⟨o2.toArray⟩ : ByteArray) = T := ⟨_, rfl⟩
      have HU2' := Lib.hid (un_as (hB2.trans hT) he2 (by omega))
      have hol2 := un_len _ _ (Nat.le_refl _) o2 hu2
      rw [show more.data.toList.length = more.size by simp] at hol2
      have hTs : T.size = o2.length := by
        have hTl : T.data.toList = o2 := by rw [← hT]
        rw [← hTl]; simp
      have hsz : S.size + T.size ≤ 1048576 := by omega
      clear hol2 hTs
      have hj := join_un hb1 hb2 hu1 hu2
      rw [hS, hT] at hj
      cases q1 : halfL raw.data.toList true with
      | false =>
        rw [q1] at HH1
        obtain ⟨j1, j2⟩ := hj (by rw [q1]; rintro ⟨a, -⟩; cases a)
        have HJ := Lib.hid (un_as j1 j2 (by rw [ByteArray.size_append]; omega))
        clear hj j1 j2 q1 hb1 he1 hu1 hB1 hS hSl hSs hol hb2 he2 hu2 hB2 hT
        go_enter Try.func8, Try.ntmps8
        go_wp2_with fail
        refine (HU1'.out _).mono ?_; rintro e w1 ⟨rfl, hb1⟩
        go_wp2_with fail
        refine (HU2'.out _).mono ?_; rintro e w2 ⟨rfl, hb2⟩
        go_wp2_with fail
        refine (HBS.out _).mono ?_; rintro e w3 ⟨rfl, hb3⟩
        go_wp2_with fail
        refine (HEN.out _).mono ?_; rintro e w4 ⟨rfl, rfl⟩
        go_wp2_with fail
        refine (HH1.out _).mono ?_; rintro e w5 ⟨rfl, hb5⟩
        go_wp2_with fail
        refine (HJ.out _).mono ?_; rintro e w6 ⟨rfl, hb6⟩
        go_wp2_with fail
        refine (HA.out _).mono ?_; rintro e w7 ⟨rfl, hb7⟩
        go_wp2_with fail
        go_ret
        exact ⟨by simp, bthen (bthen (bthen (bthen (bthen hb1 hb2) hb3) hb5) hb6) hb7⟩
      | true =>
        rw [q1] at HH1
        cases q2 : halfL more.data.toList false with
        | false =>
          rw [q2] at HH2
          obtain ⟨j1, j2⟩ := hj (by rw [q2]; rintro ⟨-, a⟩; cases a)
          have HJ := Lib.hid (un_as j1 j2 (by rw [ByteArray.size_append]; omega))
          clear hj j1 j2 q1 q2 hb1 he1 hu1 hB1 hS hSl hSs hol hb2 he2 hu2 hB2 hT
          go_enter Try.func8, Try.ntmps8
          go_wp2_with fail
          refine (HU1'.out _).mono ?_; rintro e w1 ⟨rfl, hb1⟩
          go_wp2_with fail
          refine (HU2'.out _).mono ?_; rintro e w2 ⟨rfl, hb2⟩
          go_wp2_with fail
          refine (HBS.out _).mono ?_; rintro e w3 ⟨rfl, hb3⟩
          go_wp2_with fail
          refine (HEN.out _).mono ?_; rintro e w4 ⟨rfl, rfl⟩
          go_wp2_with fail
          refine (HH1.out _).mono ?_; rintro e w5 ⟨rfl, hb5⟩
          go_wp2_with fail
          refine (HH2.out _).mono ?_; rintro e w55 ⟨rfl, hb55⟩
          go_wp2_with fail
          refine (HJ.out _).mono ?_; rintro e w6 ⟨rfl, hb6⟩
          go_wp2_with fail
          refine (HA.out _).mono ?_; rintro e w7 ⟨rfl, hb7⟩
          go_wp2_with fail
          go_ret
          exact ⟨by simp, bthen (bthen (bthen (bthen (bthen (bthen hb1 hb2) hb3) hb5) hb55) hb6) hb7⟩
        | true =>
          rw [q2] at HH2
          clear hj q1 q2 hb1 he1 hu1 hB1 hS hSl hSs hol hb2 he2 hu2 hB2 hT
          go_enter Try.func8, Try.ntmps8
          go_wp2_with fail
          refine (HU1'.out _).mono ?_; rintro e w1 ⟨rfl, hb1⟩
          go_wp2_with fail
          refine (HU2'.out _).mono ?_; rintro e w2 ⟨rfl, hb2⟩
          go_wp2_with fail
          refine (HBS.out _).mono ?_; rintro e w3 ⟨rfl, hb3⟩
          go_wp2_with fail
          refine (HEN.out _).mono ?_; rintro e w4 ⟨rfl, rfl⟩
          go_wp2_with fail
          refine (HH1.out _).mono ?_; rintro e w5 ⟨rfl, hb5⟩
          go_wp2_with fail
          refine (HH2.out _).mono ?_; rintro e w55 ⟨rfl, hb55⟩
          go_wp2_with fail
          refine (HA.out _).mono ?_; rintro e w7 ⟨rfl, hb7⟩
          go_wp2_with fail
          go_ret
          exact ⟨rfl, bthen (bthen (bthen (bthen (bthen hb1 hb2) hb3) hb5) hb55) hb7⟩
end Go.Proofs.Ytlfkhfmepcnfeaa.Txt
