/- The walk of down. (Printed by gen_down.py.) -/
import Derived.Test.YtcgfkmjlgblkcaaPatU
namespace Go.Proofs.Ytcgfkmjlgblkcaa.Pat
set_option linter.unusedVariables false
set_option linter.unusedSimpArgs false
open Go.RowKit Go.Proofs.Ytcgfkmjlgblkcaa.Mem Go.Proofs.Ytcgfkmjlgblkcaa.Own

theorem quiet_add {P : Program} {f : FuncId} {args : Array Value} {w : World} {a n : Nat} {v : Value}
    (h : Calls P f args (w.drewN (a + n)) fun e w' => e = .returned v ∧ ∃ m, w' = (w.drewN (a + n)).drewN m) :
    Calls P f args (w.drewN (a + n)) fun e w'' => e = .returned v ∧ ∃ m, w'' = w.drewN (a + m) :=
  h.mono fun _ _ ⟨he, m, hm⟩ => ⟨he, n + m, by rw [hm, World.drewN_drewN, Nat.add_assoc]⟩
def DownPost (w : World) (B p m g cap : Nat) (room age : Int) (M : List Ent) (e : Ending) (w' : World) : Prop :=
  ∃ (M' : List Ent), e = .returned (.tuple #[]) ∧ M'.Perm M ∧ Full w' B p m g cap room age M' ∧ Heap M' ∧ Touch (Foot g M) w w'
def DownRel (w : World) (B p m g cap : Nat) (room age : Int) (M : List Ent) (i : Nat) (v : Value) (wr : World) : Prop :=
  ∃ (M' : List Ent) (i' : Nat), v = .int .i64 (i' : Int) ∧ i' < M'.length ∧ M'.Perm M ∧ Hole wr B p m g cap room age M' i' ∧ at_ M' i' = at_ M i ∧ HeapBut M' i' ∧ UpOk M' i' ∧ Touch (Foot g M) w wr
set_option maxHeartbeats 8000000 in
theorem down_w (B p m g cap : Nat) (room age : Int) (M : List Ent) (i : Int) (w : World) (h0 : 0 ≤ i) (hi : i.toNat < M.length) (hM : M.length < 140737488355328) (hl : Loose w B p m g cap room age M i.toNat) (hb : HeapBut M i.toNat) (hu : UpOk M i.toNat) :
    Calls Try.prog 46 #[.pointer (some ⟨p, 3, none⟩), .int .i64 i] w (DownPost w B p m g cap room age M) := by
  obtain ⟨k, rfl⟩ := Int.eq_ofNat_of_zero_le h0
  simp only [Int.toNat_natCast] at *
  have p3 : w.cell? ⟨p, 3, none⟩ = some (.slice (some ⟨g, 0, none⟩) M.length cap) := Blk.cell hl.pb 3
  have gi : w.cell? ⟨g, k, none⟩ = some (.pointer (some ⟨(at_ M k).b, 0, none⟩)) := by rw [hl.row.cellAt k (by omega)]; exact ptrs_at M k hi
  have hrel0 : DownRel w B p m g cap room age M k (.int .i64 (k : Int)) w := ⟨M, k, rfl, hi, List.Perm.refl _, hl.hole, rfl, hb, hu, Touch.refl _ _⟩
  generalize hX : at_ M k = X at *
  have HX := Lib.hid hX; clear hX
  go_enter Try.func46, Try.ntmps46
  go_wp2_with fail
  clear p3 gi
  go_loopw [1, 5] (fun v _ wr => DownRel w B p m g cap room age M k v wr) (fun v _ _ => M.length - (intOf v).toNat)
  case atStart => exact hrel0
  case round =>
    obtain ⟨M', j, rfl, hj, hp, hh, hx, hbt, hup, ht⟩ := hrel
    have hxx : at_ M' j = X := hx.trans HX.out
    obtain ⟨xs, hr, hxs⟩ := hh.row
    have hn : M'.length = M.length := hp.length_eq
    obtain ⟨kh, hkh⟩ := hh.here
    rw [hxx] at hkh
    have HXX := Lib.hid hxx
    have HN := Lib.hid hn
    have hMM : M'.length < 140737488355328 := by omega
    have HXB := Lib.hid hx
    clear hx hxx hn hrel0 hl hb hu
    have c3 : wr.cell? ⟨p, 3, none⟩ = some (.slice (some ⟨g, 0, none⟩) M'.length cap) := Blk.cell hh.pb 3
    have c4 : wr.cell? ⟨p, 4, none⟩ = some (.func (.func 27) #[] #[]) := Blk.cell hh.pb 4
    obtain ⟨c, hc⟩ : ∃ c : Nat, c = 2 * j + 1 := ⟨_, rfl⟩
    have hcI : 2 * (j : Int) + 1 = (c : Int) := by omega
    obtain ⟨d, hd⟩ : ∃ d : Nat, d = c + 1 := ⟨_, rfl⟩
    have hdI : (c : Int) + 1 = (d : Int) := by omega
    have wd : IntKind.i64.wrap ((c : Int) + 1) = (d : Int) := by rw [IntWalk.i64_in _ (by omega)]; exact hdI
    have HC := Lib.hid hc
    have HD := Lib.hid hd
    have hjc : j < c := by omega
    have hcd : c < d := by omega
    clear hc hd
    by_cases hA : d < M'.length
    · have tA : decide ((d : Int) < (M'.length : Int)) = true := by simp; omega
      have tA' : decide (d < M'.length) = true := decide_eq_true hA
      have cc : wr.cell? ⟨g, c, none⟩ = some (.pointer (some ⟨(at_ M' c).b, 0, none⟩)) := by rw [hr.cellAt _ (by omega)]; exact hxs _ (by omega) (by omega)
      have cd : wr.cell? ⟨g, d, none⟩ = some (.pointer (some ⟨(at_ M' d).b, 0, none⟩)) := by rw [hr.cellAt _ (by omega)]; exact hxs _ (by omega) (by omega)
      have yc : EntAt wr (at_ M' c) c := hh.ents _ (by omega) (by omega)
      have yd : EntAt wr (at_ M' d) d := hh.ents _ (by omega) (by omega)
      have HL := Lib.hid (fun w => less_w (at_ M' d) (at_ M' c) d c w)
      by_cases hlt : Lt (at_ M' d) (at_ M' c)
      · have lt := ltB_true hlt
        go_wp2_with fail
        go_quiet ((go_at_call 27; exact Calls.quiet_of (HL.out _ yd yc)))
        go_wp2_with fail
        have hmin : ∀ z, 0 < z → z < M'.length → (z - 1) / 2 = j → ¬ Lt (at_ M' z) (at_ M' d) := fun z z0 z1 z2 => by
          have := HC.out; have := HD.out
          rcases (by omega : z = c ∨ z = d) with rfl | rfl
          · exact Lt.asymm hlt
          · exact fun h => Lt.asymm h h
        clear hlt lt
        have tB : decide ((M'.length : Int) ≤ (d : Int)) = false := by simp; omega
        have tB' : decide (M'.length ≤ d) = false := decide_eq_false (by omega)
        have HL2 := Lib.hid (fun w => less_w (at_ M' d) X d kh w)
        by_cases hxl : Lt (at_ M' d) X
        · have lt := ltB_true hxl
          go_quiet ((go_at_call 27; exact quiet_add (HL2.out _ yd hkh)))
          have HP := fun W => Lib.hid (put_w p m g M'.length cap room age (at_ M' d) d (j : Int) B xs (wr.drewN W) hh.pb hMM hr yd (by omega) (by omega))
          go_wp2_with fail
          refine (HP _).out.mono ?_; rintro e w2 ⟨rfl, rfl⟩
          go_wp2_with fail
          go_roundw
          case rel =>
            have := HC.out; have := HD.out
            have hst := down_step hj (by omega) (by omega) (by omega) hbt (by rw [HXX.out]; exact hxl) hmin
            have hpt := fun W => (hh.drewN W).put hj (q := d) (by omega) (by omega)
            refine ⟨swp M' j d, d, rfl, by rw [swp_length]; omega, (swp_perm M' j d hj (by omega)).trans hp, hpt _, ?_, hst.1, hst.2, ?_⟩
            · rw [at_swp M' j d d hj (by omega), if_pos rfl, HXB.out]
            · refine ((ht.drewN _).setCell (a := ⟨g, j, none⟩) (.inl (.inl rfl)) _).setCell (a := ⟨(at_ M' d).b, 5, none⟩) (.inl (.inr ?_)) _
              exact (hp.map Ent.b).mem_iff.1 (at_mem (by omega))
          case measure => have := HN.out; simp [intOf]; omega
        · have lt := ltB_false hxl
          go_quiet ((go_at_call 27; exact quiet_add (HL2.out _ yd hkh)))
          have HP := fun W => Lib.hid (put_w p m g M'.length cap room age X kh (j : Int) B xs (wr.drewN W) hh.pb hMM hr hkh (by omega) (by omega))
          go_wp2_with fail
          refine (HP _).out.mono ?_; rintro e w2 ⟨rfl, rfl⟩
          go_wp2_with fail
          go_end0
          have hf := fun W => (hh.drewN W).fill hj
          rw [HXX.out] at hf
          refine ⟨M', rfl, hp, hf _, hbt.heap hup ?_, ?_⟩
          rotate_left
          · refine ((ht.drewN _).setCell (a := ⟨g, j, none⟩) (.inl (.inl rfl)) _).setCell (a := ⟨X.b, 5, none⟩) (.inl (.inr ?_)) _
            rw [← HXX.out]; exact (hp.map Ent.b).mem_iff.1 (at_mem hj)
          · intro z z0 z1 z2
            rw [HXX.out]
            exact nlt_trans hxl (hmin z z0 z1 z2)
      · have lt := ltB_false hlt
        go_wp2_with fail
        go_quiet ((go_at_call 27; exact Calls.quiet_of (HL.out _ yd yc)))
        go_wp2_with fail
        have hmin : ∀ z, 0 < z → z < M'.length → (z - 1) / 2 = j → ¬ Lt (at_ M' z) (at_ M' c) := fun z z0 z1 z2 => by
          have := HC.out; have := HD.out
          rcases (by omega : z = c ∨ z = d) with rfl | rfl
          · exact fun h => Lt.asymm h h
          · exact hlt
        clear hlt lt
        have tB : decide ((M'.length : Int) ≤ (c : Int)) = false := by simp; omega
        have tB' : decide (M'.length ≤ c) = false := decide_eq_false (by omega)
        have HL2 := Lib.hid (fun w => less_w (at_ M' c) X c kh w)
        by_cases hxl : Lt (at_ M' c) X
        · have lt := ltB_true hxl
          go_quiet ((go_at_call 27; exact quiet_add (HL2.out _ yc hkh)))
          have HP := fun W => Lib.hid (put_w p m g M'.length cap room age (at_ M' c) c (j : Int) B xs (wr.drewN W) hh.pb hMM hr yc (by omega) (by omega))
          go_wp2_with fail
          refine (HP _).out.mono ?_; rintro e w2 ⟨rfl, rfl⟩
          go_wp2_with fail
          go_roundw
          case rel =>
            have := HC.out; have := HD.out
            have hst := down_step hj (by omega) (by omega) (by omega) hbt (by rw [HXX.out]; exact hxl) hmin
            have hpt := fun W => (hh.drewN W).put hj (q := c) (by omega) (by omega)
            refine ⟨swp M' j c, c, rfl, by rw [swp_length]; omega, (swp_perm M' j c hj (by omega)).trans hp, hpt _, ?_, hst.1, hst.2, ?_⟩
            · rw [at_swp M' j c c hj (by omega), if_pos rfl, HXB.out]
            · refine ((ht.drewN _).setCell (a := ⟨g, j, none⟩) (.inl (.inl rfl)) _).setCell (a := ⟨(at_ M' c).b, 5, none⟩) (.inl (.inr ?_)) _
              exact (hp.map Ent.b).mem_iff.1 (at_mem (by omega))
          case measure => have := HN.out; simp [intOf]; omega
        · have lt := ltB_false hxl
          go_quiet ((go_at_call 27; exact quiet_add (HL2.out _ yc hkh)))
          have HP := fun W => Lib.hid (put_w p m g M'.length cap room age X kh (j : Int) B xs (wr.drewN W) hh.pb hMM hr hkh (by omega) (by omega))
          go_wp2_with fail
          refine (HP _).out.mono ?_; rintro e w2 ⟨rfl, rfl⟩
          go_wp2_with fail
          go_end0
          have hf := fun W => (hh.drewN W).fill hj
          rw [HXX.out] at hf
          refine ⟨M', rfl, hp, hf _, hbt.heap hup ?_, ?_⟩
          rotate_left
          · refine ((ht.drewN _).setCell (a := ⟨g, j, none⟩) (.inl (.inl rfl)) _).setCell (a := ⟨X.b, 5, none⟩) (.inl (.inr ?_)) _
            rw [← HXX.out]; exact (hp.map Ent.b).mem_iff.1 (at_mem hj)
          · intro z z0 z1 z2
            rw [HXX.out]
            exact nlt_trans hxl (hmin z z0 z1 z2)
    · have tA : decide ((d : Int) < (M'.length : Int)) = false := by simp; omega
      have tA' : decide (d < M'.length) = false := decide_eq_false hA
      go_wp2_with fail
      go_quiet (fail)
      go_wp2_with fail
      by_cases hB : c < M'.length
      · have cc : wr.cell? ⟨g, c, none⟩ = some (.pointer (some ⟨(at_ M' c).b, 0, none⟩)) := by rw [hr.cellAt _ (by omega)]; exact hxs _ (by omega) (by omega)
        have yc : EntAt wr (at_ M' c) c := hh.ents _ (by omega) (by omega)
        have hmin : ∀ z, 0 < z → z < M'.length → (z - 1) / 2 = j → ¬ Lt (at_ M' z) (at_ M' c) := fun z z0 z1 z2 => by
          have := HC.out; have := HD.out
          obtain rfl : z = c := by omega
          exact fun h => Lt.asymm h h
        have tB : decide ((M'.length : Int) ≤ (c : Int)) = false := by simp; omega
        have tB' : decide (M'.length ≤ c) = false := decide_eq_false (by omega)
        have HL2 := Lib.hid (fun w => less_w (at_ M' c) X c kh w)
        by_cases hxl : Lt (at_ M' c) X
        · have lt := ltB_true hxl
          go_quiet ((go_at_call 27; exact quiet_add (HL2.out _ yc hkh)))
          have HP := fun W => Lib.hid (put_w p m g M'.length cap room age (at_ M' c) c (j : Int) B xs (wr.drewN W) hh.pb hMM hr yc (by omega) (by omega))
          go_wp2_with fail
          refine (HP _).out.mono ?_; rintro e w2 ⟨rfl, rfl⟩
          go_wp2_with fail
          go_roundw
          case rel =>
            have := HC.out; have := HD.out
            have hst := down_step hj (by omega) (by omega) (by omega) hbt (by rw [HXX.out]; exact hxl) hmin
            have hpt := fun W => (hh.drewN W).put hj (q := c) (by omega) (by omega)
            refine ⟨swp M' j c, c, rfl, by rw [swp_length]; omega, (swp_perm M' j c hj (by omega)).trans hp, hpt _, ?_, hst.1, hst.2, ?_⟩
            · rw [at_swp M' j c c hj (by omega), if_pos rfl, HXB.out]
            · refine ((ht.drewN _).setCell (a := ⟨g, j, none⟩) (.inl (.inl rfl)) _).setCell (a := ⟨(at_ M' c).b, 5, none⟩) (.inl (.inr ?_)) _
              exact (hp.map Ent.b).mem_iff.1 (at_mem (by omega))
          case measure => have := HN.out; simp [intOf]; omega
        · have lt := ltB_false hxl
          go_quiet ((go_at_call 27; exact quiet_add (HL2.out _ yc hkh)))
          have HP := fun W => Lib.hid (put_w p m g M'.length cap room age X kh (j : Int) B xs (wr.drewN W) hh.pb hMM hr hkh (by omega) (by omega))
          go_wp2_with fail
          refine (HP _).out.mono ?_; rintro e w2 ⟨rfl, rfl⟩
          go_wp2_with fail
          go_end0
          have hf := fun W => (hh.drewN W).fill hj
          rw [HXX.out] at hf
          refine ⟨M', rfl, hp, hf _, hbt.heap hup ?_, ?_⟩
          rotate_left
          · refine ((ht.drewN _).setCell (a := ⟨g, j, none⟩) (.inl (.inl rfl)) _).setCell (a := ⟨X.b, 5, none⟩) (.inl (.inr ?_)) _
            rw [← HXX.out]; exact (hp.map Ent.b).mem_iff.1 (at_mem hj)
          · intro z z0 z1 z2
            rw [HXX.out]
            exact nlt_trans hxl (hmin z z0 z1 z2)
      · have tB : decide ((M'.length : Int) ≤ (c : Int)) = true := by simp; omega
        have tB' : decide (M'.length ≤ c) = true := decide_eq_true (by omega)
        go_quiet (fail)
        have HP := fun W => Lib.hid (put_w p m g M'.length cap room age X kh (j : Int) B xs (wr.drewN W) hh.pb hMM hr hkh (by omega) (by omega))
        go_wp2_with fail
        refine (HP _).out.mono ?_; rintro e w2 ⟨rfl, rfl⟩
        go_wp2_with fail
        go_end0
        have hf := fun W => (hh.drewN W).fill hj
        rw [HXX.out] at hf
        refine ⟨M', rfl, hp, hf _, hbt.heap hup ?_, ?_⟩
        rotate_left
        · refine ((ht.drewN _).setCell (a := ⟨g, j, none⟩) (.inl (.inl rfl)) _).setCell (a := ⟨X.b, 5, none⟩) (.inl (.inr ?_)) _
          rw [← HXX.out]; exact (hp.map Ent.b).mem_iff.1 (at_mem hj)
        · intro z z0 z1 z2
          have := HC.out
          omega
end Go.Proofs.Ytcgfkmjlgblkcaa.Pat
