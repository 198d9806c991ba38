/- The walks of quarryref06.Is and quarryref15.End. -/
import Derived.Test.YtlfkhfmepcnfeaaEndsT
import Derived.Maps.AppendAt
import Derived.Deep.AppendLies
import Derived.OwnWalk
import Derived.Laws.OwnMore
namespace Go.Proofs.Ytlfkhfmepcnfeaa.Ends
set_option linter.unusedVariables false
set_option linter.unusedSimpArgs false
open Go.RowKit

theorem bool_info : (Try.prog.info? 4).map (fun i => (i.zero, i.size, i.bytes)) = some (some (.bool false), 1, 1) := by kernel_rfl
def escs (f : Nat → Bool) (m : Nat) : List Value := (List.range m).map fun j => Value.bool (esc f j)
theorem escs_len (f : Nat → Bool) (m : Nat) : (escs f m).length = m := by simp [escs]
theorem escs_succ (f : Nat → Bool) (m : Nat) : escs f (m + 1) = escs f m ++ [.bool (esc f m)] := by simp [escs, List.range_succ]
theorem escs_get (f : Nat → Bool) (m j : Nat) (h : j < m) : (escs f m)[j]? = some (.bool (esc f j)) := by simp [escs, h]
set_option maxHeartbeats 1000000 in
theorem is_w (s : ByteArray) (hs : s.size ≤ 140737488351232) (w : World) :
    Calls Try.prog 25 #[.string s, .bool false] w fun e w' => ∃ g cap, e = .returned (.slice (some ⟨g, 0, none⟩) (s.size + 1) cap) ∧
      w'.ownsRow w.heap.size 4 1 (.slice (some ⟨g, 0, none⟩) (s.size + 1) cap) (s.size + 1) (escs (isB s 92) (s.size + 1)) ∧ Below w.heap.size w w' := by
  obtain ⟨i0, hi, hz0, hz1, hz2⟩ := info_parts bool_info
  go_enter Try.func25, Try.ntmps25
  go_wp2
  go_loopw [5, 6] (fun v i wr => ∃ k g cap : Nat, k ≤ s.size ∧ i = .int .i64 k ∧ v = .slice (some ⟨g, 0, none⟩) (k + 1) cap ∧ wr.ownsRow w.heap.size 4 1 (.slice (some ⟨g, 0, none⟩) (k + 1) cap) (k + 1) (escs (isB s 92) (k + 1)) ∧ Below w.heap.size w wr) (fun _ i _ => s.size - (intOf i).toNat)
  case atStart => exact ⟨0, _, _, by omega, rfl, rfl, World.ownsRow_lit w #[.bool false] 1 (Nat.le_refl _) (by unfold maxLen; omega) rfl, (Below.refl _ _).alloc (Nat.le_refl _) _⟩
  case round =>
    obtain ⟨k, g, cap, hk, rfl, rfl, hown, hbel⟩ := hrel
    have hsz := hbel.size
    by_cases hlt : k < s.size
    · have hi92 := isB_int s 92 k hlt
      have hc : wr.cell? ⟨g, k, none⟩ = some (.bool (esc (isB s 92) k)) := (hown.cellAt k (by omega)).trans (escs_get _ _ _ (by omega))
      have hstep : esc (isB s 92) (k + 1) = (isB s 92 k && !esc (isB s 92) k) := rfl
      have hnew := escs_succ (isB s 92) (k + 1)
      rw [hstep] at hnew
      have HN := Lib.hid hnew
      clear hnew hstep
      generalize esc (isB s 92) k = e0 at *
      by_cases hb : isB s 92 k = true
      · rw [hb] at hi92
        have hi' : (((s[k].toNat : Nat) : Int) == 92) = true := hi92
        clear hi92
        go_wp2_with (at_builtin; refine wpList_append_lies _ rfl _ _ 42 rfl w.heap.size 4 i0 (.bool false) 1 1 Try.underlying42 hi hz0 hz1 hz2 rfl (by decide) _ _ _ rfl (hown.alloc _) ⟨wr.heap.size, 0, none⟩ 1 1 [.bool (!e0)] rfl rfl (cell_one_new _ _ _) (by simp [Value.oneCell']) (by decide) (by unfold maxLen; omega) (by omega) (by simp; omega) (wr.heap.size + 1) (by simp) ?_; intro g2 cap2 w2 hown2 hgrow2 hat2 hlt2)
        go_roundw
        case rel => exact ⟨k + 1, g2, cap2, by omega, by go_num, rfl, by rw [HN.out, hb]; simpa using hown2, (hbel.alloc hsz _).grown hgrow2 (by simp; omega) (fun j hj => by
          have : j = g := by
            have h' : some g = some j := hj
            injection h' with h'
            exact h'.symm
          subst this
          exact (hown.lt j rfl).1)⟩
        case measure => simp [intOf]; omega
      · have hb : isB s 92 k = false := by simpa using hb
        rw [hb] at hi92
        have hi' : (((s[k].toNat : Nat) : Int) == 92) = false := hi92
        clear hi92
        go_wp2_with (at_builtin; refine wpList_append_lies _ rfl _ _ 42 rfl w.heap.size 4 i0 (.bool false) 1 1 Try.underlying42 hi hz0 hz1 hz2 rfl (by decide) _ _ _ rfl (hown.alloc _) ⟨wr.heap.size, 0, none⟩ 1 1 [.bool false] rfl rfl (cell_one_new _ _ _) (by simp [Value.oneCell']) (by decide) (by unfold maxLen; omega) (by omega) (by simp; omega) (wr.heap.size + 1) (by simp) ?_; intro g2 cap2 w2 hown2 hgrow2 hat2 hlt2)
        go_roundw
        case rel => exact ⟨k + 1, g2, cap2, by omega, by go_num, rfl, by rw [HN.out, hb]; simpa using hown2, (hbel.alloc hsz _).grown hgrow2 (by simp; omega) (fun j hj => by
          have : j = g := by
            have h' : some g = some j := hj
            injection h' with h'
            exact h'.symm
          subst this
          exact (hown.lt j rfl).1)⟩
        case measure => simp [intOf]; omega
    · obtain rfl : k = s.size := by omega
      go_wp2
      go_ret
      exact ⟨g, cap, rfl, hown, hbel⟩

set_option maxHeartbeats 1000000 in
theorem rend_w (s : ByteArray) (from_ : Nat) (hs : s.size ≤ 140737488351232) (ha : from_ ≤ s.size) (w : World) :
    Calls Try.prog 11 #[.string s, .int .i64 from_] w fun e w' => e = .returned (.tuple #[.int .i64 (endN s from_), .int .i64 (endE s from_)]) ∧ Below w.heap.size w w' := by
  have h1 : decide ((from_ : Int) < 0) = false := by simp
  have h2 : decide (s.size < from_) = false := by simp; omega
  have hsz : (s.extract from_ s.size).size = s.size - from_ := by simp
  go_enter Try.func11, Try.ntmps11
  go_wp2_with fail
  refine (is_w (s.extract from_ s.size) (by omega) _).mono ?_
  rintro e w1 ⟨g, cap, rfl, hown, hb⟩
  have hcell : ∀ j : Nat, j < s.size - from_ → w1.cell? ⟨g, j, none⟩ = some (.bool (esc (isB (s.extract from_ s.size) 92) j)) := fun j hj => (hown.cellAt j (by omega)).trans (escs_get _ _ _ (by omega))
  have hE : ∀ j : Nat, isB (s.extract from_ s.size) 34 j = isB s 34 (from_ + j) ∧ esc (isB (s.extract from_ s.size) 92) j = esc (fun j => isB s 92 (from_ + j)) j := fun j => ⟨isB_cut s 34 from_ j, by
    rw [esc_run, esc_run, run_congr j fun i _ => isB_cut s 92 from_ i]⟩
  have HE := Lib.hid hE; clear hE
  have HC := Lib.hid hcell; clear hcell
  go_wp2_with fail
  generalize ht : s.extract from_ s.size = t at *
  have HT := Lib.hid ht; clear ht
  go_loop [8] (fun i => ∃ k : Nat, k ≤ s.size - from_ ∧ i = .int .i64 k ∧ Hid (∀ j, j < k → endsAt s from_ j = false)) (fun i => s.size - from_ - (intOf i).toNat)
  case atStart => exact ⟨0, by omega, by simp, fun j hj => by omega⟩
  case round =>
    obtain ⟨k, hk, rfl, hn⟩ := hrel
    by_cases hlt : k < s.size - from_
    · have hkt : k < t.size := by omega
      have hc := HC.out k hlt
      have hq := isB_int t 34 k hkt
      have hends : endsAt s from_ k = (isB t 34 k && !esc (isB t 92) k) := by rw [endsAt, (HE.out k).1, (HE.out k).2]
      generalize esc (isB t 92) k = e0 at *
      cases hb34 : isB t 34 k
      · rw [hb34] at hq hends
        have hq' : (((t[k].toNat : Nat) : Int) == 34) = false := hq
        have HX := Lib.hid hends
        clear hq hends
        go_wp2
        go_round
        case rel => exact ⟨k + 1, by omega, by go_num, fun j hj => by
          by_cases hj2 : j < k
          · exact hn.out j hj2
          · obtain rfl : j = k := by omega
            simpa using HX.out⟩
        case measure => simp [intOf]; omega
      · rw [hb34] at hq hends
        have hq' : (((t[k].toNat : Nat) : Int) == 34) = true := hq
        have HX := Lib.hid hends
        clear hq hends
        cases e0
        · have hall : first (endsAt s from_) (s.size - from_) = some k := first_some hlt (by simpa using HX.out) hn.out
          have hN : endN s from_ = from_ + k := by simp [endN, hall]
          have hE : endE s from_ = 0 := by simp [endE, hall]
          have HN := Lib.hid hN; have HE' := Lib.hid hE; clear hN hE hall
          go_wp2
          go_ret2
          refine ⟨?_, hb⟩
          rw [HN.out, HE'.out]
          exact ret2 (show Value.int .i64 ((from_ : Int) + k) = Value.int .i64 ((from_ + k : Nat) : Int) from congrArg (Value.int .i64) (by omega)) rfl
        · go_wp2
          go_round
          case rel => exact ⟨k + 1, by omega, by go_num, fun j hj => by
            by_cases hj2 : j < k
            · exact hn.out j hj2
            · obtain rfl : j = k := by omega
              simpa using HX.out⟩
          case measure => simp [intOf]; omega
    · obtain rfl : k = s.size - from_ := by omega
      have hall : first (endsAt s from_) (s.size - from_) = none := first_none hn.out
      have hN : endN s from_ = 0 := by simp [endN, hall]
      have hE : endE s from_ = 150 := by simp [endE, hall]
      have HN := Lib.hid hN; have HE' := Lib.hid hE; clear hN hE hall
      go_wp2
      go_ret2
      exact ⟨by rw [HN.out, HE'.out]; rfl, hb⟩
end Go.Proofs.Ytlfkhfmepcnfeaa.Ends
