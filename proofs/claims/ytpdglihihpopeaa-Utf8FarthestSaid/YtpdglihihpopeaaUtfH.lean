/- The walk of quarrylaw05.goes. -/
import Derived.Test.YtpdglihihpopeaaUtfG
import Derived.Deep.LoopGhost
import Derived.Laws.IdiomStrings
namespace Go.Proofs.Ytpdglihihpopeaa.Utf
set_option linter.unusedVariables false
set_option linter.unusedSimpArgs false
open Go.RowKit Go.Proofs.Ytpdglihihpopeaa.Mem

def tryA (i : Nat) : ByteArray := ⟨#[tryB i]⟩
def tryCells : Array Value := #[.string ⟨#[128]⟩, .string ⟨#[144]⟩, .string ⟨#[160]⟩, .string ⟨#[143]⟩, .string ⟨#[191]⟩]
theorem tryCells_get (i : Nat) (h : i < 5) : tryCells[i]? = some (.string (tryA i)) := by
  match i, h with
  | 0, _ => rfl
  | 1, _ => rfl
  | 2, _ => rfl
  | 3, _ => rfl
  | 4, _ => rfl
set_option maxHeartbeats 2000000 in
set_option maxRecDepth 100000 in
theorem goes_w (s : ByteArray) (hs : s.size ≤ 140737488351232) (w : World) :
    Calls Try.prog 13 #[.string s] w fun e w' => (∃ b : Bool, e = .returned (.bool b) ∧ (b = true ↔ GoesOn s.data.toList)) ∧ Below w.heap.size w w' := by
  by_cases h0 : badF s = -1
  · have HB := Lib.hid (fun w1 => h0 ▸ bad_w s (by omega) w1)
    have H0 := Lib.hid h0; clear h0
    go_enter Try.func13, Try.ntmps13
    go_wp2_with fail
    refine (HB.out _).mono ?_; rintro e w1 ⟨rfl, hb1⟩
    go_wp2_with fail
    go_ret
    exact ⟨⟨true, rfl, by simp; exact .inl (by rw [← badF_run]; exact H0.out)⟩, hb1⟩
  · have t0 : (badF s == -1) = false := by simpa using h0
    have H0 := Lib.hid h0; clear h0
    go_enter Try.func13, Try.ntmps13
    go_wp2_with fail
    refine (bad_w s (by omega) _).mono ?_; rintro e w1 ⟨rfl, hb1⟩
    go_wp2_with fail
    have hG := hb1.size
    have hb2 := hb1.alloc hG (.cells tryCells 9)
    have hbl : Blk (w1.alloc (.cells tryCells 9)) w1.heap.size 9 tryCells := Blk.new w1 _ _
    generalize w1.heap.size = G at *
    go_loopw [4] (fun i wr => ∃ n : Nat, n ≤ 5 ∧ i = .int .i64 n ∧ Hid (∀ m q, m < n → q < 3 → badL (s.data.toList ++ tryL m q) ≠ -1) ∧ Blk wr G 9 tryCells ∧ Below w.heap.size w wr) (fun i _ => 5 - (intOf i).toNat)
    case atStart => exact ⟨0, by omega, rfl, fun m q h => by omega, hbl, hb2⟩
    case round =>
      clear hbl hb2 hb1
      obtain ⟨n, hn, rfl, hno, hbl, hbel⟩ := hrel
      obtain ⟨wo, rfl⟩ : ∃ wo : World, wo = wr := ⟨_, rfl⟩
      by_cases hlt : n < 5
      · have tn : decide ((n : Int) < 5) = true := by simp; omega
        go_wp2_with fail
        go_loopw [5] (fun k wr => ∃ q : Nat, q ≤ 3 ∧ k = .int .i64 q ∧ Hid (∀ q', q' < q → badL (s.data.toList ++ tryL n q') ≠ -1) ∧ Blk wr G 9 tryCells ∧ Below w.heap.size w wr) (fun k _ => 3 - (intOf k).toNat)
        case atStart => exact ⟨0, by omega, rfl, fun q h => by omega, hbl, hbel⟩
        case round =>
          clear hbl hbel
          obtain ⟨q, hq, rfl, hno2, hbl, hbel⟩ := hrel
          by_cases hq3 : q < 3
          · have tq : decide ((q : Int) ≤ 2) = true := by simp; omega
            have hc : wr.cell? ⟨G, n, none⟩ = some (.string (tryA n)) := (Blk.cell hbl n).trans (tryCells_get n hlt)
            have hov : ¬ (9223372036854775807 < s.size + (tryA n).size) := by have : (tryA n).size = 1 := rfl; omega
            go_wp2_with fail
            go_loop [6, 7] (fun t j => ∃ (p : Nat) (T : ByteArray), p ≤ q ∧ j = .int .i64 p ∧ t = .string T ∧ Hid (T.data.toList = s.data.toList ++ tryL n p)) (fun _ j => q - (intOf j).toNat)
            case atStart => exact ⟨0, _, by omega, rfl, rfl, by show (s ++ tryA n).data.toList = _; simp [tryA, tryL]⟩
            case round =>
              obtain ⟨p, T, hp, rfl, rfl, hT⟩ := hrel
              have hTs : T.size = s.size + 1 + p := by
                have := congrArg List.length hT.out
                simp [tryL] at this
                omega
              by_cases hpq : p < q
              · have hov : ¬ (9223372036854775807 < T.size + 1) := by omega
                have HTS := Lib.hid hTs; clear hTs
                go_wp2_with fail
                go_round
                case rel => exact ⟨p + 1, _, by omega, by go_num, rfl, by show (T ++ ⟨#[128]⟩ : ByteArray).data.toList = _; simp [hT.out, tryL, List.replicate_succ']⟩
                case measure => simp [intOf]; omega
              · obtain rfl : p = q := by omega
                have HTS := Lib.hid hTs; clear hTs
                by_cases hbad : badF T = -1
                · have HB := Lib.hid (fun w1 => hbad ▸ bad_w T (by have := HTS.out; omega) w1)
                  have HBD := Lib.hid hbad; clear hbad
                  go_wp2_with fail
                  refine (HB.out _).mono ?_; rintro e w2 ⟨rfl, hb2⟩
                  go_wp2_with fail
                  go_ret
                  exact ⟨⟨true, rfl, by simp; exact .inr ⟨n, p, hlt, hq3, by rw [← hT.out, ← badF_run]; exact HBD.out⟩⟩, bthen hbel hb2⟩
                · have tb : (badF T == -1) = false := by simpa using hbad
                  have HBD := Lib.hid hbad; clear hbad
                  go_wp2_with fail
                  refine (bad_w T (by have := HTS.out; omega) _).mono ?_; rintro e w2 ⟨rfl, hb2⟩
                  go_wp2_with fail
                  go_roundw
                  case rel => exact ⟨p + 1, by omega, by go_num, fun q' hq' => by
                    by_cases h : q' < p
                    · exact hno2.out q' h
                    · obtain rfl : q' = p := by omega
                      rw [← hT.out, ← badF_run]; exact HBD.out, hbl.below hb2 hbl.lt, bthen hbel hb2⟩
                  case measure => simp [intOf]; omega
          · obtain rfl : q = 3 := by omega
            go_wp2_with fail
            go_roundw
            case rel => exact ⟨n + 1, by omega, by go_num, fun m q' hm hq' => by
              by_cases h : m < n
              · exact hno.out m q' h hq'
              · obtain rfl : m = n := by omega
                exact hno2.out q' hq', hbl, hbel⟩
            case measure => simp [intOf]; omega
      · obtain rfl : n = 5 := by omega
        go_wp2_with fail
        go_ret
        refine ⟨⟨false, rfl, ?_⟩, hbel⟩
        simp only [Bool.false_eq_true, false_iff]
        rintro (h | ⟨i, k, hi, hk, h⟩)
        · exact H0.out (by rw [badF_run]; exact h)
        · exact hno.out i k hi hk h
end Go.Proofs.Ytpdglihihpopeaa.Utf
