/- The walk of texts.End: it ends at the first quote that nothing escapes. -/
import Derived.Test.YtlfkhfmepcnfeaaEnds
import Derived.Test.YtlfkhfmepcnfeaaShelf
import Derived.Lib.IndexLaws
import Derived.Lib.IndexBytes
namespace Go.Proofs.Ytlfkhfmepcnfeaa.Ends
set_option linter.unusedVariables false
set_option linter.unusedSimpArgs false
open Go.RowKit

theorem isB_at (s : ByteArray) (c : UInt8) (i : Nat) : isB s c i = true ↔ s.data.toList.getD i 0 = c := by simp [isB]
theorem index_none (s : ByteArray) (a : Nat) (c : UInt8) (hc : c ≠ 0) (h : Lib.indexByte (s.data.toList.drop a) c = -1) : ∀ i, a ≤ i → isB s c i = false := by
  intro i hi
  have := Lib.indexByte_none h (i - a)
  rw [List.getElem?_drop, show a + (i - a) = i by omega] at this
  rw [isB, beq_eq_false_iff_ne, List.getD_eq_getElem?_getD]
  cases hg : s.data.toList[i]? with
  | none => simpa using hc.symm
  | some x => rw [hg] at this; simpa using this
theorem index_some (s : ByteArray) (a o : Nat) (c : UInt8) (hc : c ≠ 0) (h : Lib.indexByte (s.data.toList.drop a) c = o) : a + o < s.size ∧ isB s c (a + o) = true ∧ ∀ i, a ≤ i → i < a + o → isB s c i = false := by
  obtain ⟨h1, h2⟩ := Lib.indexByte_some h
  rw [List.getElem?_drop] at h1
  have hlt := (List.getElem?_eq_some_iff.1 h1).1
  refine ⟨by simpa using hlt, by simp [isB, List.getD_eq_getElem?_getD, h1], fun i h3 h4 => ?_⟩
  have := h2 (i - a) (by omega)
  rw [List.getElem?_drop, show a + (i - a) = i by omega] at this
  rw [isB, beq_eq_false_iff_ne, List.getD_eq_getElem?_getD]
  cases hg : s.data.toList[i]? with
  | none => simpa using hc.symm
  | some x => rw [hg] at this; simpa using this
theorem isB_cut (s : ByteArray) (c : UInt8) (a i : Nat) : isB (s.extract a s.size) c i = isB s c (a + i) := by
  simp only [isB, Lib.extract_to_end, List.getD_eq_getElem?_getD, List.getElem?_drop]
theorem run_congr {f g : Nat → Bool} : ∀ k, (∀ j, j < k → f j = g j) → run f k = run g k
  | 0, _ => rfl
  | k + 1, h => by rw [run, run, h k (by omega), run_congr k (fun j hj => h j (by omega))]

set_option maxHeartbeats 1000000 in
theorem end_w (s : ByteArray) (from_ : Nat) (hs : s.size ≤ 140737488351232) (ha : from_ ≤ s.size) (w : World) :
    Calls Try.prog 10 #[.string s, .int .i64 from_] w fun e w' => e = .returned (.tuple #[.int .i64 (endN s from_), .int .i64 (endE s from_)]) ∧ w = w' := by
  have h1 : decide ((from_ : Int) < 0) = false := by simp
  have h2 : decide (s.size < from_) = false := by simp; omega
  go_enter Try.func10, Try.ntmps10
  go_wp2
  go_loop [6] (fun i => ∃ k : Nat, from_ + k ≤ s.size ∧ i = .int .i64 (from_ + k : Nat) ∧ Hid (∀ j, j < k → endsAt s from_ j = false)) (fun i => s.size - (intOf i).toNat)
  case atStart => exact ⟨0, by omega, by simp, fun j hj => by omega⟩
  case round =>
    obtain ⟨k, hk, rfl, hn⟩ := hrel
    have hge := Lib.indexByte_ge (s.data.toList.drop (from_ + k)) 34
    have hcase : Lib.indexByte (s.data.toList.drop (from_ + k)) 34 = -1 ∨ ∃ o : Nat, Lib.indexByte (s.data.toList.drop (from_ + k)) 34 = (o : Int) := by
      by_cases h : Lib.indexByte (s.data.toList.drop (from_ + k)) 34 = -1
      · exact .inl h
      · exact .inr ⟨(Lib.indexByte (s.data.toList.drop (from_ + k)) 34).toNat, by omega⟩
    clear hge
    rcases hcase with hm | ⟨o, ho⟩
    · have HM := Lib.hid hm; clear hm
      have hall : first (endsAt s from_) (s.size - from_) = none := first_none fun j hj => by
        by_cases hjk : j < k
        · exact hn.out j hjk
        · simp [endsAt, index_none s (from_ + k) 34 (by decide) HM.out (from_ + j) (by omega)]
      have hN : endN s from_ = 0 := by simp [endN, hall]
      have hE : endE s from_ = 150 := by simp [endE, hall]
      have HN := Lib.hid hN; have HE := Lib.hid hE; clear hN hE hall
      go_wp2_with fail
      refine (Try.strings_IndexByte _ _ _).mono ?_
      rintro e w' ⟨rfl, rfl⟩
      rw [Lib.extract_to_end, show ((34 : Int).toNat.toUInt8) = 34 from rfl, HM.out]
      go_wp2_with fail
      go_ret2
      exact ⟨by rw [HN.out, HE.out]; rfl, rfl⟩
    · obtain ⟨o1, o2, o3⟩ := index_some s (from_ + k) o 34 (by decide) ho
      have HO := Lib.hid ho; clear ho
      have O2 := Lib.hid o2; have O3 := Lib.hid o3; clear o2 o3
      have hr : run (isB (s.extract from_ s.size) 92) (k + o) = run (fun j => isB s 92 (from_ + j)) (k + o) := run_congr _ fun j _ => isB_cut s 92 from_ j
      have HR := Lib.hid hr; clear hr
      go_wp2_with fail
      refine (Try.strings_IndexByte _ _ _).mono ?_
      rintro e w' ⟨rfl, rfl⟩
      rw [Lib.extract_to_end, show ((34 : Int).toNat.toUInt8) = 34 from rfl, HO.out]
      go_wp2_with fail
      have hsz : (s.extract from_ s.size).size = s.size - from_ := by simp
      rw [show (from_ : Int) + (k : Int) + (o : Int) - (from_ : Int) = ((k + o : Nat) : Int) by omega]
      refine (odd_w (s.extract from_ s.size) (k + o) (by omega) (by omega) _).mono ?_
      rintro e w' ⟨rfl, rfl⟩
      rw [HR.out]
      clear hsz
      have hq : endsAt s from_ (k + o) = !(run (fun j => isB s 92 (from_ + j)) (k + o) % 2 == 1) := by
        rw [endsAt, ← Nat.add_assoc, O2.out, esc_run]; simp
      generalize (run (fun j => isB s 92 (from_ + j)) (k + o) % 2 == 1) = b at *
      generalize run (fun j => isB s 92 (from_ + j)) (k + o) = r at *
      have hbelow : ∀ j, j < k + o → endsAt s from_ j = false := fun j hj => by
        by_cases hjk : j < k
        · exact hn.out j hjk
        · simp [endsAt, O3.out (from_ + j) (by omega) (by omega)]
      have HB := Lib.hid hbelow
      clear hbelow
      cases b
      · have hall : first (endsAt s from_) (s.size - from_) = some (k + o) := first_some (by omega) (by simp [hq]) HB.out
        have hN : endN s from_ = from_ + (k + o) := by simp [endN, hall]
        have hE : endE s from_ = 0 := by simp [endE, hall]
        have HN := Lib.hid hN; have HE := Lib.hid hE; have HQ := Lib.hid hq; clear hN hE hall hq
        go_wp2_with fail
        go_ret2
        refine ⟨?_, rfl⟩
        rw [HN.out, HE.out]
        exact ret2 (show Value.int .i64 ((from_ : Int) + k + o) = Value.int .i64 ((from_ + (k + o) : Nat) : Int) from congrArg (Value.int .i64) (by omega)) rfl
      · have HQ := Lib.hid hq; clear hq
        go_wp2_with fail
        go_round
        case rel => exact ⟨k + o + 1, by omega, by congr 1; omega, fun j hj => by
          by_cases hj2 : j < k + o
          · exact HB.out j hj2
          · obtain rfl : j = k + o := by omega
            simpa using HQ.out⟩
        case measure => simp [intOf]; omega
end Go.Proofs.Ytlfkhfmepcnfeaa.Ends
