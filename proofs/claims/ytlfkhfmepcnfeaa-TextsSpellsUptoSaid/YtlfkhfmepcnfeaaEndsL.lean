/- The law TextsEnds: its walk. -/
import Derived.Test.YtlfkhfmepcnfeaaEndsR
import Derived.OpenShut
namespace Go.Proofs.Ytlfkhfmepcnfeaa.Ends
set_option linter.unusedVariables false
set_option linter.unusedSimpArgs false
open Go.RowKit

theorem end_any (s : ByteArray) (from_ : Int) (hs : s.size ≤ 140737488351232) : ∃ n e : Int, (∀ w, Calls Try.prog 10 #[.string s, .int .i64 from_] w fun x w' => x = .returned (.tuple #[.int .i64 n, .int .i64 e]) ∧ w = w') ∧
    (∀ w, Calls Try.prog 11 #[.string s, .int .i64 from_] w fun x w' => x = .returned (.tuple #[.int .i64 n, .int .i64 e]) ∧ Below w.heap.size w w') := by
  by_cases h : from_ < 0 ∨ (s.size : Int) < from_
  · exact ⟨0, 2, fun w => end_bad s from_ hs h w, fun w => (rend_bad s from_ hs h w).mono fun e w' ⟨h1, h2⟩ => ⟨h1, h2 ▸ Below.refl _ _⟩⟩
  · obtain ⟨k, rfl⟩ : ∃ k : Nat, from_ = k := ⟨from_.toNat, by omega⟩
    exact ⟨endN s k, endE s k, fun w => end_w s k hs (by omega) w, fun w => rend_w s k hs (by omega) w⟩
theorem ends_law (s : ByteArray) (from_ : Int) (hs : s.size ≤ 140737488351232) (w : World) :
    Calls Try.prog 3 #[.string s, .int .i64 from_] w fun e w' => e = .returned (.bool true) ∧ Below w.heap.size w w' := by
  obtain ⟨n, e, h1, h2⟩ := end_any s from_ hs
  have H1 := Lib.hid h1; have H2 := Lib.hid h2; clear h1 h2
  have e1 : endN ⟨#[97, 34]⟩ 0 = 1 := by decide
  have e2 : endE ⟨#[97, 34]⟩ 0 = 0 := by decide
  have E1 := Lib.hid e1; have E2 := Lib.hid e2; clear e1 e2
  go_enter Try.func3, Try.ntmps3
  go_wp2_with fail
  refine (H1.out _).mono ?_; rintro x w1 ⟨rfl, rfl⟩
  go_wp2_with fail
  refine (H2.out _).mono ?_; rintro x w1 ⟨rfl, hb⟩
  go_wp2_with fail
  refine (end_w ⟨#[97, 34]⟩ 0 (by decide) (by decide) _).mono ?_; rintro x w1 ⟨rfl, rfl⟩
  rw [E1.out, E2.out]
  go_wp2_with fail
  go_ret
  exact ⟨by simp, hb⟩
theorem ends (s : ByteArray) (from_ : Int) (hs : s.size ≤ reachBytes) (w : World) :
    Calls Try.prog 3 #[.string s, .int .i64 from_] w fun e w' => e = .returned (.bool true) ∧ Below w.heap.size w w' :=
  ends_law s from_ (Nat.le_trans hs (by decide)) w
end Go.Proofs.Ytlfkhfmepcnfeaa.Ends
