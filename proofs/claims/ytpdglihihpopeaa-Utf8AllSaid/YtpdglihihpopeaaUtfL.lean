/- The law Utf8Sizes: its walk. -/
import Derived.Test.YtpdglihihpopeaaUtfM
import Derived.Test.YtpdglihihpopeaaUtfP
import Derived.Laws.IdiomStrings
import Derived.Laws.BytesArg
import Derived.OpenShut
namespace Go.Proofs.Ytpdglihihpopeaa.Utf
set_option linter.unusedVariables false
set_option linter.unusedSimpArgs false
open Go.RowKit Go.Proofs.Ytpdglihihpopeaa.Mem

theorem form_any (r : Int) : (∀ w, Calls Try.prog 19 #[.int .i32 r] w fun e w' => e = .returned (.slice none 0 0) ∧ w = w') ∨
    ∃ xs : List Int, (∀ x ∈ xs, 0 ≤ x ∧ x < 256) ∧ xs.length ≤ 4 ∧ badF (strB xs) = -1 ∧ ∀ w, Calls Try.prog 19 #[.int .i32 r] w (Formed xs w) := by
  by_cases hz : sizeF r = 0
  · exact .inl fun w => form_none r hz w
  right
  have hr : 0 ≤ r ∧ r ≤ 1114111 ∧ ¬(55296 ≤ r ∧ r ≤ 57343) := by
    unfold sizeF at hz
    split at hz
    · exact absurd rfl hz
    · omega
  clear hz
  by_cases h1 : r < 128
  · have hx : ∀ x ∈ [r], 0 ≤ x ∧ x < 256 := by intro x hm; simp at hm; omega
    exact ⟨_, hx, by simp, by rw [badF_str _ hx]; exact good_one r hr.1 h1, fun w => form_one r hr.1 h1 w⟩
  by_cases h2 : r < 2048
  · have hx : ∀ x ∈ [192 + r / 64, 128 + r % 64], 0 ≤ x ∧ x < 256 := by intro x hm; simp at hm; omega
    exact ⟨_, hx, by simp, by rw [badF_str _ hx]; exact good_two r (by omega) h2, fun w => form_two r (by omega) h2 w⟩
  by_cases h3 : r < 65536
  · have hx : ∀ x ∈ [224 + r / 4096, 128 + r / 64 % 64, 128 + r % 64], 0 ≤ x ∧ x < 256 := by intro x hm; simp at hm; omega
    exact ⟨_, hx, by simp, by rw [badF_str _ hx]; exact good_three r (by omega) h3 hr.2.2, fun w => form_three r (by omega) h3 hr.2.2 w⟩
  · have hx : ∀ x ∈ [240 + r / 262144, 128 + r / 4096 % 64, 128 + r / 64 % 64, 128 + r % 64], 0 ≤ x ∧ x < 256 := by intro x hm; simp at hm; omega
    exact ⟨_, hx, by simp, by rw [badF_str _ hx]; exact good_four r (by omega) hr.2.1, fun w => form_four r (by omega) hr.2.1 w⟩
theorem conv_back (xs : List Int) (hx : ∀ x ∈ xs, 0 ≤ x ∧ x < 256) (g cap : Nat) (w : World) (h : ∀ j u, (xs.map (Value.int .u8))[j]? = some u → w.cell? ⟨g, j, none⟩ = some u) :
    (convert 36 9 (.slice (some ⟨g, 0, none⟩) xs.length cap)).run Try.prog w = .ok (.string (strB xs)) w := by
  have := run_convert_bytes_back (P := Try.prog) w 36 9 5 ⟨g, 0, none⟩ cap (xs.map toB) Try.underlying36 Try.underlying5 Try.underlying9 (by
    intro j hj
    have hj' : j < xs.length := by simpa using hj
    have hm := hx _ (List.getElem_mem hj')
    rw [show (⟨g, 0, none⟩ : Addr).add j = ⟨g, j, none⟩ by unfold Addr.add; split <;> simp_all]
    rw [List.getElem_map, toB_int hm.1 hm.2]
    exact h j _ (by simp [hj']))
  simpa [strB] using this
set_option maxHeartbeats 1000000 in
theorem sizes (r : Int) (w : World) : Calls Try.prog 6 #[.int .i32 r] w fun e w' => e = .returned (.bool true) ∧ Below w.heap.size w w' := by
  have HF := Lib.hid (form_any r)
  have s1 : sizeF 97 = 1 := by decide
  have s2 : sizeF 55296 = 0 := by decide
  have b1 : badF ⟨#[255]⟩ = 0 := by decide
  have b2 : badF ⟨#[]⟩ = -1 := by decide
  have S1 := Lib.hid s1; have S2 := Lib.hid s2; have B1 := Lib.hid b1; have B2 := Lib.hid b2
  clear s1 s2 b1 b2
  go_enter Try.func6, Try.ntmps6
  go_wp2_with fail
  refine (size_w 97 _).mono ?_; rintro e w1 ⟨rfl, rfl⟩
  rw [S1.out]
  go_wp2_with fail
  refine (size_w 55296 _).mono ?_; rintro e w1 ⟨rfl, rfl⟩
  rw [S2.out]
  go_wp2_with fail
  refine (bad_w ⟨#[255]⟩ (by decide) _).mono ?_; rintro e w1 ⟨rfl, hb1⟩
  rw [B1.out]
  go_wp2_with fail
  refine (size_w r _).mono ?_; rintro e w2 ⟨rfl, rfl⟩
  go_wp2_with fail
  refine (rsize_w r _).mono ?_; rintro e w2 ⟨rfl, rfl⟩
  go_wp2_with fail
  rcases HF.out with hn | ⟨xs, hx, hl, hbad, hf⟩
  · refine (hn _).mono ?_; rintro e w2 ⟨rfl, rfl⟩
    have hcv : (convert 36 9 (.slice none 0 0)).run Try.prog w1 = .ok (.string ⟨#[]⟩) w1 := by
      rw [run_convert_bytes_string w1 36 9 5 none 0 0 Try.underlying36 Try.underlying5 Try.underlying9]
      rfl
    go_wp2_with fail
    refine (bad_w ⟨#[]⟩ (by decide) _).mono ?_; rintro e w2 ⟨rfl, hb2⟩
    rw [B2.out]
    go_wp2_with fail
    go_ret
    exact ⟨by simp, bthen hb1 hb2⟩
  · refine (hf _).mono ?_; rintro e w2 ⟨g, cap, rfl, hc, hb2⟩
    have hcv := conv_back xs hx g cap w2 hc
    have BB := Lib.hid hbad; clear hbad
    clear hc hx hf
    go_wp2_with fail
    refine (bad_w (strB xs) (by have : (strB xs).size = xs.length := by simp [strB, ByteArray.size]
                                omega) _).mono ?_; rintro e w3 ⟨rfl, hb3⟩
    rw [BB.out]
    go_wp2_with fail
    go_ret
    exact ⟨by simp, bthen (bthen hb1 hb2) hb3⟩
end Go.Proofs.Ytpdglihihpopeaa.Utf
