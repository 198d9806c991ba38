/- The plain law of a spelled character. -/
import Derived.Test.YtlfkhfmepcnfeaaSpL
namespace Go.Proofs.Ytlfkhfmepcnfeaa.Txt
set_option linter.unusedVariables false
set_option linter.unusedSimpArgs false
open Go.RowKit Go.Proofs.Ytlfkhfmepcnfeaa.Utf

/-- What a spelled character must be. -/
def Spells (c : Int) (B : ByteArray) : Prop := (∀ m, unF (B.data.toList ++ m) = (unF m).map (encL c ++ ·)) ∧ badL B.data.toList = -1 ∧ B.size ≤ 12
theorem short_spells (y : UInt8) (c : Int) (h1 : (y.toNat : Int) ≠ 117) (h2 : small (y.toNat : Int) = c) (hc : 0 ≤ c) (hc1 : c < 128) (hb : badL [92, y] = -1) : Spells c ⟨#[92, y]⟩ := by
  refine ⟨fun m => ?_, hb, by show 2 ≤ 12; omega⟩
  have e := un_esc (l := []) (y :: m) (one_two m h1 (by omega)) (by decide) (by omega)
  rw [h2] at e
  exact e
theorem spell_spells (c w : Int) (h0 : 0 ≤ c) (h1 : c ≤ 1114111) (hs : ¬(55296 ≤ c ∧ c ≤ 57343)) : Spells c (spellB c w) := by
  unfold spellB
  split
  · rename_i h
    refine ⟨fun m => ?_, (bad_fine _).2 (enc_good h0 h1 hs), ?_⟩
    · exact unF_stretch _ m (enc_okb h.2.1 h1 hs h.2.2.1 h.2.2.2)
    · have : (Utf8.encode c).size = (encL c).length := by unfold encL; simp
      rw [this]
      by_cases a : c < 128
      · rw [enc_one h0 a]; simp
      by_cases b : c < 2048
      · rw [enc_two (by omega) b]; simp
      by_cases d : c < 65536
      · rw [enc_three (by omega) d hs]; simp
      · rw [enc_four (by omega) h1]; simp
  split
  · rename_i h
    have hc := h.2.2
    have hcc : c = 34 ∨ c = 92 ∨ c = 47 ∨ c = 8 ∨ c = 12 ∨ c = 10 ∨ c = 13 ∨ c = 9 := by
      simp only [special, Bool.or_eq_true, beq_iff_eq] at hc; omega
    rcases hcc with rfl | rfl | rfl | rfl | rfl | rfl | rfl | rfl
    · exact short_spells 34 34 (by decide) (by decide) (by decide) (by decide) (by decide +kernel)
    · exact short_spells 92 92 (by decide) (by decide) (by decide) (by decide) (by decide +kernel)
    · exact short_spells 47 47 (by decide) (by decide) (by decide) (by decide) (by decide +kernel)
    · exact short_spells 98 8 (by decide) (by decide) (by decide) (by decide) (by decide +kernel)
    · exact short_spells 102 12 (by decide) (by decide) (by decide) (by decide) (by decide +kernel)
    · exact short_spells 110 10 (by decide) (by decide) (by decide) (by decide) (by decide +kernel)
    · exact short_spells 114 13 (by decide) (by decide) (by decide) (by decide) (by decide +kernel)
    · exact short_spells 116 9 (by decide) (by decide) (by decide) (by decide) (by decide +kernel)
  split
  · rename_i h
    refine ⟨fun m => ?_, (bad_fine _).2 (four_fine _ _), by rw [fourS_size]; omega⟩
    have := four_un (w == 2) c.toNat (by omega) (by omega) m
    rw [show ((c.toNat : Nat) : Int) = c by omega] at this
    exact this
  · rename_i h
    have hl : ∀ A B : ByteArray, (A ++ B).data.toList = A.data.toList ++ B.data.toList := fun A B => by simp [ByteArray.toList_data_append]
    refine ⟨fun m => ?_, ?_, by rw [ByteArray.size_append, fourS_size, fourS_size]; omega⟩
    · rw [hl, List.append_assoc, pair_un _ _ _ _ (by omega) (by omega)]
      rw [show (65536 : Int) + (((55296 + (c.toNat - 65536) / 1024 : Nat) : Int) - 55296) * 1024 + (((56320 + (c.toNat - 65536) % 1024 : Nat) : Int) - 56320) = c by omega]
    · rw [hl]
      exact good_app _ _ ((bad_fine _).2 (four_fine _ _)) ((bad_fine _).2 (four_fine _ _))
theorem spelled_w (c : Int) (h0 : 0 ≤ c) (h1 : c ≤ 1114111) (way : Int) (w0 : 0 ≤ way) (w1 : way < 256) (w : World) : Calls Try.prog 21 #[.int .i32 c, .int .i64 way] w fun e w' => e = .returned (.string (spellB c (way % 4))) ∧ Below w.heap.size w w' := by
  cases h : special c with
  | true => exact sp_special c h way w0 w1 w
  | false => exact sp_plain c h h0 h1 way w0 w1 w
end Go.Proofs.Ytlfkhfmepcnfeaa.Txt
