/- Utf8Pieces: the law answers true whatever it is given that is of bulk at most 1048576, and leaves its arguments as they were. -/
import Derived.Test.YtpdglihihpopeaaRows
import Derived.Test.YtpdglihihpopeaaOpens
import Derived.Test.YtpdglihihpopeaaUtfJ
namespace Go.Proofs.Ytpdglihihpopeaa.RowUtf8Pieces
open Go.ChangeShapes Go.WideShapes Go.ChangeAt Go.RowKit Go.Proofs.Ytpdglihihpopeaa.Close
open Go.ChangeMaps (open_string shut_string)
set_option linter.unusedVariables false
theorem own : ownKnob Try.prog.godebug = none := by kernel_rfl
theorem laidOut : laidOutB Try.prog = true := by kernel_rfl
set_option maxRecDepth 100000 in
theorem lifted (os : Os) (started : os.Started) (H : Type) (enc : TypeId × Value → H) (F : Stop.Interp) :
    ReturnsInHanded {} Try.checked os 5 .any ((Rows.OpenSpec.upto Rows.utf8PiecesSpec).pre6 enc Try.prog Try.f5 Rows.utf8PiecesUptoRow.domain false) (((Rows.OpenSpec.upto Rows.utf8PiecesSpec).at F).post enc Try.prog Try.f5 false true false false) := by
  refine returnsInHanded_of_cond_sized (C := Try.checked) (s := Rows.OpenSpec.upto Rows.utf8PiecesSpec) (k := Rows.uptoSmall) rfl own started (by kernel_rfl) Try.func5
    (OpenSpec.witness (enc := enc) (C := Try.checked) (s := Rows.OpenSpec.upto Rows.utf8PiecesSpec) (k := Rows.uptoSmall) rfl false ⟨#[], #[.slice none 0 0], []⟩ 8 (by kernel_rfl) (by kernel_rfl) (by kernel_rfl)
      (x := ([.nil], [], [])) (by kernel_rfl) rfl (by kernel_rfl)) ?_
  intro W base args ds gs before hval0 hW hcnd hk hsz0 _
  have hval : ∀ (j : Nat) t v, Try.f5.params[j]? = some t → args[j]? = some v → Value.okWide Try.prog W .any base t v := hval0
  have hW' := hW
  obtain ⟨p, q, hA0, hV, rfl, hfz, hnd⟩ := hW
  have hA : DataW.TrodAll enc Try.prog W 0 (fun _ => true) true Try.f5.params.toList args.toList ds p := hA0
  have hlt : ∀ x ∈ p, x.block < W.heap.size := fun x hx => hW'.lt x (by simp [hx])
  rw [Try.params5] at hA hval
  obtain ⟨rfl, rfl⟩ := trodVars_none hV
  obtain ⟨v0, vs0, d0, ds0, p0, q0, hargs, rfl, rfl, h0, r0⟩ := trodAll_cons hA
  obtain ⟨rfl, rfl, rfl⟩ := trodAll_nil r0
  obtain rfl : args = #[v0] := by cases args; simp_all
  have hbk := Opens.bound hk
  simp only [List.append_nil, Rows.uptoBulkAll] at hbk
  obtain ⟨a0, cap0, ss, sp0, rfl, hc0, hd0⟩ := Opens.open_strs Try.underlying33 Try.underlying9 (by kernel_rfl) (hval 0 33 v0 rfl rfl) h0
  have hb0 : (ss.flatMap (·.data.toList)).length + ss.length ≤ 1048576 := by
    rcases hd0 with ⟨-, rfl⟩ | rfl
    · exact Nat.zero_le _
    · rw [← Opens.strs_bulk (H := H)]; simp only [Rows.uptoBulk] at hbk; omega
  clear hval0 hsz0
  refine (Utf.pieces a0 cap0 ss (by omega) (by unfold Utf.cat; rw [List.take_of_length_le (Nat.le_refl _)]; omega) W hc0).mono fun e W' ⟨he, bel⟩ => ?_
  subst he
  exact ⟨_, rfl, law_post (s := Rows.utf8PiecesSpec) laidOut (by kernel_rfl) rfl Try.underlying4 rfl rfl hW' hA0 hlt bel⟩
theorem over : Rows.utf8PiecesUptoRow.holds Try.pinned (Rows.OpenSpec.upto Rows.utf8PiecesSpec) :=
  OpenClaim.holds_of_cond 5 Try.f5 rfl rfl rfl rfl rfl rfl rfl ⟨rfl, rfl, rfl, rfl, rfl⟩ rfl rfl rfl rfl rfl (by kernel_rfl) Try.func5 (by kernel_rfl)
    (of_decide_eq_true (by kernel_rfl)) (by unfold Func.isWrapper; first | (rw [if_pos (by decide +kernel)]; kernel_rfl) | (rw [if_neg (by decide +kernel)]; exact ⟨rfl, rfl⟩))
    (fun os started H enc _ F => lifted os started H enc F)
end Go.Proofs.Ytpdglihihpopeaa.RowUtf8Pieces
namespace Go.Proofs.Ytpdglihihpopeaa
theorem utf8PiecesUpto_holds : Rows.Utf8PiecesUptoSaid := RowUtf8Pieces.over
#print axioms utf8PiecesUpto_holds
end Go.Proofs.Ytpdglihihpopeaa
