/- PatternCounts: the law answers true whatever it is given, and leaves its arguments as they were. No conditions. -/
import Derived.Test.YtcgfkmjlgblkcaaRows
import Derived.Test.YtcgfkmjlgblkcaaClose
import Derived.Test.YtcgfkmjlgblkcaaCounts
import Derived.Test.YtcgfkmjlgblkcaaPatO
namespace Go.Proofs.Ytcgfkmjlgblkcaa.RowPatternCounts
open Go.ChangeShapes Go.WideShapes Go.ChangeAt Go.RowKit Go.Proofs.Ytcgfkmjlgblkcaa.Close
open Go.ChangeMaps (open_string shut_string)
set_option linter.unusedVariables false
theorem own : ownKnob Try.prog.godebug = none := by kernel_rfl
theorem laidOut : laidOutB Try.prog = true := by kernel_rfl
set_option maxRecDepth 100000 in
theorem lifted (os : Os) (started : os.Started) (H : Type) (enc : TypeId × Value → H) :
    ReturnsInHanded {} Try.checked os 3 .any (Rows.patternCountsSpec.pre6 enc Try.prog Try.f3 Rows.patternCountsRow.domain false) (Rows.patternCountsSpec.post enc Try.prog Try.f3 false true false false) := by
  refine returnsInHanded_of_change_sized (C := Try.checked) own started (by kernel_rfl) Try.func3
    (ChangeSpec.witness6 (enc := enc) (C := Try.checked) false ⟨#[], #[.slice none 0 0], []⟩ 8 (by kernel_rfl) (by kernel_rfl) (by kernel_rfl) (by kernel_rfl)) ?_
  intro W base args ds gs before hval0 hW hcnd hsz0 _
  have hsz : (DataW.weightsEach Try.prog (Try.f3.params.toList ++ Rows.patternCountsSpec.plain.varTypes Try.prog) (ds ++ gs)).all (· ≤ reachBytes) = true := hsz0
  have hval : ∀ (j : Nat) t v, Try.f3.params[j]? = some t → args[j]? = some v → Value.okWide Try.prog W .any base t v := hval0
  have hW' := hW
  obtain ⟨p, q, hA0, hV, rfl, hfz, hnd⟩ := hW
  have hA : DataW.TrodAll enc Try.prog W 0 (fun _ => true) true Try.f3.params.toList args.toList ds p := hA0
  have hlt : ∀ x ∈ p, x.block < W.heap.size := fun x hx => hW'.lt x (by simp [hx])
  rw [Try.params3] at hA hval hsz
  obtain ⟨rfl, rfl⟩ := trodVars_none hV
  obtain ⟨v0, vs0, d0, ds0, p0, q0, hargs, rfl, rfl, h0, r0⟩ := trodAll_cons hA
  obtain ⟨rfl, rfl, rfl⟩ := trodAll_nil r0
  obtain rfl : args = #[v0] := by cases args; simp_all
  obtain ⟨a0, cap0, ops, rfl, hc0, hw0, hd0⟩ := Pat.open_ops (hval 0 22 v0 rfl rfl) h0
  have hb0 : ops.length < 17592186044400 := by
    rcases hd0 with ⟨-, e⟩ | ⟨el, sp, rfl, hel⟩
    · rw [e]; exact of_decide_eq_true rfl
    · have := sized_slice hsz (j := 0) rfl rfl Try.underlying22
      rw [Pat.op_bytes] at this
      simp only [reachBytes] at this
      omega
  clear hval0 hsz0
  refine (Pat.counts a0 ops.length cap0 ops W rfl hb0 hc0 hw0).mono fun e W' ⟨he, bel⟩ => ?_
  subst he
  exact ⟨_, rfl, law_post laidOut (by kernel_rfl) rfl Try.underlying4 rfl rfl hW' hA0 hlt bel⟩
theorem over : Rows.patternCountsRow.holds Try.pinned (OpenSpec.ofChange Rows.patternCountsSpec) :=
  OpenClaim.holds_of_wide 3 Try.f3 rfl rfl rfl rfl rfl rfl rfl ⟨rfl, rfl, rfl, rfl, rfl⟩ rfl rfl rfl rfl rfl (by kernel_rfl) Try.func3 (by kernel_rfl)
    (of_decide_eq_true (by kernel_rfl)) (by unfold Func.isWrapper; first | (rw [if_pos (by decide +kernel)]; kernel_rfl) | (rw [if_neg (by decide +kernel)]; exact ⟨rfl, rfl⟩))
    (fun os started H enc _ => lifted os started H enc)
end Go.Proofs.Ytcgfkmjlgblkcaa.RowPatternCounts
namespace Go.Proofs.Ytcgfkmjlgblkcaa
theorem patternCounts_holds : Rows.PatternCountsSaid := RowPatternCounts.over
#print axioms patternCounts_holds
end Go.Proofs.Ytcgfkmjlgblkcaa
