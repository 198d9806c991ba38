/- TextsSpells: the law answers true whatever it is given that is of bulk at most 1048576, and leaves its arguments as they were. -/
import Derived.Test.YtlfkhfmepcnfeaaRows
import Derived.Test.YtlfkhfmepcnfeaaOpens
import Derived.Test.YtlfkhfmepcnfeaaSpells
import Derived.Test.YtlfkhfmepcnfeaaOpN
namespace Go.Proofs.Ytlfkhfmepcnfeaa.RowTextsSpells
open Go.ChangeShapes Go.WideShapes Go.ChangeAt Go.RowKit Go.Proofs.Ytlfkhfmepcnfeaa.Close
open Go.ChangeMaps (open_string shut_string)
set_option linter.unusedVariables false
theorem own : ownKnob Try.prog.godebug = none := by kernel_rfl
theorem laidOut : laidOutB Try.prog = true := by kernel_rfl
set_option maxRecDepth 100000 in
theorem lifted (os : Os) (started : os.Started) (H : Type) (enc : TypeId × Value → H) (F : Stop.Interp) :
    ReturnsInHanded {} Try.checked os 7 .any ((Rows.OpenSpec.upto Rows.textsSpellsSpec).pre6 enc Try.prog Try.f7 Rows.textsSpellsUptoRow.domain false) (((Rows.OpenSpec.upto Rows.textsSpellsSpec).at F).post enc Try.prog Try.f7 false true false false) := by
  refine returnsInHanded_of_cond_sized (C := Try.checked) (s := Rows.OpenSpec.upto Rows.textsSpellsSpec) (k := Rows.uptoSmall) rfl own started (by kernel_rfl) Try.func7
    (OpenSpec.witness (enc := enc) (C := Try.checked) (s := Rows.OpenSpec.upto Rows.textsSpellsSpec) (k := Rows.uptoSmall) rfl false ⟨#[], #[.string .empty, .slice none 0 0], []⟩ 8 (by kernel_rfl) (by kernel_rfl) (by kernel_rfl)
      (x := ([.lit (.string []), .nil], [], [])) (by kernel_rfl) rfl (by kernel_rfl)) ?_
  intro W base args ds gs before hval0 hW hcnd hk hsz0 _
  have hval : ∀ (j : Nat) t v, Try.f7.params[j]? = some t → args[j]? = some v → Value.okWide Try.prog W .any base t v := hval0
  have hW' := hW
  obtain ⟨p, q, hA0, hV, rfl, hfz, hnd⟩ := hW
  have hA : DataW.TrodAll enc Try.prog W 0 (fun _ => true) true Try.f7.params.toList args.toList ds p := hA0
  have hlt : ∀ x ∈ p, x.block < W.heap.size := fun x hx => hW'.lt x (by simp [hx])
  rw [Try.params7] at hA hval
  obtain ⟨rfl, rfl⟩ := trodVars_none hV
  obtain ⟨v0, vs0, d0, ds0, p0, q0, hargs, rfl, rfl, h0, r0⟩ := trodAll_cons hA
  obtain ⟨v1, vs1, d1, ds1, p1, q1, rfl, rfl, rfl, h1, r1⟩ := trodAll_cons r0
  obtain ⟨rfl, rfl, rfl⟩ := trodAll_nil r1
  obtain rfl : args = #[v0, v1] := by cases args; simp_all
  have hbk := Opens.bound hk
  simp only [List.append_nil, Rows.uptoBulkAll] at hbk
  obtain ⟨s, rfl, rfl, rfl, w0⟩ := open_string Try.underlying9 (hval 0 9 v0 rfl rfl) h0
  have hb0 := Opens.str_bulk (H := H) s
  obtain ⟨a1, cap1, zs, sp1, rfl, hc1, hw1, hd1⟩ := Opens.open_nums Try.underlying31 Try.underlying5 (by kernel_rfl) (hval 1 31 v1 rfl rfl) h1
  clear hval0 hsz0
  refine (Txt.spells s (by omega) _ zs.length cap1 a1 rfl W (Opens.bytes_at hc1 hw1)).mono fun e W' ⟨he, bel⟩ => ?_
  subst he
  exact ⟨_, rfl, law_post (s := Rows.textsSpellsSpec) laidOut (by kernel_rfl) rfl Try.underlying4 rfl rfl hW' hA0 hlt bel⟩
theorem over : Rows.textsSpellsUptoRow.holds Try.pinned (Rows.OpenSpec.upto Rows.textsSpellsSpec) :=
  OpenClaim.holds_of_cond 7 Try.f7 rfl rfl rfl rfl rfl rfl rfl ⟨rfl, rfl, rfl, rfl, rfl⟩ rfl rfl rfl rfl rfl (by kernel_rfl) Try.func7 (by kernel_rfl)
    (of_decide_eq_true (by kernel_rfl)) (by unfold Func.isWrapper; first | (rw [if_pos (by decide +kernel)]; kernel_rfl) | (rw [if_neg (by decide +kernel)]; exact ⟨rfl, rfl⟩))
    (fun os started H enc _ F => lifted os started H enc F)
end Go.Proofs.Ytlfkhfmepcnfeaa.RowTextsSpells
namespace Go.Proofs.Ytlfkhfmepcnfeaa
theorem textsSpellsUpto_holds : Rows.TextsSpellsUptoSaid := RowTextsSpells.over
#print axioms textsSpellsUpto_holds
end Go.Proofs.Ytlfkhfmepcnfeaa
