/- FloatsRise: the law answers true whatever it is given, and leaves its arguments as they were; no conditions beside that the listed tables are as the program's text lays them, which the card ties. -/
import Derived.Test.YtncglbnnpdppjaaDoorRows
import Derived.Test.YtncglbnnpdppjaaDoorCards
import Derived.Test.YtncglbnnpdppjaaDoorTie
import Derived.Test.YtncglbnnpdppjaaDoorMJ
import Derived.Test.YtncglbnnpdppjaaDoorML
import Derived.SevenTiedAt
namespace Go.Proofs.YtncglbnnpdppjaaDoor.RowFloatsRise
open Go.ChangeShapes Go.WideShapes Go.ChangeAt Go.RowKit Go.Proofs.YtncglbnnpdppjaaDoor.Close
set_option linter.unusedVariables false
theorem own : ownKnob Tryd.prog.godebug = none := by kernel_rfl
theorem laidOut : laidOutB Tryd.prog = true := by kernel_rfl
set_option maxRecDepth 100000 in
theorem lifted (os : Os) (started : os.Started) (H : Type) (enc : TypeId × Value → H) :
    ReturnsInHanded {} Tryd.checked os 8 .any (fun w args => (Rows.floatsRiseSpec.pre enc Tryd.prog Tryd.f8 [] false w args ∧ laidMetH Tryd.prog Rows.floatsRiseRow.laid w) ∧ sizedMet enc Tryd.prog Tryd.f8 (OpenSpec.ofChange Rows.floatsRiseSpec) false w args)
      (Rows.floatsRiseSpec.post enc Tryd.prog Tryd.f8 false true false false) := by
  refine returnsInHanded_of_change_and (C := Tryd.checked) (X := fun w _ => laidMetH Tryd.prog Rows.floatsRiseRow.laid w) (fun _ _ _ hh h => h.of_heap hh) own started (by kernel_rfl) Tryd.func8
    (ChangeSpec.witness_shaped (enc := enc) (C := Tryd.checked) (os := os) (X := fun w _ => laidMetH Tryd.prog Rows.floatsRiseRow.laid w) false (World.laidAll Tryd.prog os Rows.floatsRiseRow.laid) #[.agg #[.bool false, .string ByteArray.empty, .int .i64 0], .agg #[.bool false, .string ByteArray.empty, .int .i64 0]] 8 (World.laidAll_os _ _ _)
      (World.shaped_of_ZipB (by kernel_rfl) (by kernel_rfl)) (by kernel_rfl) (by kernel_rfl) (by kernel_rfl)
      (by rw [MakeChecks.laidMetH_plain _ _ _ (by kernel_rfl)]; exact laidMet_laidAll _ (by kernel_rfl) (by kernel_rfl))) ?_
  intro W base args ds gs before hval0 hW _ hsz0 _ _
  have hsz : (DataW.weightsEach Tryd.prog (Tryd.f8.params.toList ++ Rows.floatsRiseSpec.plain.varTypes Tryd.prog) (ds ++ gs)).all (· ≤ reachBytes) = true := hsz0
  have hval : ∀ (j : Nat) t v, Tryd.f8.params[j]? = some t → args[j]? = some v → Value.okWide Tryd.prog W .any base t v := hval0
  have hW' := hW
  obtain ⟨p, q, hA0, hV, rfl, hfz, hnd⟩ := hW
  have hA : DataW.TrodAll enc Tryd.prog W 0 (fun _ => true) true Tryd.f8.params.toList args.toList ds p := hA0
  have hlt : ∀ x ∈ p, x.block < W.heap.size := fun x hx => hW'.lt x (by simp [hx])
  rw [Tryd.params8] at hA hval hsz
  obtain ⟨rfl, rfl⟩ := trodVars_none hV
  obtain ⟨v0, vs0, d0, ds0, p0, q0, hargs, rfl, rfl, h0, r0⟩ := trodAll_cons hA
  obtain ⟨v1, vs1, d1, ds1, p1, q1, rfl, rfl, rfl, h1, r1⟩ := trodAll_cons r0
  obtain ⟨rfl, rfl, rfl⟩ := trodAll_nil r1
  obtain rfl : args = #[v0, v1] := by cases args; simp_all
  obtain ⟨neg1, s1, e1, rfl, rfl, rfl, w0⟩ := Opd.open_dec (hval 0 23 v0 rfl rfl) h0
  have z1 : s1.size < 140737488355328 := by
    have := Opd.dec_size hsz (j := 0) rfl rfl
    simp only [reachBytes] at this
    simp at this
    omega
  obtain ⟨neg2, s2, e2, rfl, rfl, rfl, w1⟩ := Opd.open_dec (hval 1 23 v1 rfl rfl) h1
  have z2 : s2.size < 140737488355328 := by
    have := Opd.dec_size hsz (j := 1) rfl rfl
    simp only [reachBytes] at this
    simp at this
    omega
  clear hval0 hsz0
  refine (Num.floatsRise_w neg1 s1 e1 neg2 s2 e2 W z1 z2).mono fun e W' ⟨he, bel⟩ => ?_
  subst he
  exact ⟨_, rfl, law_post laidOut (by kernel_rfl) rfl Tryd.underlying4 rfl rfl hW' hA0 hlt bel⟩
theorem over : Rows.floatsRiseRow.holds Tryd.pinned (OpenSpec.ofChange Rows.floatsRiseSpec) :=
  OpenClaim.holds_of_wide 8 Tryd.f8 rfl rfl rfl rfl rfl rfl rfl ⟨rfl, rfl, rfl, rfl, rfl⟩ rfl rfl rfl rfl rfl (by kernel_rfl) Tryd.func8 (by kernel_rfl)
    (of_decide_eq_true (by kernel_rfl)) (by unfold Func.isWrapper; first | (rw [if_pos (by decide +kernel)]; kernel_rfl) | (rw [if_neg (by decide +kernel)]; exact ⟨rfl, rfl⟩))
    (fun os started H enc _ => lifted os started H enc)
theorem card : Rows.FloatsRiseCardSaid :=
  Claim7.holds_tied_plain_at .later [] [.data, .pinned] true (true, "6eddb1a091c469e106bdf47c66faa363421889033f1886ef5956603f263274e2") false
    over (fun _ h => by cases h) (by kernel_rfl) (fun _ h => by cases h) floatsRise_row_tie rfl ⟨rfl, rfl⟩ (by kernel_rfl) rfl
    (fun f fn hf hfn => by
      obtain rfl : f = 8 := Option.some.inj ((show Tryd.prog.funcNamed "quarry/quarrylaw13.FloatsRise" = some 8 by kernel_rfl).symm.trans hf) |>.symm
      obtain rfl : fn = Tryd.f8 := (Option.some.inj (Tryd.func8.symm.trans hfn)).symm
      exact ⟨by kernel_rfl, fun j t ht => by
        rw [Tryd.params8] at ht
        have hm : t ∈ [23, 23] := by simpa using Array.mem_of_getElem? ht
        have hall : ([23, 23].all fun u => !Tryd.prog.wantsStandIn u) = true := by kernel_rfl
        exact (show Tryd.prog.wantsStandIn t = false by simpa using List.all_eq_true.1 hall t hm)⟩)
    (by kernel_rfl)
end Go.Proofs.YtncglbnnpdppjaaDoor.RowFloatsRise
namespace Go.Proofs.YtncglbnnpdppjaaDoor
theorem floatsRise_holds : Rows.FloatsRiseCardSaid := RowFloatsRise.card
#print axioms floatsRise_holds
end Go.Proofs.YtncglbnnpdppjaaDoor
