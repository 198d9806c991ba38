/- The contracts of Learn, Guess, Size, All, New on lists. -/
import Derived.Test.YtcgfkmjlgblkcaaPatQ
namespace Go.Proofs.Ytcgfkmjlgblkcaa.Pat
set_option linter.unusedVariables false
set_option linter.unusedSimpArgs false
open Go.RowKit Go.Proofs.Ytcgfkmjlgblkcaa.Mem Go.Proofs.Ytcgfkmjlgblkcaa.Own

theorem has_iff {M L : List Ent} (h : Aged M L) (r n : ByteArray) : (∃ x ∈ L.map Ent.r, keyR r n x) ↔ ∃ x ∈ M, x.route = r ∧ x.name = n := by
  constructor
  · rintro ⟨x, hx, hk⟩
    obtain ⟨y, hy, rfl⟩ := List.mem_map.1 hx
    exact ⟨y, h.perm.mem_iff.2 hy, hk⟩
  · rintro ⟨y, hy, hk⟩
    exact ⟨y.r, List.mem_map_of_mem (h.perm.mem_iff.1 hy), hk⟩
theorem learn_s (w : World) (B p : Nat) (F : Nat → Prop) (room : Int) (R : List Rec) (a : Int) (r n : ByteArray) (pl : Int) (h : PatS w B p F room R a) (hB : B ≤ w.heap.size) (ha : a < 4611686018427387904) (hr : r.size ≤ maxLen) (hn : n.size ≤ maxLen) (hpl : pl ≤ 9223372036854775807) :
    Calls Try.prog 13 #[.pointer (some ⟨p, 0, none⟩), .string r, .string n, .int .i64 pl] w (LearnS w B p F room R a r n pl) := by
  have hlen := h.len
  obtain ⟨m, v, age, M, L, hp, hA, hL, hF, hag, hro, hro2⟩ := h
  have hML : M.length = R.length := by rw [hA.perm.length_eq, ← hL, List.length_map]
  by_cases h0 : pl < 0
  · refine (learn_neg B p m v room age M w hp r n pl h0).mono ?_
    rintro e w' ⟨rfl, rfl⟩
    refine ⟨by rw [if_pos h0], F, ?_, fun b hb => .inl hb, Touch.refl _ _⟩
    unfold learnF
    rw [if_pos h0]
    exact ⟨m, v, age, M, L, hp, hA, hL, hF, by omega, hro, hro2⟩
  · by_cases hk : ∃ x ∈ M, x.route = r ∧ x.name = n
    · obtain ⟨x, hx, rfl, rfl⟩ := hk
      obtain ⟨j, hj, rfl⟩ := mem_at hx
      have hex : ∃ y ∈ R, keyR (at_ M j).route (at_ M j).name y := by rw [← hL]; exact (has_iff hA _ _).2 ⟨_, hx, rfl, rfl⟩
      refine (learn_hit B p m v room age M w hp (by omega) j hj pl (by omega) hpl).mono ?_
      rintro e w' ⟨v', M', rfl, hp', hpat, ho, ht⟩
      have hfoot : ∀ b, FootP p m v' M' b ↔ FootP p m v M b := fun b => by
        unfold FootP
        rw [ho, (hp'.map Ent.b).mem_iff, map_perm_b]
      refine ⟨by rw [if_neg h0], F, ?_, fun b hb => .inl hb, ht.mono (fun b hb => (hF b).2 ?_)⟩
      · unfold learnF
        rw [if_neg h0, if_pos hex]
        refine ⟨m, v', age, M', L.map (hitK (at_ M j).route (at_ M j).name pl), hpat, aged_hit hA _ _ _ hp', ?_, fun b => (hF b).trans (hfoot b).symm, by omega, by rw [List.length_map]; exact hro, hro2⟩
        rw [← hL, List.map_map, List.map_map]
        exact List.map_congr_left fun x _ => hitK_r _ _ _ x
      · unfold FootP at hb ⊢
        rwa [map_perm_b] at hb
    · have hno : ∀ x ∈ M, ¬ (x.route = r ∧ x.name = n) := fun x hx h => hk ⟨x, hx, h⟩
      have hnex : ¬ ∃ y ∈ R, keyR r n y := by rw [← hL]; exact fun h => hk ((has_iff hA r n).1 h)
      by_cases hr0 : room ≤ 0
      · refine (learn_none B p m v room age M w r n pl hp hr hn (by omega) hno hr0).mono ?_
        rintro e w' ⟨rfl, rfl⟩
        refine ⟨by rw [if_neg h0], F, ?_, fun b hb => .inl hb, Touch.refl _ _⟩
        unfold learnF
        rw [if_neg h0, if_neg hnex, if_pos hr0]
        exact ⟨m, v, age, M, L, hp, hA, hL, hF, by omega, hro, hro2⟩
      · by_cases hfull : (R.length : Int) = room
        · refine (learn_full B p m v room age M w r n pl hp (by omega) (by omega) hr hn (by omega) hpl hno (by omega) (by omega) hB).mono ?_
          rintro e w' ⟨M1, hp1, v', M', b, rfl, hb, hp', hpat, ho, ht⟩
          obtain ⟨L1, hA1, hL1⟩ := drop_top hA hp.heap (by omega) hp1
          have hdl : (dropLeast R).length + 1 = R.length := by
            have e := congrArg List.length hL1
            have e1 := hA1.perm.length_eq
            have e2 := hp1.length_eq
            rw [List.length_map, hL] at e
            rw [List.length_cons] at e2
            omega
          have hyoung : ∀ y ∈ M1, y.age < age := fun y hy => (hp.young y (hp1.mem_iff.1 (List.mem_cons_of_mem _ hy))).2
          refine ⟨by rw [if_neg h0], FootP p m v' M', ?_, fun c hc => ?_, ht.mono (fun b hb => (hF b).2 hb)⟩
          · unfold learnF
            rw [if_neg h0, if_neg hnex, if_neg hr0, if_pos hfull]
            refine ⟨m, v', age + 1, M', L1 ++ [entOf b age r n pl 1], hpat, aged_add hA1 hp' hyoung, ?_, fun _ => Iff.rfl, by omega, by rw [List.length_append, List.length_singleton]; omega, hro2⟩
            rw [List.map_append, hL1, hL]; rfl
          · rcases hc with e | e | e | e
            · exact .inl ((hF c).2 (.inl e))
            · exact .inl ((hF c).2 (.inr (.inl e)))
            · rcases ho c e with e | e
              · exact .inl ((hF c).2 (.inr (.inr (.inl e))))
              · exact .inr e
            · have e := (hp'.map Ent.b).mem_iff.1 e
              rw [List.map_append] at e
              rcases List.mem_append.1 e with e | e
              · obtain ⟨y, hy, rfl⟩ := List.mem_map.1 e
                exact .inl ((hF _).2 (.inr (.inr (.inr (List.mem_map_of_mem (hp1.mem_iff.1 (List.mem_cons_of_mem _ hy)))))))
              · right
                have : c = b := by simpa [entOf] using e
                omega
        · refine (learn_new B p m v room age M w r n pl hp (by omega) (by omega) hr hn (by omega) hpl hno (by omega) hB).mono ?_
          rintro e w' ⟨v', M', b, rfl, hb, hp', hpat, ho, ht⟩
          refine ⟨by rw [if_neg h0], FootP p m v' M', ?_, fun c hc => ?_, ht.mono (fun b hb => (hF b).2 hb)⟩
          · unfold learnF
            rw [if_neg h0, if_neg hnex, if_neg hr0, if_neg hfull]
            refine ⟨m, v', age + 1, M', L ++ [entOf b age r n pl 1], hpat, aged_add hA hp' (fun y hy => (hp.young y hy).2), ?_, fun _ => Iff.rfl, by omega, by rw [List.length_append, List.length_singleton]; omega, hro2⟩
            rw [List.map_append, hL]; rfl
          · rcases hc with e | e | e | e
            · exact .inl ((hF c).2 (.inl e))
            · exact .inl ((hF c).2 (.inr (.inl e)))
            · rcases ho c e with e | e
              · exact .inl ((hF c).2 (.inr (.inr (.inl e))))
              · exact .inr e
            · have e := (hp'.map Ent.b).mem_iff.1 e
              rw [List.map_append] at e
              rcases List.mem_append.1 e with e | e
              · exact .inl ((hF _).2 (.inr (.inr (.inr e))))
              · right
                have : c = b := by simpa [entOf] using e
                omega
def guessF (R : List Rec) (r n : ByteArray) : Int × Bool := match R.find? (fun x => decide (keyR r n x)) with | some x => (x.place, true) | none => (0, false)
theorem guess_s (w : World) (B p : Nat) (F : Nat → Prop) (room : Int) (R : List Rec) (a : Int) (r n : ByteArray) (h : PatS w B p F room R a) (hr : r.size ≤ maxLen) (hn : n.size ≤ maxLen) :
    Calls Try.prog 18 #[.pointer (some ⟨p, 0, none⟩), .string r, .string n] w fun e w' => e = .returned (.tuple #[.int .i64 (guessF R r n).1, .bool (guessF R r n).2]) ∧ w' = w := by
  obtain ⟨m, v, age, M, L, hp, hA, hL, hF, hag, hro, hro2⟩ := h
  unfold guessF
  cases hf : R.find? (fun x => decide (keyR r n x)) with
  | some x =>
    have hx := List.mem_of_find?_eq_some hf
    have hk := List.find?_some hf
    rw [decide_eq_true_eq] at hk
    rw [← hL] at hx
    obtain ⟨y, hy, rfl⟩ := List.mem_map.1 hx
    obtain ⟨rfl, rfl⟩ := hk
    exact guess_yes B p m v room age M w hp y (hA.perm.mem_iff.2 hy)
  | none =>
    refine guess_no B p m v room age M w hp r n hr hn (fun x hx hk => ?_)
    have h1 := List.find?_eq_none.1 hf x.r (by rw [← hL]; exact List.mem_map_of_mem (hA.perm.mem_iff.1 hx))
    exact h1 (decide_eq_true (show keyR r n x.r from hk))
theorem size_s (w : World) (B p : Nat) (F : Nat → Prop) (room : Int) (R : List Rec) (a : Int) (h : PatS w B p F room R a) :
    Calls Try.prog 12 #[.pointer (some ⟨p, 0, none⟩)] w fun e w' => e = .returned (.int .i64 (R.length : Int)) ∧ w' = w := by
  obtain ⟨m, v, age, M, L, hp, hA, hL, hF, hag, hro, hro2⟩ := h
  have hML : M.length = R.length := by rw [hA.perm.length_eq, ← hL, List.length_map]
  rw [← hML]
  exact size_w B p m v room age M w hp
def AllS (w : World) (R : List Rec) (e : Ending) (w' : World) : Prop := ∃ v', e = .returned v' ∧ RowR w' w.heap.size v' (allF R) ∧ Below w.heap.size w w'
theorem all_s (w : World) (B p : Nat) (F : Nat → Prop) (room : Int) (R : List Rec) (a : Int) (h : PatS w B p F room R a) :
    Calls Try.prog 10 #[.pointer (some ⟨p, 0, none⟩)] w (AllS w R) := by
  have hlen := h.len
  obtain ⟨m, v, age, M, L, hp, hA, rfl, hF, hag, hro, hro2⟩ := h
  have hML : M.length = (L.map Ent.r).length := by rw [hA.perm.length_eq, List.length_map]
  refine (all_w B p m v room age M w hp (by omega)).mono ?_
  rintro e w' ⟨v', S, rfl, hS, hs, hrow, hb⟩
  rw [all_is hA hS hs] at hrow
  exact ⟨v', rfl, hrow, hb⟩
theorem allF_perm (R : List Rec) : (allF R).Perm R := by
  have : ∀ (f : Nat) (L : List Rec), (srt f L).Perm L := by
    intro f
    induction f with
    | zero => intro L; exact List.Perm.refl _
    | succ f ih =>
      intro L
      unfold srt
      by_cases h : L.length < 2
      · rw [if_pos h]
      · rw [if_neg h]
        refine (List.merge_perm_append leR).trans ?_
        have := (ih (L.take (L.length / 2))).append (ih (L.drop (L.length / 2)))
        rwa [List.take_append_drop] at this
  exact this _ _
def NewS (w : World) (room : Int) (R : List Rec) (e : Ending) (w' : World) : Prop :=
  ∃ p F, e = .returned (.tuple #[.pointer (some ⟨p, 0, none⟩), .int .i64 0]) ∧ PatS w' w.heap.size p F room R (R.length : Int) ∧ Below w.heap.size w w'
theorem new_s (room : Int) (a0 : Option Addr) (n cap : Nat) (R : List Rec) (w : World) (h0 : 0 ≤ room) (h1 : room ≤ 4096) (hn : n = R.length) (hnm : n < 17592186044400) (hR : RecsAt w a0 R) (hw : ∀ x ∈ R, rWf x) (hok : OkR room R) :
    Calls Try.prog 11 #[.int .i64 room, .slice a0 n cap] w (NewS w room R) := by
  refine (new_w room a0 n cap R w h0 h1 hn hnm hR hw).mono ?_
  rintro e w' ⟨h, -⟩
  obtain ⟨p, m, v, M, L, rfl, hp, hA, hL, hb⟩ := h hok
  refine ⟨p, FootP p m v M, rfl, ⟨m, v, _, M, L, hp, hA, hL, fun _ => Iff.rfl, Int.le_refl _, ?_, h1⟩, hb⟩
  rcases hok.1 with h | h
  · exact h
  · rw [h]; simpa using h0
theorem new_bad (room : Int) (a0 : Option Addr) (n cap : Nat) (R : List Rec) (w : World) (h0 : 0 ≤ room) (h1 : room ≤ 4096) (hn : n = R.length) (hnm : n < 17592186044400) (hR : RecsAt w a0 R) (hw : ∀ x ∈ R, rWf x) (hok : ¬ OkR room R) :
    Calls Try.prog 11 #[.int .i64 room, .slice a0 n cap] w (NewNil w 1) := by
  refine (new_w room a0 n cap R w h0 h1 hn hnm hR hw).mono ?_
  rintro e w' ⟨-, h⟩
  exact h hok
end Go.Proofs.Ytcgfkmjlgblkcaa.Pat
