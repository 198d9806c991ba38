/- Plain facts on what is learnt. -/
import Derived.Test.YtcgfkmjlgblkcaaPatY
namespace Go.Proofs.Ytcgfkmjlgblkcaa.Pat
set_option linter.unusedVariables false
set_option linter.unusedSimpArgs false

theorem dropLeast_sub (R : List Rec) : (dropLeast R).Sublist R := List.eraseIdx_sublist _ _
theorem hitL_key (r n : ByteArray) (pl : Int) (x : Rec) : (hitL r n pl x).route = x.route ∧ (hitL r n pl x).name = x.name := by
  unfold hitL
  split
  · unfold hitR; split <;> exact ⟨rfl, rfl⟩
  · exact ⟨rfl, rfl⟩
theorem learn_hits {room : Int} {R : List Rec} {r n : ByteArray} {pl : Int} (h : ∀ x ∈ R, 1 ≤ x.hits) : ∀ x ∈ learnF room R r n pl, 1 ≤ x.hits := by
  unfold learnF
  split
  · exact h
  · split
    · intro x hx
      obtain ⟨y, hy, rfl⟩ := List.mem_map.1 hx
      have := h y hy
      unfold hitL
      split
      · unfold hitR
        split
        · show 1 ≤ min _ _; omega
        · show (1 : Int) ≤ 1; omega
      · exact this
    · split
      · exact h
      · intro x hx
        rcases List.mem_append.1 hx with hx | hx
        · split at hx
          · exact h x ((dropLeast_sub R).subset hx)
          · exact h x hx
        · simp at hx; subst hx; show (1 : Int) ≤ 1; omega
theorem learnAll_hits (room : Int) : ∀ (ops : List OpR) (R : List Rec), (∀ x ∈ R, 1 ≤ x.hits) → ∀ x ∈ learnAll room R ops, 1 ≤ x.hits
  | [], R, h => h
  | o :: ops, R, h => learnAll_hits room ops _ (learn_hits h)
theorem find_key {R : List Rec} (hk : R.Pairwise fun x y => ¬ sameKey x y) {x : Rec} (hx : x ∈ R) : R.find? (fun y => decide (keyR x.route x.name y)) = some x := by
  induction R with
  | nil => cases hx
  | cons y R ih =>
    obtain ⟨h1, h2⟩ := List.pairwise_cons.1 hk
    rcases List.mem_cons.1 hx with rfl | hx
    · rw [List.find?_cons, decide_eq_true (show keyR x.route x.name x from ⟨rfl, rfl⟩)]
    · have hne : ¬ keyR x.route x.name y := fun h => h1 x hx h
      rw [List.find?_cons, decide_eq_false hne]
      exact ih h2 hx
theorem guess_own {R : List Rec} (hk : R.Pairwise fun x y => ¬ sameKey x y) {x : Rec} (hx : x ∈ R) : guessF R x.route x.name = (x.place, true) := by
  unfold guessF
  rw [find_key hk hx]
theorem guess_learn {room : Int} {R : List Rec} {r n : ByteArray} {pl : Int} (hroom : 0 < room) (h0 : 0 ≤ pl) : guessF (learnF room R r n pl) r n = (pl, true) := by
  unfold learnF guessF
  rw [if_neg (by omega)]
  by_cases hh : ∃ x ∈ R, keyR r n x
  · rw [if_pos hh]
    have hs : (R.find? (fun x => decide (keyR r n x))).isSome = true := by
      rw [List.find?_isSome]
      obtain ⟨x, hx, hk⟩ := hh
      exact ⟨x, hx, decide_eq_true hk⟩
    obtain ⟨x, hx⟩ := Option.isSome_iff_exists.1 hs
    have hk := List.find?_some hx
    rw [decide_eq_true_eq] at hk
    rw [List.find?_map]
    have e : ((fun x => decide (keyR r n x)) ∘ hitL r n pl) = fun x => decide (keyR r n x) := by
      funext y
      show decide (keyR r n (hitL r n pl y)) = _
      rw [decide_eq_decide]
      unfold keyR
      rw [(hitL_key r n pl y).1, (hitL_key r n pl y).2]
    rw [e, hx]
    show ((hitL r n pl x).place, true) = _
    unfold hitL
    rw [if_pos hk]
    unfold hitR
    split
    · rename_i h; show (x.place, true) = _; rw [h]
    · rfl
  · rw [if_neg hh, if_neg (by omega)]
    have hnone : ∀ (Q : List Rec), (∀ x ∈ Q, x ∈ R) → Q.find? (fun x => decide (keyR r n x)) = none := fun Q hQ => by
      rw [List.find?_eq_none]
      intro x hx
      rw [decide_eq_true_eq]
      exact fun hk => hh ⟨x, hQ x hx, hk⟩
    have hsub : ∀ x ∈ (if (R.length : Int) = room then dropLeast R else R), x ∈ R := by
      split
      · exact fun x hx => (dropLeast_sub R).subset hx
      · exact fun x hx => hx
    rw [List.find?_append, hnone _ hsub]
    simp [keyR]
theorem learnAll_neg (room : Int) : ∀ (ops : List OpR) (R : List Rec), (∀ o ∈ ops, o.place < 0) → learnAll room R ops = R
  | [], R, _ => rfl
  | o :: ops, R, h => by
    show learnAll room (learnF room R o.route o.name o.place) ops = R
    have e : learnF room R o.route o.name o.place = R := by unfold learnF; rw [if_pos (h o (by simp))]
    rw [e]
    exact learnAll_neg room ops R (fun o ho => h o (by simp [ho]))
theorem learnAll_app (room : Int) (R : List Rec) (a b : List OpR) : learnAll room R (a ++ b) = learnAll room (learnAll room R a) b := by simp [learnAll, List.foldl_append]
theorem learn_zero {R : List Rec} {room : Int} {r n : ByteArray} {pl : Int} (hroom : room ≤ 0) (h : R = []) : learnF room R r n pl = [] := by
  subst h
  unfold learnF
  by_cases h1 : pl < 0
  · rw [if_pos h1]
  · rw [if_neg h1, if_neg (by simp), if_pos hroom]
theorem learnAll_zero {room : Int} (hroom : room ≤ 0) : ∀ (ops : List OpR) , learnAll room [] ops = []
  | [] => rfl
  | o :: ops => by
    show learnAll room (learnF room [] o.route o.name o.place) ops = []
    rw [learn_zero hroom rfl]
    exact learnAll_zero hroom ops
theorem allF_sorted (R : List Rec) : (allF R).Pairwise fun a b => b.hits ≤ a.hits := by
  have : ∀ (f : Nat) (L : List Rec), L.length ≤ f + 1 → (srt f L).Pairwise fun a b => leR a b = true := by
    intro f
    induction f with
    | zero =>
      intro L hL
      match L, hL with
      | [], _ => simp [srt]
      | [x], _ => simp [srt]
    | succ f ih =>
      intro L hL
      unfold srt
      by_cases h : L.length < 2
      · rw [if_pos h]
        match L, h with
        | [], _ => simp
        | [x], _ => simp
      · rw [if_neg h]
        refine List.pairwise_merge (le := leR) (fun a b c hab hbc => ?_) (fun a b => ?_) _ _ (ih _ (by simp; omega)) (ih _ (by simp; omega))
        · unfold leR at *; rw [decide_eq_true_eq] at *; omega
        · unfold leR; rw [Bool.or_eq_true, decide_eq_true_eq, decide_eq_true_eq]; omega
  exact (this R.length R (by omega)).imp (fun {a b} h => by unfold leR at h; rwa [decide_eq_true_eq] at h)
/-- Of the last one that isn't refused. -/
theorem bounds_last {room : Int} {ops : List OpR} {i : Nat} (hi : i < ops.length) (h0 : 0 ≤ (oa ops i).place) (hl : ∀ j, i < j → j < ops.length → (oa ops j).place < 0) (hr : 0 < room) :
    guessF (learnAll room [] ops) (oa ops i).route (oa ops i).name = ((oa ops i).place, true) := by
  have e : ops = ops.take (i + 1) ++ ops.drop (i + 1) := (List.take_append_drop _ _).symm
  have hneg : ∀ o ∈ ops.drop (i + 1), o.place < 0 := fun o ho => by
    obtain ⟨j, hj, rfl⟩ := List.getElem_of_mem ho
    rw [List.getElem_drop]
    have hjl : i + 1 + j < ops.length := by simp at hj; omega
    have := hl (i + 1 + j) (by omega) hjl
    have g := oa_get ops _ hjl
    rw [List.getElem?_eq_getElem hjl] at g
    rw [Option.some.inj g]; exact this
  have e2 : learnAll room [] ops = learnAll room [] (ops.take (i + 1)) := by
    conv => lhs; rw [e, learnAll_app, learnAll_neg room _ _ hneg]
  rw [e2, take_snoc_o ops i hi, learnAll_snoc]
  exact guess_learn hr h0
theorem bounds_none {room : Int} {ops : List OpR} (hl : ∀ j, j < ops.length → (oa ops j).place < 0) : learnAll room [] ops = [] := by
  refine learnAll_neg room ops [] (fun o ho => ?_)
  obtain ⟨j, hj, rfl⟩ := List.getElem_of_mem ho
  have g := oa_get ops j hj
  rw [List.getElem?_eq_getElem hj] at g
  rw [Option.some.inj g]; exact hl j hj
end Go.Proofs.Ytcgfkmjlgblkcaa.Pat
