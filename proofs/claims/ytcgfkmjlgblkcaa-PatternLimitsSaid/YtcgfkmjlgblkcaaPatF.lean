/- What a pattern computes, on lists: learnF, allF. -/
import Derived.Test.YtcgfkmjlgblkcaaPatB
namespace Go.Proofs.Ytcgfkmjlgblkcaa.Pat
set_option linter.unusedVariables false
set_option linter.unusedSimpArgs false

def keyR (r n : ByteArray) (x : Rec) : Prop := x.route = r ∧ x.name = n
instance (r n : ByteArray) (x : Rec) : Decidable (keyR r n x) := by unfold keyR; exact inferInstance
def hitR (pl : Int) (x : Rec) : Rec := if x.place = pl then { x with hits := min (x.hits + 1) 4611686018427387904 } else { x with place := pl, hits := 1 }
def hitL (r n : ByteArray) (pl : Int) (x : Rec) : Rec := if keyR r n x then hitR pl x else x
/-- The place of the first of those with the fewest hits. -/
def leastTo (R : List Rec) : Nat → Nat
  | 0 => 0
  | k + 1 => if (ra R k).hits < (ra R (leastTo R k)).hits then k else leastTo R k
def leastI (R : List Rec) : Nat := leastTo R R.length
def dropLeast (R : List Rec) : List Rec := R.eraseIdx (leastI R)
def learnF (room : Int) (R : List Rec) (r n : ByteArray) (pl : Int) : List Rec :=
  if pl < 0 then R else
  if ∃ x ∈ R, keyR r n x then R.map (hitL r n pl) else
  if room ≤ 0 then R else
  (if (R.length : Int) = room then dropLeast R else R) ++ [⟨r, n, pl, 1⟩]
theorem least_spec (R : List Rec) : ∀ k, 0 < k → leastTo R k < k ∧ (∀ j, j < k → (ra R (leastTo R k)).hits ≤ (ra R j).hits) ∧ ∀ j, j < leastTo R k → (ra R (leastTo R k)).hits < (ra R j).hits
  | 0, h => absurd h (by omega)
  | 1, _ => by
    have e : leastTo R 1 = 0 := by unfold leastTo; simp [leastTo]
    rw [e]
    refine ⟨by omega, fun j hj => ?_, fun j hj => by omega⟩
    have e2 : j = 0 := by omega
    subst e2
    exact Int.le_refl _
  | k + 2, _ => by
    obtain ⟨h1, h2, h3⟩ := least_spec R (k + 1) (by omega)
    unfold leastTo
    by_cases h : (ra R (k + 1)).hits < (ra R (leastTo R (k + 1))).hits
    · rw [if_pos h]
      refine ⟨by omega, fun j hj => ?_, fun j hj => ?_⟩
      · by_cases e : j = k + 1
        · subst e; exact Int.le_refl _
        · have := h2 j (by omega); omega
      · have := h2 j (by omega); omega
    · rw [if_neg h]
      refine ⟨by omega, fun j hj => ?_, h3⟩
      by_cases e : j = k + 1
      · subst e; omega
      · exact h2 j (by omega)
theorem least_eq {R : List Rec} {i : Nat} (hi : i < R.length) (h1 : ∀ j, j < R.length → (ra R i).hits ≤ (ra R j).hits) (h2 : ∀ j, j < i → (ra R i).hits < (ra R j).hits) : leastI R = i := by
  obtain ⟨a, b, c⟩ := least_spec R R.length (by omega)
  unfold leastI
  rcases Nat.lt_trichotomy (leastTo R R.length) i with h | h | h
  · have := h2 _ h; have := b i hi; omega
  · exact h
  · have := c i h; have := h1 _ a; omega
/-- Two orders of the same, each of which rises, are one. -/
theorem sorted_one {α : Type} {lt : α → α → Prop} (hirr : ∀ a, ¬ lt a a) (has : ∀ a b, lt a b → ¬ lt b a) : ∀ {l l' : List α}, l.Perm l' → l.Pairwise lt → l'.Pairwise lt → l = l'
  | [], l', hp, _, _ => (List.nil_perm.1 hp).symm
  | a :: l, [], hp, _, _ => absurd hp.length_eq (by simp)
  | a :: l, b :: l', hp, h1, h2 => by
    obtain ⟨a1, a2⟩ := List.pairwise_cons.1 h1
    obtain ⟨b1, b2⟩ := List.pairwise_cons.1 h2
    have e : a = b := by
      rcases List.mem_cons.1 (hp.mem_iff.1 (List.mem_cons_self (a := a) (l := l))) with e | ha
      · exact e
      · rcases List.mem_cons.1 (hp.mem_iff.2 (List.mem_cons_self (a := b) (l := l'))) with e | hb
        · exact e.symm
        · exact absurd (a1 b hb) (has b a (b1 a ha))
    subst e
    rw [sorted_one hirr has hp.cons_inv a2 b2]
def leR (x y : Rec) : Bool := decide (y.hits ≤ x.hits)
def leE (x y : Ent) : Bool := decide (y.hits ≤ x.hits)
def leT (x y : Ent) : Bool := decide (¬ cfE y x < 0)
def srt : Nat → List Rec → List Rec
  | 0, l => l
  | f + 1, l => if l.length < 2 then l else (srt f (l.take (l.length / 2))).merge (srt f (l.drop (l.length / 2))) leR
def srtE : Nat → List Ent → List Ent
  | 0, l => l
  | f + 1, l => if l.length < 2 then l else (srtE f (l.take (l.length / 2))).merge (srtE f (l.drop (l.length / 2))) leE
def allF (R : List Rec) : List Rec := srt R.length R
theorem srt_map : ∀ (f : Nat) (L : List Ent), srt f (L.map Ent.r) = (srtE f L).map Ent.r
  | 0, L => rfl
  | f + 1, L => by
    unfold srt srtE
    rw [List.length_map]
    by_cases h : L.length < 2
    · rw [if_pos h, if_pos h]
    · rw [if_neg h, if_neg h, ← List.map_take, ← List.map_drop, srt_map f, srt_map f]
      rw [List.map_merge (s := leR)]
      intro a _ b _
      rfl
theorem srtE_perm : ∀ (f : Nat) (L : List Ent), (srtE f L).Perm L
  | 0, L => List.Perm.refl _
  | f + 1, L => by
    unfold srtE
    by_cases h : L.length < 2
    · rw [if_pos h]
    · rw [if_neg h]
      refine (List.merge_perm_append leE).trans ?_
      have := (srtE_perm f (L.take (L.length / 2))).append (srtE_perm f (L.drop (L.length / 2)))
      rwa [List.take_append_drop] at this
theorem cfE_irr (a : Ent) : ¬ cfE a a < 0 := by rw [cfE_lt]; omega
theorem cfE_asymm (a b : Ent) (h : cfE a b < 0) : ¬ cfE b a < 0 := by rw [cfE_lt] at *; omega
theorem merge_le {a b : List Ent} (h : ∀ x ∈ a, ∀ y ∈ b, x.age < y.age) : a.merge b leE = a.merge b leT := by
  have e := List.map_merge (f := id) (r := leE) (s := leT) (l := a) (l' := b) (fun x hx y hy => by
    have := h x hx y hy
    unfold leE leT
    rw [decide_eq_decide, id, id, cfE_lt]
    omega)
  simpa using e
theorem leT_pairs {l : List Ent} (h : l.Pairwise fun a b => leT a b = true) (ha : l.Pairwise fun x y => x.age ≠ y.age) : l.Pairwise fun a b => cfE a b < 0 := by
  have := h.and ha
  refine this.imp (fun {a b} ⟨h1, h2⟩ => ?_)
  unfold leT at h1
  rw [decide_eq_true_eq, cfE_lt] at h1
  rw [cfE_lt]
  omega
theorem srtE_sorted : ∀ (f : Nat) (L : List Ent), L.length ≤ f + 1 → L.Pairwise (fun x y => x.age < y.age) → (srtE f L).Pairwise fun a b => cfE a b < 0
  | 0, L, hl, _ => by
    unfold srtE
    match L, hl with
    | [], _ => simp
    | [x], _ => simp
  | f + 1, L, hl, ha => by
    unfold srtE
    by_cases h : L.length < 2
    · rw [if_pos h]
      match L, h with
      | [], _ => simp
      | [x], _ => simp
    · rw [if_neg h]
      have h1 := srtE_sorted f (L.take (L.length / 2)) (by simp; omega) (ha.sublist (List.take_sublist _ _))
      have h2 := srtE_sorted f (L.drop (L.length / 2)) (by simp; omega) (ha.sublist (List.drop_sublist _ _))
      have hab : ∀ x ∈ srtE f (L.take (L.length / 2)), ∀ y ∈ srtE f (L.drop (L.length / 2)), x.age < y.age := fun x hx y hy => by
        have hx' := (srtE_perm f _).mem_iff.1 hx
        have hy' := (srtE_perm f _).mem_iff.1 hy
        have := ha
        rw [← List.take_append_drop (L.length / 2) L, List.pairwise_append] at this
        exact this.2.2 x hx' y hy'
      rw [merge_le hab]
      refine leT_pairs ?_ ?_
      · refine List.pairwise_merge (le := leT) (fun a b c hab hbc => ?_) (fun a b => ?_) _ _ ?_ ?_
        · unfold leT at *; rw [decide_eq_true_eq, cfE_lt] at *; omega
        · unfold leT; rw [Bool.or_eq_true, decide_eq_true_eq, decide_eq_true_eq, cfE_lt, cfE_lt]; omega
        · exact h1.imp (fun {a b} h => by unfold leT; rw [decide_eq_true_eq]; exact cfE_asymm a b h)
        · exact h2.imp (fun {a b} h => by unfold leT; rw [decide_eq_true_eq]; exact cfE_asymm a b h)
      · have hp : ((srtE f (L.take (L.length / 2))).merge (srtE f (L.drop (L.length / 2))) leT).Perm L := by
          refine (List.merge_perm_append leT).trans ?_
          have := (srtE_perm f (L.take (L.length / 2))).append (srtE_perm f (L.drop (L.length / 2)))
          rwa [List.take_append_drop] at this
        exact (hp.symm.pairwise_iff (fun {a b} h => Ne.symm h)).1 (ha.imp (fun {a b} h => by omega))
/-- What All tells is the list's. -/
theorem all_is {M L S : List Ent} (h : Aged M L) (hp : S.Perm M) (hs : S.Pairwise fun a b => cfE a b < 0) : S.map Ent.r = allF (L.map Ent.r) := by
  unfold allF
  rw [srt_map, List.length_map]
  have h2 := srtE_sorted L.length L (by omega) h.rise
  rw [sorted_one (lt := fun a b => cfE a b < 0) cfE_irr cfE_asymm (hp.trans (h.perm.trans (srtE_perm L.length L).symm)) hs h2]
end Go.Proofs.Ytcgfkmjlgblkcaa.Pat
