/- Chapters 13 and 14 (floats, shortest): plain words on the texts of numbers. No conditions beside those that each contract names. -/
import Derived.Test.YtabmalnandbocaaGreatDoorMV
namespace Go.Proofs.YtabmalnandbocaaGreatDoor.Num
set_option exponentiation.threshold 3000
set_option linter.unusedVariables false
set_option linter.unusedSimpArgs false
set_option exponentiation.threshold 3000
open Go.Proofs.YtabmalnandbocaaGreatDoor.Mem Go.Proofs.YtabmalnandbocaaGreatDoor.Own Go.Proofs.YtabmalnandbocaaGreatDoor.Big
theorem textF_of {neg : Bool} {t w b x : List UInt8} {i : Nat} {en : Bool} {d : Bool × List UInt8 × Int} (h45 : t.head? ≠ some 45)
    (hw : wholeF ((if neg then [45] else []) ++ t) ((if neg then [(45 : UInt8)] else []) : List UInt8).length = some (w, b, i))
    (he : expF ((if neg then [45] else []) ++ t) i = some (en, x, ((if neg then [45] else []) ++ t).length))
    (hm : madeF neg (dval (w ++ b)) ((if en then -((x.foldl tenV 0 : Nat) : Int) else ((x.foldl tenV 0 : Nat) : Int)) - (b.length : Nat)) = some d) :
    textF ((if neg then [45] else []) ++ t) = .ok d := by
  have hb : bAt ((if neg then [45] else []) ++ t) 0 45 45 = neg := by
    cases neg with
    | true => rfl
    | false =>
      cases t with
      | nil => rfl
      | cons c t =>
        have : c ≠ 45 := by intro h; exact h45 (by rw [h]; rfl)
        unfold bAt
        simp [this]
  have ha : (if bAt ((if neg then [45] else []) ++ t) 0 45 45 = true then 1 else 0) = ((if neg then [(45 : UInt8)] else []) : List UInt8).length := by
    rw [hb]; cases neg <;> rfl
  unfold textF
  rw [ha, hw]
  simp only []
  rw [he]
  simp only []
  rw [if_neg (by simp), hb, hm]
theorem dig_head {c : UInt8} (h : 48 ≤ c.toNat ∧ c.toNat ≤ 57) (t : List UInt8) : (c :: t).head? ≠ some 45 := by
  intro hh
  simp at hh
  subst hh
  exact absurd h.1 (by decide)
theorem digs_take {l : List UInt8} (h : isDigs l) (n : Nat) : isDigs (l.take n) := fun c hc => h c (List.mem_of_mem_take hc)
theorem digs_drop {l : List UInt8} (h : isDigs l) (n : Nat) : isDigs (l.drop n) := fun c hc => h c (List.mem_of_mem_drop hc)
theorem digs_zeros (l : List UInt8) (h : isDigs l) (z : Nat) : isDigs (l ++ List.replicate z 48) := by
  intro d hd
  rcases List.mem_append.1 hd with hd | hd
  · exact h d hd
  · rw [List.eq_of_mem_replicate hd]; decide
theorem digs_lead (l : List UInt8) (h : isDigs l) (z : Nat) : isDigs (List.replicate z 48 ++ l) := by
  intro d hd
  rcases List.mem_append.1 hd with hd | hd
  · rw [List.eq_of_mem_replicate hd]; decide
  · exact h d hd
theorem text_back (neg : Bool) {l : List UInt8} {e : Int} (h : Form l e) : textF (writeF neg l e) = .ok (neg, l, e) := by
  unfold writeF
  by_cases h0 : l = []
  · have he0 : e = 0 := by
      rcases h with ⟨-, h⟩ | ⟨h, -⟩
      · exact h
      · exact absurd h0 h
    subst h0; subst he0
    have hb : bodyF [] 0 = [48] := by unfold bodyF; rfl
    rw [hb]
    have hw := whole_1 ((if neg then [(45 : UInt8)] else []) : List UInt8) (c := 48) (t := []) (r := []) (by intro c hc; simp at hc; subst hc; decide) (.inr rfl) (by intro c hc; simp at hc) (by simp)
    refine textF_of (by decide) hw ?_ (en := false) (x := []) ?_
    · have := exp_none ((if neg then [45] else []) ++ [48])
      rw [List.length_append] at this ⊢
      exact this
    · have : dval ([48] ++ []) = 0 := by decide
      rw [this]
      unfold madeF
      rw [if_pos rfl]
  · obtain ⟨hc, b1, b2⟩ := h.canon
    obtain ⟨c, t, hl⟩ : ∃ c t, l = c :: t := by cases l with | nil => exact absurd rfl h0 | cons c t => exact ⟨c, t, rfl⟩
    have hcd := hc.digs c (by rw [hl]; simp)
    have hc48 : c ≠ 48 := by
      rintro rfl
      exact hc.head 48 (by rw [hl]; rfl) (by decide)
    have hlen : 0 < l.length := List.length_pos_iff.2 h0
    have hB0 : ¬ l.length = 0 := by omega
    by_cases k1 : (l.length : Int) ≤ e + l.length ∧ e + l.length ≤ 21
    · rw [show bodyF l e = l ++ List.replicate e.toNat 48 from by unfold bodyF; rw [if_neg hB0, if_pos k1]]
      have hw := whole_1 ((if neg then [(45 : UInt8)] else []) : List UInt8) (c := c) (t := t ++ List.replicate e.toNat 48) (r := []) (by rw [← List.cons_append, ← hl]; exact digs_zeros l hc.digs _) (.inl hc48) (by intro c hc; simp at hc) (by simp)
      rw [List.append_nil, ← List.cons_append, ← hl] at hw
      refine textF_of (by rw [hl]; exact dig_head hcd _) hw ?_ (en := false) (x := []) ?_
      · have := exp_none ((if neg then [45] else []) ++ (l ++ List.replicate e.toNat 48))
        have e2 : ((if neg then [45] else []) ++ (l ++ List.replicate e.toNat 48)).length = ((if neg then [(45 : UInt8)] else []) : List UInt8).length + (l ++ List.replicate e.toNat 48).length := List.length_append
        rw [← e2]
        exact this
      · rw [List.append_nil, dval_zeros]
        exact made_is h h0 _ (by simp; omega)
    · by_cases k2 : 1 ≤ e + l.length ∧ e + l.length ≤ 21
      · rw [show bodyF l e = l.take (e + l.length).toNat ++ 46 :: l.drop (e + l.length).toNat from by unfold bodyF; rw [if_neg hB0, if_neg k1, if_pos k2]]
        obtain ⟨q, hq⟩ : ∃ q : Nat, e + l.length = q + 1 := ⟨(e + l.length - 1).toNat, by omega⟩
        have hqn : q + 1 < l.length := by omega
        rw [show (e + l.length).toNat = q + 1 by omega]
        have htk : l.take (q + 1) = c :: t.take q := by rw [hl]; rfl
        have hdn : l.drop (q + 1) ≠ [] := by intro hh; have := congrArg List.length hh; rw [List.length_drop] at this; simp at this; omega
        have hw := whole_2 ((if neg then [(45 : UInt8)] else []) : List UInt8) (c := c) (t := t.take q) (bs := l.drop (q + 1)) (r := []) (by rw [← htk]; exact digs_take hc.digs _) (.inl hc48) (digs_drop hc.digs _) hdn (by intro c hc; simp at hc)
        rw [List.append_nil, ← htk] at hw
        refine textF_of (by rw [htk]; exact dig_head hcd _) hw ?_ (en := false) (x := []) ?_
        · have := exp_none ((if neg then [45] else []) ++ (l.take (q + 1) ++ 46 :: l.drop (q + 1)))
          have e2 : ((if neg then [45] else []) ++ (l.take (q + 1) ++ 46 :: l.drop (q + 1))).length = ((if neg then [(45 : UInt8)] else []) : List UInt8).length + (l.take (q + 1)).length + 1 + (l.drop (q + 1)).length := by
            rw [List.length_append, List.length_append, List.length_cons]; omega
          rw [← e2]
          exact this
        · rw [List.take_append_drop, List.length_drop]
          have := made_is (neg := neg) (X := (if false = true then -((([] : List UInt8).foldl tenV 0 : Nat) : Int) else ((([] : List UInt8).foldl tenV 0 : Nat) : Int)) - ((l.length - (q + 1) : Nat) : Int)) h h0 0 (by simp; omega)
          rw [Nat.pow_zero, Nat.mul_one] at this
          exact this
      · by_cases k3 : -5 ≤ e + l.length ∧ e + l.length ≤ 0
        · rw [show bodyF l e = 48 :: 46 :: (List.replicate (-(e + l.length)).toNat 48 ++ l) from by unfold bodyF; rw [if_neg hB0, if_neg k1, if_neg k2, if_pos k3]]
          obtain ⟨z, hz⟩ : ∃ z : Nat, (-(e + l.length)).toNat = z ∧ (z : Int) = -(e + l.length) := ⟨_, rfl, by omega⟩
          rw [hz.1]
          have hw := whole_2 ((if neg then [(45 : UInt8)] else []) : List UInt8) (c := 48) (t := []) (bs := List.replicate z 48 ++ l) (r := []) (by intro c hc; simp at hc; subst hc; decide) (.inr rfl) (digs_lead l hc.digs z) (by simp [h0]) (by intro c hc; simp at hc)
          rw [List.append_nil] at hw
          refine textF_of (by simp) hw ?_ (en := false) (x := []) ?_
          · have := exp_none ((if neg then [45] else []) ++ (48 :: 46 :: (List.replicate z 48 ++ l)))
            have e2 : ((if neg then [45] else []) ++ (48 :: 46 :: (List.replicate z 48 ++ l))).length = ((if neg then [(45 : UInt8)] else []) : List UInt8).length + ([48] : List UInt8).length + 1 + (List.replicate z (48 : UInt8) ++ l).length := by
              rw [List.length_append, List.length_cons, List.length_cons, List.length_cons, List.length_nil]; omega
            rw [← e2]
            exact this
          · have hv : dval ([48] ++ (List.replicate z 48 ++ l)) = dval l := by
              have := dval_lead (z + 1) l
              rw [List.replicate_succ] at this
              exact this
            rw [hv]
            have := made_is (neg := neg) (X := (if false = true then -((([] : List UInt8).foldl tenV 0 : Nat) : Int) else ((([] : List UInt8).foldl tenV 0 : Nat) : Int)) - (((List.replicate z (48 : UInt8) ++ l).length : Nat) : Int)) h h0 0 (by simp; omega)
            rw [Nat.pow_zero, Nat.mul_one] at this
            exact this
        · rw [show bodyF l e = l.take 1 ++ ((if 1 < l.length then 46 :: l.drop 1 else []) ++ 101 :: itoaF (e + l.length - 1)) from by unfold bodyF; rw [if_neg hB0, if_neg k1, if_neg k2, if_neg k3], itoa_is]
          obtain ⟨v, hv⟩ : ∃ v, v = e + l.length - 1 := ⟨_, rfl⟩
          rw [← hv]
          have hxd : (if decide (v < 0) = true then -((((decL v.natAbs).foldl tenV 0 : Nat)) : Int) else ((((decL v.natAbs).foldl tenV 0 : Nat)) : Int)) = v := by
            rw [show (decL v.natAbs).foldl tenV 0 = v.natAbs from decL_dval v.natAbs]
            by_cases hn : v < 0
            · rw [if_pos (by simpa using hn)]; omega
            · rw [if_neg (by simpa using hn)]; omega
          have hs : (if v < 0 then [(45 : UInt8)] else []) = (if decide (v < 0) = true then [45] else []) := by simp
          rw [hs]
          have htk : l.take 1 = [c] := by rw [hl]; rfl
          have hst : stopD (101 :: ((if decide (v < 0) = true then [45] else []) ++ decL v.natAbs)) := by intro d hd; simp at hd; subst hd; decide
          by_cases k4 : 1 < l.length
          · rw [show (if 1 < l.length then 46 :: l.drop 1 else []) = 46 :: l.drop 1 from if_pos k4]
            have hdn : l.drop 1 ≠ [] := by intro hh; have := congrArg List.length hh; rw [List.length_drop] at this; simp at this; omega
            have hw := whole_2 ((if neg then [(45 : UInt8)] else []) : List UInt8) (c := c) (t := []) (bs := l.drop 1) (r := 101 :: ((if decide (v < 0) = true then [45] else []) ++ decL v.natAbs)) (by intro d hd; simp at hd; subst hd; exact hcd) (.inr rfl) (digs_drop hc.digs _) hdn hst
            rw [← htk] at hw
            have hx := exp_some ((if neg then [(45 : UInt8)] else []) ++ (l.take 1 ++ 46 :: l.drop 1)) (decide (v < 0)) (decL_digs v.natAbs) (decL_ne v.natAbs)
            have e2 : ((if neg then [(45 : UInt8)] else []) ++ (l.take 1 ++ 46 :: l.drop 1)).length = ((if neg then [(45 : UInt8)] else []) : List UInt8).length + (l.take 1).length + 1 + (l.drop 1).length := by
              rw [List.length_append, List.length_append, List.length_cons]; omega
            rw [e2] at hx
            have e3 : ((if neg then [(45 : UInt8)] else []) ++ (l.take 1 ++ 46 :: l.drop 1)) ++ 101 :: ((if decide (v < 0) = true then [45] else []) ++ decL v.natAbs) = (if neg then [45] else []) ++ (l.take 1 ++ ((46 :: l.drop 1) ++ 101 :: ((if decide (v < 0) = true then [45] else []) ++ decL v.natAbs))) := by simp
            rw [e3] at hx
            refine textF_of (by rw [htk]; exact dig_head hcd _) hw hx ?_
            rw [hxd, List.take_append_drop, List.length_drop]
            have := made_is (neg := neg) (X := v - ((l.length - 1 : Nat) : Int)) h h0 0 (by rw [hv]; omega)
            rw [Nat.pow_zero, Nat.mul_one] at this
            exact this
          · rw [show (if 1 < l.length then 46 :: l.drop 1 else []) = [] from if_neg k4, List.nil_append]
            have hl1 : l = [c] := by rw [hl] at k4 ⊢; cases t with | nil => rfl | cons d t => simp at k4
            have hw := whole_1 ((if neg then [(45 : UInt8)] else []) : List UInt8) (c := c) (t := []) (r := 101 :: ((if decide (v < 0) = true then [45] else []) ++ decL v.natAbs)) (by intro d hd; simp at hd; subst hd; exact hcd) (.inr rfl) hst (by simp)
            rw [← htk] at hw
            have hx := exp_some ((if neg then [(45 : UInt8)] else []) ++ l.take 1) (decide (v < 0)) (decL_digs v.natAbs) (decL_ne v.natAbs)
            rw [List.length_append, List.append_assoc] at hx
            refine textF_of (by rw [htk]; exact dig_head hcd _) hw hx ?_
            rw [hxd, List.append_nil, htk, ← hl1]
            have := made_is (neg := neg) (X := v - ((([] : List UInt8).length : Nat) : Int)) h h0 0 (by rw [hv, hl1]; simp)
            rw [Nat.pow_zero, Nat.mul_one] at this
            exact this
theorem made_form {neg : Bool} {N : Nat} {X : Int} {d : Bool × List UInt8 × Int} (h : madeF neg N X = some d) : d.1 = neg ∧ Form d.2.1 d.2.2 := by
  unfold madeF at h
  by_cases h0 : N = 0
  · rw [if_pos h0] at h
    cases h
    exact ⟨rfl, .inl ⟨rfl, rfl⟩⟩
  · rw [if_neg h0] at h
    by_cases h1 : 1073741824 < te N X ∨ te N X < -1073741824
    · rw [if_pos h1] at h; cases h
    · rw [if_neg h1] at h
      cases h
      exact ⟨rfl, .inr ⟨(told_tl N).ne h0, told_canon N, by show _ ≤ te N X; omega, by show te N X ≤ _; omega⟩⟩
/-- What a text is read as is a decimal in its one form. -/
theorem text_form {l : List UInt8} {d : Bool × List UInt8 × Int} (h : textF l = .ok d) : Form d.2.1 d.2.2 := by
  unfold textF at h
  split at h
  · cases h
  · split at h
    · cases h
    · split at h
      · cases h
      · split at h
        · cases h
        · rename_i hm
          cases h
          exact (made_form hm).2
/-- What decimal.Text writes. -/
noncomputable def decW (neg : Bool) (l : List UInt8) (e : Int) : List UInt8 := (if neg then [45] else []) ++ ((if l = [] then [48] else l) ++ (if e = 0 then [] else 101 :: itoaF e))
theorem dec_back (neg : Bool) {l : List UInt8} {e : Int} (h : Form l e) : textF (decW neg l e) = .ok (neg, l, e) := by
  unfold decW
  by_cases h0 : l = []
  · have he0 : e = 0 := by
      rcases h with ⟨-, h⟩ | ⟨h, -⟩
      · exact h
      · exact absurd h0 h
    subst h0; subst he0
    exact text_back neg (l := []) (e := 0) (.inl ⟨rfl, rfl⟩)
  · obtain ⟨hc, b1, b2⟩ := h.canon
    obtain ⟨c, t, hl⟩ : ∃ c t, l = c :: t := by cases l with | nil => exact absurd rfl h0 | cons c t => exact ⟨c, t, rfl⟩
    have hcd := hc.digs c (by rw [hl]; simp)
    have hc48 : c ≠ 48 := by
      rintro rfl
      exact hc.head 48 (by rw [hl]; rfl) (by decide)
    rw [if_neg h0]
    have hm := fun (X : Int) (hX : X = e) => made_is (neg := neg) (X := X) h h0 0 (by rw [hX]; simp)
    simp only [Nat.pow_zero, Nat.mul_one] at hm
    by_cases he : e = 0
    · rw [show (if e = 0 then [] else 101 :: itoaF e) = [] from if_pos he]
      have hw := whole_1 ((if neg then [(45 : UInt8)] else []) : List UInt8) (c := c) (t := t) (r := []) (by rw [← hl]; exact hc.digs) (.inl hc48) (by intro c hc; simp at hc) (by simp)
      rw [← hl] at hw
      refine textF_of (by rw [hl]; exact dig_head hcd _) hw ?_ (en := false) (x := []) ?_
      · have := exp_none ((if neg then [45] else []) ++ (l ++ []))
        have e2 : ((if neg then [45] else []) ++ (l ++ [])).length = ((if neg then [(45 : UInt8)] else []) : List UInt8).length + l.length := by rw [List.append_nil]; exact List.length_append
        rw [← e2]
        exact this
      · rw [List.append_nil]
        exact hm _ (by rw [he]; rfl)
    · rw [show (if e = 0 then [] else 101 :: itoaF e) = 101 :: itoaF e from if_neg he, itoa_is]
      have hxd : (if decide (e < 0) = true then -((((decL e.natAbs).foldl tenV 0 : Nat)) : Int) else ((((decL e.natAbs).foldl tenV 0 : Nat)) : Int)) = e := by
        rw [show (decL e.natAbs).foldl tenV 0 = e.natAbs from decL_dval e.natAbs]
        by_cases hn : e < 0
        · rw [if_pos (by simpa using hn)]; omega
        · rw [if_neg (by simpa using hn)]; omega
      have hs : (if e < 0 then [(45 : UInt8)] else []) = (if decide (e < 0) = true then [45] else []) := by simp
      rw [hs]
      have hst : stopD (101 :: ((if decide (e < 0) = true then [45] else []) ++ decL e.natAbs)) := by intro d hd; simp at hd; subst hd; decide
      have hw := whole_1 ((if neg then [(45 : UInt8)] else []) : List UInt8) (c := c) (t := t) (r := 101 :: ((if decide (e < 0) = true then [45] else []) ++ decL e.natAbs)) (by rw [← hl]; exact hc.digs) (.inl hc48) hst (by simp)
      rw [← hl] at hw
      have hx := exp_some ((if neg then [(45 : UInt8)] else []) ++ l) (decide (e < 0)) (decL_digs e.natAbs) (decL_ne e.natAbs)
      rw [List.length_append, List.append_assoc] at hx
      refine textF_of (by rw [hl]; exact dig_head hcd _) hw hx ?_
      rw [hxd, List.append_nil]
      exact hm _ (by simp)
end Go.Proofs.YtabmalnandbocaaGreatDoor.Num
namespace Go.Proofs.YtabmalnandbocaaGreatDoor.Num
set_option exponentiation.threshold 3000
set_option linter.unusedVariables false
set_option linter.unusedSimpArgs false
set_option exponentiation.threshold 3000
open Go.Proofs.YtabmalnandbocaaGreatDoor.Mem Go.Proofs.YtabmalnandbocaaGreatDoor.Own Go.Proofs.YtabmalnandbocaaGreatDoor.Big
/-- What a number's text comes to: its digits, how many of them stand behind the point, the exponent's sign and digits, where it ends. -/
abbrev Rd := Option (List UInt8 × Nat × Bool × List UInt8 × Nat)
def expR (l ds : List UInt8) (dn i : Nat) : Rd := match expF l i with | none => none | some (en, x, j) => some (ds, dn, en, x, j)
def pointR (l ds : List UInt8) (i : Nat) : Rd := if bAt l i 46 46 = true then (if dAt l (i + 1) = false then none else expR l (ds ++ (l.drop (i + 1)).takeWhile isD) ((l.drop (i + 1)).takeWhile isD).length (dEnd l (i + 1))) else expR l ds 0 i
def wholeR (l ds : List UInt8) (i : Nat) : Rd := pointR l (ds ++ (l.drop i).takeWhile isD) (dEnd l i)
def readR (l : List UInt8) (p : Nat) : Rd := if dAt l p = false then none else if bAt l p 48 48 = true then pointR l ((l.drop p).take 1) (p + 1) else wholeR l [] p
theorem span_tw (l : List UInt8) (i : Nat) : span l i (dEnd l i) = (l.drop i).takeWhile isD := by
  unfold span dEnd
  rw [Nat.add_sub_cancel_left]
  exact (List.prefix_iff_eq_take.1 (List.takeWhile_prefix isD)).symm
theorem dEnd_iff (l : List UInt8) (i : Nat) : dEnd l i = i ↔ dAt l i = false := by
  constructor
  · intro h
    cases hd : dAt l i
    · rfl
    · have := (dEnd_yes hd).2
      have h2 := dEnd_ge l (i + 1)
      omega
  · exact dEnd_no
theorem point_is (l ds : List UInt8) (i : Nat) : pointR l ds i = match (if bAt l i 46 46 = true then (if dEnd l (i + 1) = i + 1 then none else some (ds, span l (i + 1) (dEnd l (i + 1)), dEnd l (i + 1))) else some (ds, [], i)) with | none => none | some (w, b, i) => expR l (w ++ b) b.length i := by
  unfold pointR
  by_cases h : bAt l i 46 46 = true
  · rw [if_pos h, if_pos h]
    by_cases h2 : dAt l (i + 1) = false
    · rw [if_pos h2, if_pos ((dEnd_iff _ _).2 h2)]
    · rw [if_neg h2, if_neg (fun e => h2 ((dEnd_iff _ _).1 e))]
      simp only [span_tw]
  · rw [if_neg h, if_neg h]
    simp
theorem read_is (l : List UInt8) (p : Nat) : readR l p = match wholeF l p with | none => none | some (w, b, i) => expR l (w ++ b) b.length i := by
  unfold readR wholeF
  by_cases h : dAt l p = false
  · rw [if_pos h, if_pos h]
  · rw [if_neg h, if_neg h]
    by_cases h2 : bAt l p 48 48 = true
    · simp only [if_pos h2]
      rw [point_is]
      have : span l p (p + 1) = (l.drop p).take 1 := by unfold span; rw [show p + 1 - p = 1 by omega]
      rw [this]
    · simp only [if_neg h2]
      unfold wholeR
      rw [point_is, List.nil_append, span_tw, span_tw]
theorem expF_some {l : List UInt8} {i : Nat} {en : Bool} {x : List UInt8} {j : Nat} (hi : i ≤ l.length) (h : expF l i = some (en, x, j)) : isDigs x ∧ j ≤ l.length := by
  unfold expF at h
  by_cases h1 : bAt l i 101 69 = true
  · rw [if_pos h1] at h
    generalize hq : (if bAt l (i + 1) 43 45 = true then i + 2 else i + 1) = q at h
    by_cases h2 : dEnd l q = q
    · rw [if_pos h2] at h; cases h
    · rw [if_neg h2] at h
      injection h with h
      injection h with h3 h4
      injection h4 with h4 h5
      subst h4 h5
      refine ⟨span_digs l q, dEnd_le ?_⟩
      have hd : dAt l q = true := by
        cases hd : dAt l q
        · exact absurd (dEnd_no hd) h2
        · rfl
      have := (dEnd_yes hd).1
      omega
  · rw [if_neg h1] at h
    injection h with h
    injection h with h3 h4
    injection h4 with h4 h5
    subst h4 h5
    exact ⟨fun c hc => by simp at hc, hi⟩
theorem dAt_dig {l : List UInt8} {i : Nat} (h : dAt l i = true) : ∃ hi : i < l.length, 48 ≤ l[i].toNat ∧ l[i].toNat ≤ 57 := by
  have hi := (dEnd_yes h).1
  refine ⟨hi, ?_⟩
  unfold dAt at h
  rw [List.getElem?_eq_getElem hi] at h
  unfold isD at h
  simpa using h
theorem wholeF_some {l : List UInt8} {p : Nat} {w b : List UInt8} {i : Nat} (h : wholeF l p = some (w, b, i)) : isDigs (w ++ b) ∧ w ≠ [] ∧ (w ++ b).length ≤ l.length ∧ i ≤ l.length := by
  unfold wholeF at h
  by_cases hd : dAt l p = false
  · rw [if_pos hd] at h; cases h
  · rw [if_neg hd] at h
    have hd' : dAt l p = true := by simpa using hd
    obtain ⟨hp, hdg⟩ := dAt_dig hd'
    have hE : ∃ E, E = (if bAt l p 48 48 = true then p + 1 else dEnd l p) := ⟨_, rfl⟩
    obtain ⟨E, hE⟩ := hE
    rw [← hE] at h
    have hEd := dEnd_le (l := l) (i := p) (by omega)
    have hEg := (dEnd_yes hd').2
    have hEg2 := dEnd_ge l (p + 1)
    have hE1 : p + 1 ≤ E ∧ E ≤ l.length := by
      rw [hE]; split
      · omega
      · omega
    have hsp : isDigs (span l p E) := by
      rw [hE]
      split
      · unfold span
        rw [show p + 1 - p = 1 by omega, List.drop_eq_getElem_cons hp, List.take_succ_cons, List.take_zero]
        intro c hc
        rw [List.mem_singleton.1 hc]
        exact hdg
      · exact span_digs l p
    have hsl : (span l p E).length = E - p := span_len hE1.2
    by_cases h1 : bAt l E 46 46 = true
    · rw [if_pos h1] at h
      by_cases h2 : dEnd l (E + 1) = E + 1
      · rw [if_pos h2] at h; cases h
      · rw [if_neg h2] at h
        injection h with h
        injection h with h3 h4
        injection h4 with h4 h5
        subst h3 h4 h5
        have hdE : dAt l (E + 1) = true := by
          cases hx : dAt l (E + 1)
          · exact absurd (dEnd_no hx) h2
          · rfl
        have hlt := (dEnd_yes hdE).1
        have hle := dEnd_le (l := l) (i := E + 1) (by omega)
        have hge := dEnd_ge l (E + 1)
        have hsl2 : (span l (E + 1) (dEnd l (E + 1))).length = dEnd l (E + 1) - (E + 1) := span_len hle
        refine ⟨?_, ?_, ?_, hle⟩
        · intro c hc
          rcases List.mem_append.1 hc with hc | hc
          · exact hsp c hc
          · exact span_digs l _ c hc
        · intro he; rw [he] at hsl; simp at hsl; omega
        · rw [List.length_append, hsl, hsl2]; omega
    · rw [if_neg h1] at h
      injection h with h
      injection h with h3 h4
      injection h4 with h4 h5
      subst h3 h4 h5
      refine ⟨by rw [List.append_nil]; exact hsp, ?_, ?_, hE1.2⟩
      · intro he; rw [he] at hsl; simp at hsl; omega
      · rw [List.append_nil, hsl]; omega
theorem readR_some {l : List UInt8} {p : Nat} {ds : List UInt8} {dn : Nat} {en : Bool} {x : List UInt8} {j : Nat} (h : readR l p = some (ds, dn, en, x, j)) : isDigs ds ∧ ds ≠ [] ∧ ds.length ≤ l.length ∧ dn ≤ ds.length ∧ isDigs x ∧ j ≤ l.length := by
  rw [read_is] at h
  cases hw : wholeF l p with
  | none => rw [hw] at h; cases h
  | some q =>
    obtain ⟨w, b, i⟩ := q
    rw [hw] at h
    obtain ⟨a1, a2, a3, a4⟩ := wholeF_some hw
    simp only [expR] at h
    cases he : expF l i with
    | none => rw [he] at h; cases h
    | some q =>
      obtain ⟨en', x', j'⟩ := q
      rw [he] at h
      injection h with h
      injection h with h1 h
      injection h with h2 h
      injection h with h3 h
      injection h with h4 h5
      subst h1 h2 h3 h4 h5
      obtain ⟨b1, b2⟩ := expF_some a4 he
      exact ⟨a1, by intro e; exact a2 (List.append_eq_nil_iff.1 e).1, a3, by rw [List.length_append]; omega, b1, b2⟩
/-- The signed exponent as the program holds it. -/
def sgn (en : Bool) (n : Nat) : Int := if en then -(n : Int) else (n : Int)
theorem foldP_lt {x : List UInt8} (h : isDigs x) : x.foldl tenP 0 < 11258999068426250 := (tenP_is h 0 (by omega)).1
/-- What Of answers. -/
noncomputable def textP (l : List UInt8) : Except Int (Bool × List UInt8 × Int) :=
  match readR l (if bAt l 0 45 45 = true then 1 else 0) with
  | none => .error 110
  | some (ds, dn, en, x, j) =>
    if j ≠ l.length then .error 110
    else match madeF (bAt l 0 45 45) (dval ds) (sgn en (x.foldl tenP 0) - (dn : Nat)) with
      | none => .error 111
      | some d => .ok d
theorem text_is {l : List UInt8} (hl : l.length < 140737488355328) : textF l = textP l := by
  unfold textF textP
  rw [read_is]
  cases hw : wholeF l (if bAt l 0 45 45 = true then 1 else 0) with
  | none => rfl
  | some q =>
    obtain ⟨w, b, i⟩ := q
    obtain ⟨a1, a2, a3, a4⟩ := wholeF_some hw
    simp only [expR]
    cases he : expF l i with
    | none => rfl
    | some q =>
      obtain ⟨en, x, j⟩ := q
      obtain ⟨b1, b2⟩ := expF_some a4 he
      simp only
      by_cases hj : j ≠ l.length
      · rw [if_pos hj, if_pos hj]
      · rw [if_neg hj, if_neg hj]
        have hlen := a3
        rw [List.length_append] at hlen
        have h1 := (tenP_is b1 0 (by omega)).2
        have := made_far (neg := bAt l 0 45 45) (N := dval (w ++ b)) (X := sgn en (x.foldl tenV 0)) (Y := sgn en (x.foldl tenP 0)) (ds := (w ++ b).length) (b := b.length) (dval_lt a1) (by omega) (by omega) (by
          rcases h1 with h1 | h1
          · exact .inl (by rw [h1])
          · unfold sgn
            cases en
            · refine .inr (.inl ?_); simp; omega
            · refine .inr (.inr ?_); simp; omega)
        unfold sgn at this
        rw [this]
        rfl
end Go.Proofs.YtabmalnandbocaaGreatDoor.Num
