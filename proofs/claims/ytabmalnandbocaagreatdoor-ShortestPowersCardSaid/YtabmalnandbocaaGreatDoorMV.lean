/- Chapters 13 and 14 (floats, shortest): plain words on what is written. No conditions beside those that each contract names. -/
import Derived.Test.YtabmalnandbocaaGreatDoorMP
import Derived.Test.YtabmalnandbocaaGreatDoorMS
import Derived.Test.YtabmalnandbocaaGreatDoorMD
import Derived.Lib.ItoaNum
import Derived.Test.YtabmalnandbocaaGreatDoorMU
namespace Go.Proofs.YtabmalnandbocaaGreatDoor.Num
set_option exponentiation.threshold 3000
set_option linter.unusedVariables false
set_option linter.unusedSimpArgs false
set_option exponentiation.threshold 3000
open Go.Proofs.YtabmalnandbocaaGreatDoor.Mem Go.Proofs.YtabmalnandbocaaGreatDoor.Own Go.Proofs.YtabmalnandbocaaGreatDoor.Big
def isD (c : UInt8) : Bool := decide (48 ≤ c.toNat) && decide (c.toNat ≤ 57)
/-- Does a digit stand at the place? -/
def dAt (l : List UInt8) (i : Nat) : Bool := match l[i]? with | some c => isD c | none => false
/-- The place behind all digits from a place on. -/
def dEnd (l : List UInt8) (i : Nat) : Nat := i + ((l.drop i).takeWhile isD).length
/-- Does one of two bytes stand at the place? -/
def bAt (l : List UInt8) (i : Nat) (x y : UInt8) : Bool := match l[i]? with | some c => c == x || c == y | none => false
theorem dEnd_yes {l : List UInt8} {i : Nat} (h : dAt l i = true) : i < l.length ∧ dEnd l i = dEnd l (i + 1) := by
  unfold dAt at h
  cases hc : l[i]? with
  | none => rw [hc] at h; cases h
  | some c =>
    rw [hc] at h
    obtain ⟨hi, rfl⟩ := List.getElem?_eq_some_iff.1 hc
    refine ⟨hi, ?_⟩
    unfold dEnd
    rw [List.drop_eq_getElem_cons hi, List.takeWhile_cons, if_pos h, List.length_cons]
    omega
theorem dEnd_no {l : List UInt8} {i : Nat} (h : dAt l i = false) : dEnd l i = i := by
  unfold dEnd
  by_cases hi : i < l.length
  · unfold dAt at h
    rw [List.getElem?_eq_getElem hi] at h
    rw [List.drop_eq_getElem_cons hi, List.takeWhile_cons]
    simp only at h
    rw [if_neg (by simp [h])]
    rfl
  · rw [List.drop_eq_nil_of_le (by omega)]; rfl
theorem dEnd_ge (l : List UInt8) (i : Nat) : i ≤ dEnd l i := Nat.le_add_right _ _
theorem dEnd_le {l : List UInt8} {i : Nat} (h : i ≤ l.length) : dEnd l i ≤ l.length := by
  unfold dEnd
  have := (List.takeWhile_sublist (p := isD) (l := l.drop i)).length_le
  rw [List.length_drop] at this
  omega
/-- The text from a place to another. -/
def span (l : List UInt8) (i j : Nat) : List UInt8 := (l.drop i).take (j - i)
theorem span_digs (l : List UInt8) (i : Nat) : isDigs (span l i (dEnd l i)) := by
  have : span l i (dEnd l i) = (l.drop i).takeWhile isD := by
    unfold span dEnd
    rw [Nat.add_sub_cancel_left]
    exact (List.prefix_iff_eq_take.1 (List.takeWhile_prefix isD)).symm
  rw [this]
  intro c hc
  have hall : ∀ m : List UInt8, ∀ c ∈ m.takeWhile isD, isD c = true := by
    intro m
    induction m with
    | nil => intro c hc; simp at hc
    | cons a m ih =>
      intro c hc
      rw [List.takeWhile_cons] at hc
      by_cases ha : isD a = true
      · rw [if_pos ha] at hc
        rcases List.mem_cons.1 hc with rfl | hc
        · exact ha
        · exact ih c hc
      · rw [if_neg ha] at hc; simp at hc
  have := hall _ c hc
  unfold isD at this
  simpa using this
theorem span_len {l : List UInt8} {i j : Nat} (h : j ≤ l.length) : (span l i j).length = j - i := by
  unfold span
  rw [List.length_take, List.length_drop]
  omega
/-- A digit more. -/
theorem span_snoc {l : List UInt8} {i j : Nat} (hij : i ≤ j) (hj : j < l.length) : span l i (j + 1) = span l i j ++ [l[j]] := by
  unfold span
  rw [show j + 1 - i = (j - i) + 1 by omega, List.take_succ_eq_append_getElem (by rw [List.length_drop]; omega)]
  congr 2
  rw [List.getElem_drop]
  congr 1
  omega
/-- The sign and the digits of the exponent, and where the number ends. -/
def expF (l : List UInt8) (i : Nat) : Option (Bool × List UInt8 × Nat) :=
  if bAt l i 101 69 = true then
    (if dEnd l (if bAt l (i + 1) 43 45 = true then i + 2 else i + 1) = (if bAt l (i + 1) 43 45 = true then i + 2 else i + 1) then none
     else some (bAt l (i + 1) 45 45, span l (if bAt l (i + 1) 43 45 = true then i + 2 else i + 1) (dEnd l (if bAt l (i + 1) 43 45 = true then i + 2 else i + 1)), dEnd l (if bAt l (i + 1) 43 45 = true then i + 2 else i + 1)))
  else some (false, [], i)
/-- The digits ahead of the point, and those behind it, of what begins at a place, and where they end. -/
def wholeF (l : List UInt8) (a : Nat) : Option (List UInt8 × List UInt8 × Nat) :=
  if dAt l a = false then none
  else if bAt l (if bAt l a 48 48 = true then a + 1 else dEnd l a) 46 46 = true then
    (if dEnd l ((if bAt l a 48 48 = true then a + 1 else dEnd l a) + 1) = (if bAt l a 48 48 = true then a + 1 else dEnd l a) + 1 then none
     else some (span l a (if bAt l a 48 48 = true then a + 1 else dEnd l a), span l ((if bAt l a 48 48 = true then a + 1 else dEnd l a) + 1) (dEnd l ((if bAt l a 48 48 = true then a + 1 else dEnd l a) + 1)), dEnd l ((if bAt l a 48 48 = true then a + 1 else dEnd l a) + 1)))
  else some (span l a (if bAt l a 48 48 = true then a + 1 else dEnd l a), [], if bAt l a 48 48 = true then a + 1 else dEnd l a)
/-- The decimal that a whole text is: 110 if it is none, 111 if it is too big. -/
noncomputable def textF (l : List UInt8) : Except Int (Bool × List UInt8 × Int) :=
  match wholeF l (if bAt l 0 45 45 = true then 1 else 0) with
  | none => .error 110
  | some (w, b, i) =>
    match expF l i with
    | none => .error 110
    | some (en, x, j) =>
      if j ≠ l.length then .error 110
      else match madeF (bAt l 0 45 45) (dval (w ++ b)) ((if en then -((x.foldl tenV 0 : Nat) : Int) else ((x.foldl tenV 0 : Nat) : Int)) - (b.length : Nat)) with
        | none => .error 111
        | some d => .ok d
end Go.Proofs.YtabmalnandbocaaGreatDoor.Num
namespace Go.Proofs.YtabmalnandbocaaGreatDoor.Num
set_option exponentiation.threshold 3000
set_option linter.unusedVariables false
set_option linter.unusedSimpArgs false
set_option exponentiation.threshold 3000
open Go.Proofs.YtabmalnandbocaaGreatDoor.Mem Go.Proofs.YtabmalnandbocaaGreatDoor.Own Go.Proofs.YtabmalnandbocaaGreatDoor.Big
/-- The text of a whole number. -/
noncomputable def itoaF (v : Int) : List UInt8 := if v < 0 then 45 :: decL (-v).toNat else decL v.toNat
/-- What is written behind the sign. -/
noncomputable def bodyF (l : List UInt8) (e : Int) : List UInt8 :=
  if l.length = 0 then [48]
  else if (l.length : Int) ≤ e + l.length ∧ e + l.length ≤ 21 then l ++ List.replicate e.toNat 48
  else if 1 ≤ e + l.length ∧ e + l.length ≤ 21 then l.take (e + l.length).toNat ++ 46 :: l.drop (e + l.length).toNat
  else if -5 ≤ e + l.length ∧ e + l.length ≤ 0 then 48 :: 46 :: (List.replicate (-(e + l.length)).toNat 48 ++ l)
  else l.take 1 ++ ((if 1 < l.length then 46 :: l.drop 1 else []) ++ 101 :: itoaF (e + l.length - 1))
noncomputable def writeF (neg : Bool) (l : List UInt8) (e : Int) : List UInt8 := (if neg then [45] else []) ++ bodyF l e
def stopD (r : List UInt8) : Prop := ∀ c, r.head? = some c → isD c = false
theorem isD_of {c : UInt8} (h : 48 ≤ c.toNat ∧ c.toNat ≤ 57) : isD c = true := by unfold isD; simp [h]
theorem tw_app {ds r : List UInt8} (hd : isDigs ds) (hr : stopD r) : (ds ++ r).takeWhile isD = ds := by
  induction ds with
  | nil =>
    cases r with
    | nil => rfl
    | cons c r => rw [List.nil_append, List.takeWhile_cons, if_neg (by rw [hr c rfl]; decide)]
  | cons c ds ih =>
    rw [List.cons_append, List.takeWhile_cons, if_pos (isD_of (hd c (by simp))), ih (fun d hd' => hd d (by simp [hd']))]
theorem dEnd_app (p : List UInt8) {ds r : List UInt8} (hd : isDigs ds) (hr : stopD r) : dEnd (p ++ (ds ++ r)) p.length = p.length + ds.length := by
  unfold dEnd
  rw [List.drop_left, tw_app hd hr]
theorem span_app (p ds r : List UInt8) : span (p ++ (ds ++ r)) p.length (p.length + ds.length) = ds := by
  unfold span
  rw [List.drop_left, Nat.add_sub_cancel_left, List.take_left]
theorem bAt_app (p r : List UInt8) (x y : UInt8) : bAt (p ++ r) p.length x y = match r with | c :: _ => c == x || c == y | [] => false := by
  unfold bAt
  cases r with
  | nil => simp
  | cons c r => simp
theorem dAt_app (p : List UInt8) (c : UInt8) (r : List UInt8) : dAt (p ++ c :: r) p.length = isD c := by
  unfold dAt; simp
/-- The digits ahead of the point end where they are seen to end. -/
theorem whole_end (p : List UInt8) {c : UInt8} {t r : List UInt8} (hd : isDigs (c :: t)) (hc : c ≠ 48 ∨ t = []) (hr : stopD r) :
    (if bAt (p ++ ((c :: t) ++ r)) p.length 48 48 = true then p.length + 1 else dEnd (p ++ ((c :: t) ++ r)) p.length) = p.length + (c :: t).length := by
  rw [dEnd_app p hd hr, bAt_app]
  rcases hc with hc | rfl
  · rw [if_neg]
    simp [hc]
  · simp
theorem whole_1 (p : List UInt8) {c : UInt8} {t r : List UInt8} (hd : isDigs (c :: t)) (hc : c ≠ 48 ∨ t = []) (hr : stopD r) (hp : r.head? ≠ some 46) :
    wholeF (p ++ ((c :: t) ++ r)) p.length = some (c :: t, [], p.length + (c :: t).length) := by
  unfold wholeF
  rw [whole_end p hd hc hr, span_app]
  rw [if_neg (by rw [List.cons_append, dAt_app, isD_of (hd c (by simp))]; decide)]
  rw [if_neg]
  have := bAt_app (p ++ (c :: t)) r 46 46
  rw [List.append_assoc, List.length_append] at this
  rw [this]
  cases r with
  | nil => simp
  | cons d r => simp at hp ⊢; exact hp
theorem whole_2 (p : List UInt8) {c : UInt8} {t bs r : List UInt8} (hd : isDigs (c :: t)) (hc : c ≠ 48 ∨ t = []) (hb : isDigs bs) (hb0 : bs ≠ []) (hr : stopD r) :
    wholeF (p ++ ((c :: t) ++ 46 :: (bs ++ r))) p.length = some (c :: t, bs, p.length + (c :: t).length + 1 + bs.length) := by
  have hr1 : stopD (46 :: (bs ++ r)) := by intro d hd'; simp at hd'; subst hd'; decide
  have e1 : p ++ ((c :: t) ++ 46 :: (bs ++ r)) = (p ++ ((c :: t) ++ [46])) ++ (bs ++ r) := by simp
  have e2 : (p ++ ((c :: t) ++ [(46 : UInt8)])).length = p.length + (c :: t).length + 1 := by simp; omega
  have hend : dEnd (p ++ ((c :: t) ++ 46 :: (bs ++ r))) (p.length + (c :: t).length + 1) = p.length + (c :: t).length + 1 + bs.length := by
    rw [e1, ← e2]; exact dEnd_app _ hb hr
  have hsp : span (p ++ ((c :: t) ++ 46 :: (bs ++ r))) (p.length + (c :: t).length + 1) (p.length + (c :: t).length + 1 + bs.length) = bs := by
    rw [e1, ← e2]; exact span_app _ _ _
  unfold wholeF
  rw [whole_end p hd hc hr1, span_app, hend, hsp]
  rw [if_neg (by rw [List.cons_append, dAt_app, isD_of (hd c (by simp))]; decide)]
  have := bAt_app (p ++ (c :: t)) (46 :: (bs ++ r)) 46 46
  rw [List.append_assoc, List.length_append] at this
  rw [if_pos (by rw [this]; simp), if_neg]
  have : 0 < bs.length := List.length_pos_iff.2 hb0
  omega
theorem exp_none (l : List UInt8) : expF l l.length = some (false, [], l.length) := by
  have := bAt_app l [] 101 69
  rw [List.append_nil] at this
  unfold expF
  rw [if_neg (by rw [this]; decide)]
theorem exp_some (p : List UInt8) (sg : Bool) {ds : List UInt8} (hd : isDigs ds) (h0 : ds ≠ []) :
    expF (p ++ 101 :: ((if sg then [45] else []) ++ ds)) p.length = some (sg, ds, (p ++ 101 :: ((if sg then [45] else []) ++ ds)).length) := by
  have hl : 0 < ds.length := List.length_pos_iff.2 h0
  unfold expF
  rw [if_pos (by rw [bAt_app]; rfl)]
  cases sg with
  | true =>
    simp only [if_true]
    have e1 : p ++ 101 :: ([45] ++ ds) = (p ++ [101]) ++ (45 :: ds) := by simp
    have e2 : p ++ 101 :: ([45] ++ ds) = (p ++ [101, 45]) ++ (ds ++ []) := by simp
    have b1 : ∀ x y, bAt (p ++ 101 :: ([45] ++ ds)) (p.length + 1) x y = ((45 : UInt8) == x || (45 : UInt8) == y) := by
      intro x y
      have := bAt_app (p ++ [101]) (45 :: ds) x y
      rw [← e1] at this
      simpa using this
    have h1 : dEnd (p ++ 101 :: ([45] ++ ds)) (p.length + 2) = p.length + 2 + ds.length := by
      have := dEnd_app (p ++ [101, 45]) hd (r := []) (by intro c hc; simp at hc)
      rw [← e2] at this
      simpa using this
    have h2 : span (p ++ 101 :: ([45] ++ ds)) (p.length + 2) (p.length + 2 + ds.length) = ds := by
      have := span_app (p ++ [101, 45]) ds []
      rw [← e2] at this
      simpa using this
    have t43 : ((45 : UInt8) == 43 || (45 : UInt8) == 45) = true := by decide
    have t45 : ((45 : UInt8) == 45 || (45 : UInt8) == 45) = true := by decide
    rw [b1, b1, t43, t45]
    simp only [if_true]
    rw [h1, h2, if_neg (by omega)]
    simp
    omega
  | false =>
    simp only [Bool.false_eq_true, if_false]
    obtain ⟨c, t, rfl⟩ : ∃ c t, ds = c :: t := by cases ds with | nil => exact absurd rfl h0 | cons c t => exact ⟨c, t, rfl⟩
    have hc := hd c (by simp)
    have e1 : p ++ 101 :: ([] ++ c :: t) = (p ++ [101]) ++ ((c :: t) ++ []) := by simp
    have b1 : ∀ x y, bAt (p ++ 101 :: ([] ++ c :: t)) (p.length + 1) x y = (c == x || c == y) := by
      intro x y
      have := bAt_app (p ++ [101]) ((c :: t) ++ []) x y
      rw [← e1] at this
      simpa using this
    have h1 : dEnd (p ++ 101 :: ([] ++ c :: t)) (p.length + 1) = p.length + 1 + (c :: t).length := by
      have := dEnd_app (p ++ [101]) hd (r := []) (by intro c hc; simp at hc)
      rw [← e1] at this
      simpa using this
    have h2 : span (p ++ 101 :: ([] ++ c :: t)) (p.length + 1) (p.length + 1 + (c :: t).length) = c :: t := by
      have := span_app (p ++ [101]) (c :: t) []
      rw [← e1] at this
      simpa using this
    have n43 : (c == 43) = false := by rw [beq_eq_false_iff_ne]; rintro rfl; exact absurd hc.1 (by decide)
    have n45 : (c == 45) = false := by rw [beq_eq_false_iff_ne]; rintro rfl; exact absurd hc.1 (by decide)
    rw [b1, b1, n43, n45]
    simp only [Bool.or_false, Bool.false_eq_true, if_false]
    rw [h1, h2, if_neg (by omega)]
    simp
    omega
theorem canon_tl {l : List UInt8} (h : Canon l) (h0 : l ≠ []) : dval l ≠ 0 ∧ tl (dval l) = l ∧ tz (dval l) = 0 := by
  have hp := dval_pos h.ok h0
  have ht : Told (dval l) l 0 := ⟨h.digs, h.head, h.last, by simp⟩
  obtain ⟨a, b⟩ := ht.one (told_tl _) hp
  exact ⟨hp, a.symm, b.symm⟩
/-- Digits with noughts behind them, at the exponent less those. -/
theorem made_is {neg : Bool} {l : List UInt8} {e X : Int} (h : Form l e) (h0 : l ≠ []) (z : Nat) (hX : X = e - (z : Nat)) : madeF neg (dval l * 10 ^ z) X = some (neg, l, e) := by
  obtain ⟨hc, b1, b2⟩ := h.canon
  obtain ⟨hp, a, b⟩ := canon_tl hc h0
  obtain ⟨s1, s2⟩ := tl_shift z X hp
  have hpp : dval l * 10 ^ z ≠ 0 := Nat.ne_of_gt (Nat.mul_pos (by omega) (ten_pos z))
  have he : te (dval l) (X + z) = e := by unfold te; rw [if_neg hp, b]; omega
  unfold madeF
  rw [if_neg hpp, s1, s2, he, a, if_neg (by omega)]
theorem dval_lead (z : Nat) (l : List UInt8) : dval (List.replicate z 48 ++ l) = dval l := by
  have := dval_zeros [] z
  rw [List.nil_append, show dval [] = 0 from rfl, Nat.zero_mul] at this
  rw [dval_app, this, Nat.zero_mul, Nat.zero_add]
theorem itoa_is (v : Int) : itoaF v = (if v < 0 then [45] else []) ++ decL v.natAbs := by
  unfold itoaF
  by_cases h : v < 0
  · rw [if_pos h, if_pos h, show (-v).toNat = v.natAbs by omega]; rfl
  · rw [if_neg h, if_neg h, show v.toNat = v.natAbs by omega]; rfl
theorem decL_ne (x : Nat) : decL x ≠ [] := by
  intro h
  have h1 := decL_dval x
  rw [h] at h1
  have : x = 0 := by rw [← h1]; rfl
  subst this
  revert h
  decide
end Go.Proofs.YtabmalnandbocaaGreatDoor.Num
namespace Go.Proofs.YtabmalnandbocaaGreatDoor.Num
set_option exponentiation.threshold 3000
set_option linter.unusedVariables false
set_option linter.unusedSimpArgs false
set_option exponentiation.threshold 3000
open Go.RowKit Go.Proofs.YtabmalnandbocaaGreatDoor.Mem Go.Proofs.YtabmalnandbocaaGreatDoor.Own Go.Proofs.YtabmalnandbocaaGreatDoor.Big Go.Proofs.YtabmalnandbocaaGreatDoor.Str
theorem str_app (a b : List UInt8) : (⟨a.toArray⟩ : ByteArray) ++ ⟨b.toArray⟩ = ⟨(a ++ b).toArray⟩ := by
  apply ByteArray.ext
  simp
def ZrPost (w : World) (q : Nat) (en : Ending) (w' : World) : Prop := en = .returned (.string ⟨(List.replicate q 48).toArray⟩) ∧ w = w'
theorem zeros_step {S : ByteArray} {k : Nat} (h : S = ⟨(List.replicate k 48).toArray⟩) : S ++ ⟨#[48]⟩ = ⟨(List.replicate (k + 1) 48).toArray⟩ := by
  rw [h, List.replicate_succ', ← str_app]
theorem zeros_size {S : ByteArray} {k : Nat} (h : S = ⟨(List.replicate k 48).toArray⟩) : S.size = k := by rw [h]; simp [ByteArray.size]
set_option maxHeartbeats 1000000 in
theorem zeros_w (q : Nat) (w : World) (hq : q ≤ 3000) : Calls Tryz.prog 22 #[.int .i64 (q : Nat)] w (ZrPost w q) := by
  go_enter Tryz.func22, Tryz.ntmps22
  go_wp2_with fail
  go_loop [3, 4] (fun sv i => ∃ (k : Nat) (S : ByteArray), k ≤ q ∧ i = .int .i64 (k : Nat) ∧ sv = .string S ∧ Hid (S = ⟨(List.replicate k 48).toArray⟩)) (fun _ i => q - (intOf i).toNat)
  case atStart => exact ⟨0, ⟨#[]⟩, Nat.zero_le _, rfl, rfl, Lib.hid rfl⟩
  case round =>
    obtain ⟨k, S, hk, rfl, rfl, HS⟩ := hrel
    have hz := zeros_size HS.out
    have hb : S.size + 1 ≤ 9223372036854775807 := by omega
    have HN := Lib.hid (zeros_step HS.out)
    clear hz
    by_cases hlt : k < q
    · go_wp2_with fail
      go_round
      case rel => exact ⟨k + 1, _, by omega, by go_num, rfl, HN⟩
      case measure => simp [intOf]; omega
    · obtain rfl : k = q := by omega
      go_wp2_with fail
      go_ret
      exact ⟨by rw [HS.out]; rfl, rfl⟩
theorem decD_is : ∀ u : Nat, Lib.decDigits u = decL u := by
  intro u
  induction u using Nat.strongRecOn with
  | ind u ih =>
    unfold Lib.decDigits
    by_cases h : u < 10
    · rw [dif_pos h]
      by_cases h0 : u = 0
      · subst h0; rfl
      · unfold decL
        rw [if_neg h0, decN_pos h0, show u / 10 = 0 by omega, show decN 0 = [] by unfold decN; rw [digs_zero]; rfl, show u % 10 = u by omega]
        rfl
    · rw [dif_neg h, ih (u / 10) (by omega)]
      unfold decL
      rw [if_neg (by omega), if_neg (by omega), decN_pos (show u ≠ 0 by omega), List.reverse_cons, List.map_append]
      rfl
theorem itoa_eq (z : Int) : Lib.itoa z = itoaF z := by
  unfold Lib.itoa itoaF
  rw [decD_is, decD_is]
  by_cases h : z < 0
  · rw [if_pos h, if_pos h, show z.natAbs = (-z).toNat by omega]
  · rw [if_neg h, if_neg h]
theorem decL_le {x : Nat} (h : x < 100000) : (decL x).length ≤ 6 := by
  by_cases h0 : x = 0
  · subst h0; decide
  · unfold decL
    rw [if_neg h0]
    simp [decN]
    have := digs_len_le (b := 10) (n := x) (k := 5) (by decide) (by simpa using h)
    omega
end Go.Proofs.YtabmalnandbocaaGreatDoor.Num
namespace Go.Proofs.YtabmalnandbocaaGreatDoor.Num
set_option exponentiation.threshold 3000
set_option linter.unusedVariables false
set_option linter.unusedSimpArgs false
set_option exponentiation.threshold 3000
open Go.Proofs.YtabmalnandbocaaGreatDoor.Mem Go.Proofs.YtabmalnandbocaaGreatDoor.Own Go.Proofs.YtabmalnandbocaaGreatDoor.Big
open Ieee (double single)
theorem nano_told : Told (xN (Rung.mant 52 4473615459449605178) (-1074 + (Rung.expo 52 4473615459449605178 : Nat))) [49, 50, 53, 48, 48, 48, 48, 48, 48, 48, 48, 48, 48, 48, 48, 48, 48, 50, 54, 49, 53, 51, 50, 48, 49, 48, 51, 55, 54, 54, 48, 53, 57, 48, 56, 52, 52, 49, 53, 56, 50, 57, 50, 54, 49, 49, 54, 48, 57, 55, 57, 53, 49, 51, 48, 55, 56, 57, 50, 55, 57, 57, 51, 55, 55, 52, 52, 49, 52, 48, 54, 50, 53] 1 :=
  ⟨by unfold isDigs; decide, fun c hc => by cases hc; decide, fun c hc => by cases hc; decide, by decide +kernel⟩
theorem nano_d : dL 4473615459449605178 = [49, 50, 53] ∧ dE 4473615459449605178 = -11 := by
  obtain ⟨h1, h2⟩ := ex_at nano_told (by decide)
  have h3 : exE 4473615459449605178 = -81 := by rw [h2]; decide +kernel
  have hr1 : nrF [49, 50, 53, 48, 48, 48, 48, 48, 48, 48, 48, 48, 48, 48, 48, 48, 48, 50, 54, 49, 53, 51, 50, 48, 49, 48, 51, 55, 54, 54, 48, 53, 57, 48, 56, 52, 52, 49, 53, 56, 50, 57, 50, 54, 49, 49, 54, 48, 57, 55, 57, 53, 49, 51, 48, 55, 56, 57, 50, 55, 57, 57, 51, 55, 55, 52, 52, 49, 52, 48, 54, 50, 53] 1 = false := by decide +kernel
  have hr2 : nrF [49, 50, 53, 48, 48, 48, 48, 48, 48, 48, 48, 48, 48, 48, 48, 48, 48, 50, 54, 49, 53, 51, 50, 48, 49, 48, 51, 55, 54, 54, 48, 53, 57, 48, 56, 52, 52, 49, 53, 56, 50, 57, 50, 54, 49, 49, 54, 48, 57, 55, 57, 53, 49, 51, 48, 55, 56, 57, 50, 55, 57, 57, 51, 55, 55, 52, 52, 49, 52, 48, 54, 50, 53] 2 = true := by decide +kernel
  have hr3 : nrF [49, 50, 53, 48, 48, 48, 48, 48, 48, 48, 48, 48, 48, 48, 48, 48, 48, 50, 54, 49, 53, 51, 50, 48, 49, 48, 51, 55, 54, 54, 48, 53, 57, 48, 56, 52, 52, 49, 53, 56, 50, 57, 50, 54, 49, 49, 54, 48, 57, 55, 57, 53, 49, 51, 48, 55, 56, 57, 50, 55, 57, 57, 51, 55, 55, 52, 52, 49, 52, 48, 54, 50, 53] 3 = false := by decide +kernel
  have hc1f := cand_at (l := [49, 50, 53, 48, 48, 48, 48, 48, 48, 48, 48, 48, 48, 48, 48, 48, 48, 50, 54, 49, 53, 51, 50, 48, 49, 48, 51, 55, 54, 54, 48, 53, 57, 48, 56, 52, 52, 49, 53, 56, 50, 57, 50, 54, 49, 49, 54, 48, 57, 55, 57, 53, 49, 51, 48, 55, 56, 57, 50, 55, 57, 57, 51, 55, 55, 52, 52, 49, 52, 48, 54, 50, 53]) (e := -81) (n := 1) (u := false) (L := [49]) (z := 0) ⟨by unfold isDigs; decide, fun c hc => by cases hc; decide, fun c hc => by cases hc; decide, by decide +kernel⟩ (by decide)
  have hk1f : okF 4473615459449605178 1 false = false := by
    unfold okF
    rw [h1, h3, hc1f.1, hc1f.2]
    decide +kernel
  have hc1t := cand_at (l := [49, 50, 53, 48, 48, 48, 48, 48, 48, 48, 48, 48, 48, 48, 48, 48, 48, 50, 54, 49, 53, 51, 50, 48, 49, 48, 51, 55, 54, 54, 48, 53, 57, 48, 56, 52, 52, 49, 53, 56, 50, 57, 50, 54, 49, 49, 54, 48, 57, 55, 57, 53, 49, 51, 48, 55, 56, 57, 50, 55, 57, 57, 51, 55, 55, 52, 52, 49, 52, 48, 54, 50, 53]) (e := -81) (n := 1) (u := true) (L := [50]) (z := 0) ⟨by unfold isDigs; decide, fun c hc => by cases hc; decide, fun c hc => by cases hc; decide, by decide +kernel⟩ (by decide)
  have hk1t : okF 4473615459449605178 1 true = false := by
    unfold okF
    rw [h1, h3, hc1t.1, hc1t.2]
    decide +kernel
  have hc2t := cand_at (l := [49, 50, 53, 48, 48, 48, 48, 48, 48, 48, 48, 48, 48, 48, 48, 48, 48, 50, 54, 49, 53, 51, 50, 48, 49, 48, 51, 55, 54, 54, 48, 53, 57, 48, 56, 52, 52, 49, 53, 56, 50, 57, 50, 54, 49, 49, 54, 48, 57, 55, 57, 53, 49, 51, 48, 55, 56, 57, 50, 55, 57, 57, 51, 55, 55, 52, 52, 49, 52, 48, 54, 50, 53]) (e := -81) (n := 2) (u := true) (L := [49, 51]) (z := 0) ⟨by unfold isDigs; decide, fun c hc => by cases hc; decide, fun c hc => by cases hc; decide, by decide +kernel⟩ (by decide)
  have hk2t : okF 4473615459449605178 2 true = false := by
    unfold okF
    rw [h1, h3, hc2t.1, hc2t.2]
    decide +kernel
  have hc2f := cand_at (l := [49, 50, 53, 48, 48, 48, 48, 48, 48, 48, 48, 48, 48, 48, 48, 48, 48, 50, 54, 49, 53, 51, 50, 48, 49, 48, 51, 55, 54, 54, 48, 53, 57, 48, 56, 52, 52, 49, 53, 56, 50, 57, 50, 54, 49, 49, 54, 48, 57, 55, 57, 53, 49, 51, 48, 55, 56, 57, 50, 55, 57, 57, 51, 55, 55, 52, 52, 49, 52, 48, 54, 50, 53]) (e := -81) (n := 2) (u := false) (L := [49, 50]) (z := 0) ⟨by unfold isDigs; decide, fun c hc => by cases hc; decide, fun c hc => by cases hc; decide, by decide +kernel⟩ (by decide)
  have hk2f : okF 4473615459449605178 2 false = false := by
    unfold okF
    rw [h1, h3, hc2f.1, hc2f.2]
    decide +kernel
  have hc3f := cand_at (l := [49, 50, 53, 48, 48, 48, 48, 48, 48, 48, 48, 48, 48, 48, 48, 48, 48, 50, 54, 49, 53, 51, 50, 48, 49, 48, 51, 55, 54, 54, 48, 53, 57, 48, 56, 52, 52, 49, 53, 56, 50, 57, 50, 54, 49, 49, 54, 48, 57, 55, 57, 53, 49, 51, 48, 55, 56, 57, 50, 55, 57, 57, 51, 55, 55, 52, 52, 49, 52, 48, 54, 50, 53]) (e := -81) (n := 3) (u := false) (L := [49, 50, 53]) (z := 0) ⟨by unfold isDigs; decide, fun c hc => by cases hc; decide, fun c hc => by cases hc; decide, by decide +kernel⟩ (by decide)
  have hk3f : okF 4473615459449605178 3 false = true := by
    unfold okF
    rw [h1, h3, hc3f.1, hc3f.2]
    decide +kernel
  have hd : digF 4473615459449605178 = some (3, false) := by
    unfold digF
    rw [h1, show ([49, 50, 53, 48, 48, 48, 48, 48, 48, 48, 48, 48, 48, 48, 48, 48, 48, 50, 54, 49, 53, 51, 50, 48, 49, 48, 51, 55, 54, 54, 48, 53, 57, 48, 56, 52, 52, 49, 53, 56, 50, 57, 50, 54, 49, 49, 54, 48, 57, 55, 57, 53, 49, 51, 48, 55, 56, 57, 50, 55, 57, 57, 51, 55, 55, 52, 52, 49, 52, 48, 54, 50, 53] : List UInt8).length - 1 = 69 + 3 from rfl]
    rw [pickF, hr1]
    first | rw [if_neg (by rw [hk1f]; decide)] | (simp only [Bool.not_true, Bool.not_false]; rw [if_neg (by rw [hk1f]; decide)])
    first | rw [if_neg (by rw [hk1t]; decide)] | (simp only [Bool.not_true, Bool.not_false]; rw [if_neg (by rw [hk1t]; decide)])
    rw [pickF, hr2]
    first | rw [if_neg (by rw [hk2t]; decide)] | (simp only [Bool.not_true, Bool.not_false]; rw [if_neg (by rw [hk2t]; decide)])
    first | rw [if_neg (by rw [hk2f]; decide)] | (simp only [Bool.not_true, Bool.not_false]; rw [if_neg (by rw [hk2f]; decide)])
    rw [pickF, hr3]
    first | rw [if_pos hk3f] | (simp only [Bool.not_true, Bool.not_false]; rw [if_pos hk3f])
  rw [(dL_len hd).1, (dL_len hd).2, h1, h3, hc3f.1, hc3f.2]
  exact ⟨rfl, rfl⟩
theorem half_told : Told (xN (Rung.mant 52 4602678819172646912) (-1074 + (Rung.expo 52 4602678819172646912 : Nat))) [53] 52 :=
  ⟨by unfold isDigs; decide, fun c hc => by cases hc; decide, fun c hc => by cases hc; decide, by decide +kernel⟩
theorem half_d : dL 4602678819172646912 = [53] ∧ dE 4602678819172646912 = -1 := by
  obtain ⟨h1, h2⟩ := ex_at half_told (by decide)
  have h3 : exE 4602678819172646912 = -1 := by rw [h2]; decide +kernel
  have hd : digF 4602678819172646912 = none := by
    unfold digF
    rw [h1]; rfl
  rw [(dL_none hd).1, (dL_none hd).2, h1, h3]
  exact ⟨rfl, rfl⟩
theorem itoa_9 : itoaF (-9) = [45, 57] := by
  unfold itoaF
  rw [if_pos (by decide)]
  show 45 :: decL 9 = _
  unfold decL
  rw [if_neg (by decide), decN_pos (by decide), show 9 / 10 = 0 from rfl, show decN 0 = [] by unfold decN; rw [digs_zero]; rfl]
  rfl
theorem nano_w : writeF true (dL 4473615459449605178) (dE 4473615459449605178) = [45, 49, 46, 50, 53, 101, 45, 57] := by
  rw [nano_d.1, nano_d.2]
  show [45] ++ bodyF [49, 50, 53] (-11) = _
  unfold bodyF
  rw [if_neg (by decide), if_neg (by decide), if_neg (by decide), if_neg (by decide), if_pos (by decide), show (-11 + (([49, 50, 53] : List UInt8).length : Int) - 1) = -9 from rfl, itoa_9]
  rfl
theorem half_wr : writeF false (dL 4602678819172646912) (dE 4602678819172646912) = [48, 46, 53] := by
  rw [half_d.1, half_d.2]
  show [] ++ bodyF [53] (-1) = _
  unfold bodyF
  rw [if_neg (by decide), if_neg (by decide), if_neg (by decide), if_pos (by decide)]
  rfl
end Go.Proofs.YtabmalnandbocaaGreatDoor.Num
