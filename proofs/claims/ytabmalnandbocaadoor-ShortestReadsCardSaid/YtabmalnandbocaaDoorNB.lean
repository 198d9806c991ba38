/- Chapters 13 and 14 (floats, shortest): contracts of the reference's scan, Read and Of; ShortestReads. No conditions beside those that each contract names. -/
import Derived.Test.YtabmalnandbocaaDoorMB
import Derived.Test.YtabmalnandbocaaDoorMU
import Derived.Test.YtabmalnandbocaaDoorMT
import Derived.Test.YtabmalnandbocaaDoorNA
import Derived.Deep.DeepCutAuto
import Derived.Test.YtabmalnandbocaaDoorMH
namespace Go.Proofs.YtabmalnandbocaaDoor.Dg
set_option exponentiation.threshold 3000
set_option linter.unusedVariables false
set_option linter.unusedSimpArgs false
set_option exponentiation.threshold 3000
open Go.RowKit Go.Proofs.YtabmalnandbocaaDoor.Mem Go.Proofs.YtabmalnandbocaaDoor.Own Go.Proofs.YtabmalnandbocaaDoor.Big
/-- A byte more of the exponent's text, as the reference takes it. -/
def stR (p : Bool × Nat) (c : UInt8) : Bool × Nat := (p.1 || decide (c.toNat = 45), if (48 ≤ c.toNat ∧ c.toNat ≤ 57) ∧ p.2 ≤ 1000000000000000 then p.2 * 10 + (c.toNat - 48) else p.2)
def numR (l : List UInt8) : Bool × Nat := l.foldl stR (false, 0)
theorem numR_step (s : ByteArray) (j : Nat) (hj : j < s.size) : numR (s.data.toList.take (j + 1)) = stR (numR (s.data.toList.take j)) s[j] := by
  unfold numR
  rw [List.take_succ_eq_append_getElem (by simpa using hj), List.foldl_append]
  rfl
def numRV (l : List UInt8) : Int := if (numR l).1 = true then -((min (numR l).2 1000000000000001 : Nat) : Int) else ((min (numR l).2 1000000000000001 : Nat) : Int)
def NumRPost (w : World) (l : List UInt8) (e : Ending) (w' : World) : Prop := e = .returned (.int .i64 (numRV l)) ∧ w = w'
set_option maxHeartbeats 4000000 in
theorem number_w (s : ByteArray) (w : World) (hsm : s.size < 140737488355328) :
    Calls Tryd.prog 68 #[.string s, .int .i64 1000000000000000] w (NumRPost w s.data.toList) := by
  have HL := Lib.hid (show s.data.toList.take s.size = s.data.toList from List.take_of_length_le (by simp))
  go_enter Tryd.func68, Tryd.ntmps68
  go_wp2_with fail
  go_loop [5, 6, 7] (fun a b i => ∃ (neg : Bool) (n j : Nat), j ≤ s.size ∧ n < 10000000000000010 ∧ a = .bool neg ∧ b = .int .i64 (n : Nat) ∧ i = .int .i64 (j : Nat) ∧ Hid (numR (s.data.toList.take j) = (neg, n))) (fun _ _ i => s.size - (intOf i).toNat)
  case atStart => exact ⟨false, 0, 0, Nat.zero_le _, by decide, rfl, rfl, rfl, Lib.hid rfl⟩
  case round =>
    obtain ⟨neg, n, j, hj, hn, rfl, rfl, rfl, hd⟩ := hrel
    by_cases hjs : j < s.size
    · have hst := numR_step s j hjs
      rw [hd.out] at hst
      have hc := s[j].toNat_lt
      clear hd
      unfold stR at hst
      by_cases h45 : s[j].toNat = 45
      · rw [if_neg (by omega), decide_eq_true h45, Bool.or_true] at hst
        have HS := Lib.hid hst
        have t1 : ((s[j].toNat : Int) == 45) = true := by rw [beq_iff_eq]; omega
        have t3 : (s[j].toNat : Int) < 48 := by omega
        clear hst h45
        go_wp2_with fail
        go_round
        case rel => exact ⟨true, n, j + 1, by omega, by omega, rfl, by go_num, by go_num, HS⟩
        case measure => simp [intOf]; omega
      · have t1 : ((s[j].toNat : Int) == 45) = false := by rw [beq_eq_false_iff_ne]; omega
        rw [decide_eq_false h45, Bool.or_false] at hst
        clear h45
        by_cases hdg : 48 ≤ s[j].toNat ∧ s[j].toNat ≤ 57
        · obtain ⟨d0, d1⟩ := hdg
          have t2 : (48 : Int) ≤ (s[j].toNat : Int) := by omega
          have t3 : (s[j].toNat : Int) ≤ 57 := by omega
          by_cases hb : n ≤ 1000000000000000
          · rw [if_pos ⟨⟨d0, d1⟩, hb⟩] at hst
            have HS := Lib.hid hst
            have t4 : (n : Int) ≤ 1000000000000000 := by omega
            clear hst
            go_wp2_with fail
            go_round
            case rel => exact ⟨neg, n * 10 + (s[j].toNat - 48), j + 1, by omega, by omega, rfl, by go_num, by go_num, HS⟩
            case measure => simp [intOf]; omega
          · rw [if_neg (fun h => hb h.2)] at hst
            have HS := Lib.hid hst
            have t4 : (1000000000000000 : Int) < (n : Int) := by omega
            clear hst hb
            go_wp2_with fail
            go_round
            case rel => exact ⟨neg, n, j + 1, by omega, by omega, rfl, by go_num, by go_num, HS⟩
            case measure => simp [intOf]; omega
        · rw [if_neg (fun h => hdg h.1)] at hst
          have HS := Lib.hid hst
          by_cases hlo : s[j].toNat < 48
          · have t2 : (s[j].toNat : Int) < 48 := by omega
            clear hst hdg
            go_wp2_with fail
            go_round
            case rel => exact ⟨neg, n, j + 1, by omega, by omega, rfl, by go_num, by go_num, HS⟩
            case measure => simp [intOf]; omega
          · have t2 : (48 : Int) ≤ (s[j].toNat : Int) := by omega
            have t3 : (57 : Int) < (s[j].toNat : Int) := by omega
            clear hst hdg
            go_wp2_with fail
            go_round
            case rel => exact ⟨neg, n, j + 1, by omega, by omega, rfl, by go_num, by go_num, HS⟩
            case measure => simp [intOf]; omega
    · obtain rfl : j = s.size := by omega
      have HR := Lib.hid (show numR s.data.toList = (neg, n) from by rw [← HL.out]; exact hd.out)
      clear hd
      by_cases hb : n ≤ 1000000000000000
      · have t4 : (n : Int) ≤ 1000000000000000 := by omega
        have HB := Lib.hid hb
        clear hb
        cases neg
        all_goals
          go_wp2_with fail
          go_ret
          refine ⟨?_, rfl⟩
          unfold numRV
          rw [HR.out, Nat.min_eq_left (by have := HB.out; omega)]
          simp
      · have t4 : (1000000000000000 : Int) < (n : Int) := by omega
        have HB := Lib.hid hb
        clear hb
        cases neg
        all_goals
          go_wp2_with fail
          go_ret
          refine ⟨?_, rfl⟩
          unfold numRV
          rw [HR.out, Nat.min_eq_right (by have := HB.out; omega)]
          simp
end Go.Proofs.YtabmalnandbocaaDoor.Dg
namespace Go.Proofs.YtabmalnandbocaaDoor.Rsc
set_option exponentiation.threshold 3000
set_option linter.unusedVariables false
set_option linter.unusedSimpArgs false
open Go.RowKit Go.Proofs.YtabmalnandbocaaDoor.Mem Go.Proofs.YtabmalnandbocaaDoor.Own Go.Proofs.YtabmalnandbocaaDoor.Num Go.Proofs.YtabmalnandbocaaDoor.Str Go.Proofs.YtabmalnandbocaaDoor.Big Go.Proofs.YtabmalnandbocaaDoor.Dg
theorem is_any (s : ByteArray) (k : Nat) (x y : UInt8) (w : World) (hsm : s.size < 140737488355328) :
    Calls Tryd.prog 91 #[.string s, .int .i64 (k : Nat), .int .u8 (x.toNat : Nat), .int .u8 (y.toNat : Nat)] w (BoolPost w (bAt s.data.toList k x y)) := by
  have hl : s.data.toList.length = s.size := by simp
  by_cases hk : k < s.size
  · have h := is_in s k x.toNat y.toNat w hk hsm
    have e : bAt s.data.toList k x y = (decide (s[k].toNat = x.toNat) || decide (s[k].toNat = y.toNat)) := by
      rw [Rdr.bAt_in (by omega)]
      show (s[k] == x || s[k] == y) = _
      have hq : ∀ z : UInt8, (s[k] == z) = decide (s[k].toNat = z.toNat) := by
        intro z
        rw [Bool.eq_iff_iff, beq_iff_eq, decide_eq_true_iff]
        exact ⟨fun h => by rw [h], fun h => UInt8.toNat_inj.1 h⟩
      rw [hq, hq]
    rw [e]; exact h
  · rw [Rdr.bAt_out (by omega)]
    exact is_out s k x.toNat y.toNat w hk hsm
theorem digit_any (s : ByteArray) (k : Nat) (w : World) : Calls Tryd.prog 69 #[.string s, .int .i64 (k : Nat)] w (BoolPost w (dAt s.data.toList k)) := by
  have hl : s.data.toList.length = s.size := by simp
  by_cases hk : k < s.size
  · have hb : dAt s.data.toList k = isD s[k] := by unfold dAt; rw [List.getElem?_eq_getElem (by omega)]; rfl
    rw [hb]
    by_cases hd : 48 ≤ s[k].toNat ∧ s[k].toNat ≤ 57
    · rw [isD_of hd]; exact Dg.digit_yes s k w hk hd.1 hd.2
    · have hf : isD s[k] = false := by unfold isD; rw [← Bool.decide_and, decide_eq_false_iff_not]; exact hd
      rw [hf]; exact Dg.digit_no s k w hk hd
  · have hb : dAt s.data.toList k = false := by unfold dAt; rw [List.getElem?_eq_none (by omega)]
    rw [hb]; exact digit_out s k w hk
theorem dEnd_of {l : List UInt8} {k j : Nat} (hkj : k ≤ j) (hj : j ≤ l.length) (h1 : ∀ i, k ≤ i → i < j → dAt l i = true) (h2 : dAt l j = false) : dEnd l k = j := by
  obtain ⟨d, rfl⟩ := Nat.exists_eq_add_of_le hkj
  clear hkj
  induction d generalizing k with
  | zero => exact dEnd_no h2
  | succ d ih =>
    rw [(dEnd_yes (h1 k (Nat.le_refl _) (by omega))).2]
    rw [show k + (d + 1) = k + 1 + d by omega] at hj h2 ⊢
    exact ih hj (fun i hi hi2 => h1 i (by omega) (by omega)) h2
def IntPost (w : World) (n : Nat) (e : Ending) (w' : World) : Prop := e = .returned (.int .i64 (n : Nat)) ∧ w = w'
theorem digits_any (s : ByteArray) (k : Nat) (w : World) (hk : k ≤ s.size) (hsm : s.size < 140737488355328) : Calls Tryd.prog 92 #[.string s, .int .i64 (k : Nat)] w (IntPost w (dEnd s.data.toList k)) := by
  have hl : s.data.toList.length = s.size := by simp
  refine (digits_w s k w hk hsm).mono fun en w' hh => ?_
  obtain ⟨j, rfl, rfl, h1, h2, h3, h4⟩ := hh
  have : dEnd s.data.toList k = j := by
    refine dEnd_of h1 (by omega) (fun i hi hi2 => ?_) ?_
    · have hd := h3 i hi hi2 (by omega)
      unfold dAt
      rw [List.getElem?_eq_getElem (by omega)]
      exact isD_of hd
    · by_cases hj : j < s.size
      · have hd := h4 hj
        unfold dAt
        rw [List.getElem?_eq_getElem (by omega)]
        show isD s[j] = false
        unfold isD; rw [← Bool.decide_and, decide_eq_false_iff_not]; exact hd
      · unfold dAt; rw [List.getElem?_eq_none (by omega)]
  rw [this]
  exact ⟨rfl, rfl⟩
/-- The parts in memory. -/
def prt (neg : Bool) (a b c : List UInt8) : Array Value := #[.bool neg, .string ⟨a.toArray⟩, .string ⟨b.toArray⟩, .string ⟨c.toArray⟩]
end Go.Proofs.YtabmalnandbocaaDoor.Rsc
namespace Go.Proofs.YtabmalnandbocaaDoor.Rsc
set_option exponentiation.threshold 3000
set_option linter.unusedVariables false
set_option linter.unusedSimpArgs false
open Go.RowKit Go.Proofs.YtabmalnandbocaaDoor.Mem Go.Proofs.YtabmalnandbocaaDoor.Own Go.Proofs.YtabmalnandbocaaDoor.Num Go.Proofs.YtabmalnandbocaaDoor.Str Go.Proofs.YtabmalnandbocaaDoor.Big Go.Proofs.YtabmalnandbocaaDoor.Dg
def ScNo (w : World) (en : Ending) (w' : World) : Prop := ∃ n a b c, ∃ j : Int, en = .returned (.tuple #[.agg (prt n a b c), .int .i64 j, .bool false]) ∧ Below w.heap.size w w'
def ScYes (w : World) (neg : Bool) (a b c : List UInt8) (j : Nat) (en : Ending) (w' : World) : Prop := en = .returned (.tuple #[.agg (prt neg a b c), .int .i64 (j : Nat), .bool true]) ∧ Below w.heap.size w w'
/-- The exponent's letters. -/
def expS (l : List UInt8) (i j : Nat) : List UInt8 := if bAt l i 101 69 = true then span l (i + 1) j else []
def ScPost (w : World) (l : List UInt8) (neg : Bool) (r : Option (List UInt8 × List UInt8 × Nat)) (en : Ending) (w' : World) : Prop :=
  match r with
  | none => ScNo w en w'
  | some (a, b, i) => match expF l i with
    | none => ScNo w en w'
    | some (_, _, j) => ScYes w neg a b (expS l i j) j en w'
theorem two_new (w : World) (a b : Array Value) : Blk ((w.alloc (.cells a 102)).alloc (.cells b 102)) w.heap.size 102 a ∧ Blk ((w.alloc (.cells a 102)).alloc (.cells b 102)) (w.heap.size + 1) 102 b ∧ Below w.heap.size w ((w.alloc (.cells a 102)).alloc (.cells b 102)) := by
  refine ⟨(Blk.new w 102 a).alloc _, ?_, ((Below.refl _ w).alloc (Nat.le_refl _) _).alloc (by simp) _⟩
  have := Blk.new (w.alloc (.cells a 102)) 102 b
  simpa using this
theorem prt_set {W : World} {h B : Nat} {n : Bool} {a b c : List UInt8} {n0 : Bool} {a0 b0 c0 : List UInt8} (hb : Blk W h 102 (prt n0 a0 b0 c0)) (hB : B ≤ h) :
    Blk ((((W.setCell ⟨h, 0, none⟩ (.bool n)).setCell ⟨h, 1, none⟩ (.string ⟨a.toArray⟩)).setCell ⟨h, 2, none⟩ (.string ⟨b.toArray⟩)).setCell ⟨h, 3, none⟩ (.string ⟨c.toArray⟩)) h 102 (prt n a b c) ∧ Below B W ((((W.setCell ⟨h, 0, none⟩ (.bool n)).setCell ⟨h, 1, none⟩ (.string ⟨a.toArray⟩)).setCell ⟨h, 2, none⟩ (.string ⟨b.toArray⟩)).setCell ⟨h, 3, none⟩ (.string ⟨c.toArray⟩)) :=
  ⟨(((hb.set_ 0 _).set_ 1 _).set_ 2 _).set_ 3 _, ((((Below.refl B W).setCell (p := ⟨h, 0, none⟩) hB _).setCell (p := ⟨h, 1, none⟩) hB _).setCell (p := ⟨h, 2, none⟩) hB _).setCell (p := ⟨h, 3, none⟩) hB _⟩
theorem prt_cells {W : World} {h : Nat} {n : Bool} {a b c : List UInt8} (hb : Blk W h 102 (prt n a b c)) : W.cell? ⟨h, 0, none⟩ = some (.bool n) ∧ W.cell? ⟨h, 1, none⟩ = some (.string ⟨a.toArray⟩) ∧ W.cell? ⟨h, 2, none⟩ = some (.string ⟨b.toArray⟩) ∧ W.cell? ⟨h, 3, none⟩ = some (.string ⟨c.toArray⟩) := ⟨hb.cell 0, hb.cell 1, hb.cell 2, hb.cell 3⟩
theorem whole_no {l : List UInt8} {a : Nat} (h : dAt l a = false) : wholeF l a = none := by unfold wholeF; rw [if_pos h]
theorem whole_bad {l : List UInt8} {a E : Nat} (h : dAt l a = true) (hE : E = if bAt l a 48 48 = true then a + 1 else dEnd l a) (h1 : bAt l E 46 46 = true) (h2 : dEnd l (E + 1) = E + 1) : wholeF l a = none := by
  unfold wholeF; rw [if_neg (by rw [h]; decide), ← hE, if_pos h1, if_pos h2]
theorem whole_dot {l : List UInt8} {a E : Nat} (h : dAt l a = true) (hE : E = if bAt l a 48 48 = true then a + 1 else dEnd l a) (h1 : bAt l E 46 46 = true) (h2 : ¬ dEnd l (E + 1) = E + 1) : wholeF l a = some (span l a E, span l (E + 1) (dEnd l (E + 1)), dEnd l (E + 1)) := by
  unfold wholeF; rw [if_neg (by rw [h]; decide), ← hE, if_pos h1, if_neg h2]
theorem whole_int {l : List UInt8} {a E : Nat} (h : dAt l a = true) (hE : E = if bAt l a 48 48 = true then a + 1 else dEnd l a) (h1 : bAt l E 46 46 = false) : wholeF l a = some (span l a E, [], E) := by
  unfold wholeF; rw [if_neg (by rw [h]; decide), ← hE, if_neg (by rw [h1]; decide)]
theorem exp_bad {l : List UInt8} {i t : Nat} (h : bAt l i 101 69 = true) (ht : t = if bAt l (i + 1) 43 45 = true then i + 2 else i + 1) (h2 : dEnd l t = t) : expF l i = none := by
  unfold expF; rw [if_pos h, ← ht, if_pos h2]
theorem exp_yes {l : List UInt8} {i t : Nat} (h : bAt l i 101 69 = true) (ht : t = if bAt l (i + 1) 43 45 = true then i + 2 else i + 1) (h2 : ¬ dEnd l t = t) : expF l i = some (bAt l (i + 1) 45 45, span l t (dEnd l t), dEnd l t) := by
  unfold expF; rw [if_pos h, ← ht, if_neg h2]
theorem exp_not {l : List UInt8} {i : Nat} (h : bAt l i 101 69 = false) : expF l i = some (false, [], i) := by
  unfold expF; rw [if_neg (by rw [h]; decide)]
theorem sc_no {w w' : World} {l : List UInt8} {neg : Bool} {r : Option (List UInt8 × List UInt8 × Nat)} {en : Ending} (h : r = none) (hp : ScNo w en w') : ScPost w l neg r en w' := by rw [h]; exact hp
theorem sc_bad {w w' : World} {l : List UInt8} {neg : Bool} {r : Option (List UInt8 × List UInt8 × Nat)} {a b : List UInt8} {i : Nat} {en : Ending} (h : r = some (a, b, i)) (he : expF l i = none) (hp : ScNo w en w') : ScPost w l neg r en w' := by rw [h]; unfold ScPost; simp only [he]; exact hp
theorem sc_yes {w w' : World} {l : List UInt8} {neg : Bool} {r : Option (List UInt8 × List UInt8 × Nat)} {a b x : List UInt8} {i j : Nat} {en0 : Bool} {en : Ending} (h : r = some (a, b, i)) (he : expF l i = some (en0, x, j)) (hp : ScYes w neg a b (expS l i j) j en w') : ScPost w l neg r en w' := by rw [h]; unfold ScPost; simp only [he]; exact hp
set_option maxHeartbeats 16000000 in
set_option maxRecDepth 100000 in
theorem scan_any (s : ByteArray) (p q : Nat) (neg : Bool) (w : World) (hp : p ≤ s.size) (hsm : s.size < 140737488355328) (hneg : neg = bAt s.data.toList p 45 45) (hq : q = if neg = true then p + 1 else p) (r : Option (List UInt8 × List UInt8 × Nat)) (hr : r = wholeF s.data.toList q) :
    Calls Tryd.prog 67 #[.string s, .int .i64 (p : Nat)] w (ScPost w s.data.toList neg r) := by
  have HIS := Lib.hid (is_any s p 45 45 · hsm)
  have HN := Lib.hid hneg
  have HQ := Lib.hid hq
  have HR := Lib.hid hr
  have hll : s.data.toList.length = s.size := by simp
  have HLL := Lib.hid hll
  have hqs : q ≤ s.size := by
    rw [hq]
    cases neg
    · rw [if_neg (by decide)]; exact hp
    · rw [if_pos rfl]
      apply Classical.byContradiction
      intro hn
      rw [Rdr.bAt_out (by omega)] at hneg
      cases hneg
  rw [← hneg] at HIS
  clear hneg hq hr hll
  go_enter Tryd.func67, Tryd.ntmps67
  go_wp2_with fail
  refine (HIS.out _).mono ?_
  rintro en w1 ⟨rfl, hw1⟩
  subst hw1
  go_upto_if 13 with fail
  go_cut [1] (fun a wx => a = .int .i64 (q : Nat) ∧ Hid (Blk wx w.heap.size 102 (prt false [] [] [])) ∧ Hid (Blk wx (w.heap.size + 1) 102 (prt neg [] [] [])) ∧ Hid (Below w.heap.size w wx))
  case first =>
    cases neg
    · have hqp := HQ.out
      rw [if_neg (by decide)] at hqp
      obtain ⟨hb1, hb2, hbl⟩ := two_new w (prt false [] [] []) (prt false [] [] [])
      have HB1 := Lib.hid hb1
      have HB2 := Lib.hid hb2
      have HBL := Lib.hid hbl
      clear HIS hb1 hb2 hbl
      go_wp2_with fail
      go_meet
      exact ⟨by rw [hqp], HB1, HB2, HBL⟩
    · have hqp := HQ.out
      rw [if_pos rfl] at hqp
      have HQP := Lib.hid hqp
      obtain ⟨hb1, hb2, hbl⟩ := two_new w (prt false [] [] []) (prt true [] [] [])
      have HB1 := Lib.hid hb1
      have HB2 := Lib.hid hb2
      have HBL := Lib.hid hbl
      clear HIS hqp hb1 hb2 hbl
      go_wp2_with fail
      go_meet
      exact ⟨by rw [HQP.out]; rfl, HB1, HB2, HBL⟩
  case rest =>
    obtain ⟨rfl, HB1, HB2, HBL⟩ := hcut
    have HD := Lib.hid (digit_any s q · )
    cases hd : dAt s.data.toList q
    · have HNO := Lib.hid (HR.out.trans (whole_no hd))
      rw [hd] at HD
      clear hd HIS
      go_wp2_with fail
      refine (HD.out _).mono ?_
      rintro en w1 ⟨rfl, hw1⟩
      subst hw1
      obtain ⟨y0, y1, y2, y3⟩ := prt_cells HB1.out
      obtain ⟨z0, z1, z2, z3⟩ := prt_cells HB2.out
      have fy0 := HB1.out.frozen 0
      have fy1 := HB1.out.frozen 1
      have fy2 := HB1.out.frozen 2
      have fy3 := HB1.out.frozen 3
      have fz1 := HB2.out.frozen 1
      have fz2 := HB2.out.frozen 2
      have fz3 := HB2.out.frozen 3
      have hlt2 := HB2.out.lt
      go_wp2_with fail
      obtain ⟨hk3, hbf⟩ := prt_set (B := w.heap.size) (n := neg) (a := []) (b := []) (c := []) HB1.out (Nat.le_refl _)
      replace hbf := HBL.out.trans hbf
      generalize (((World.setCell _ _ _).setCell _ _).setCell _ _).setCell _ _ = Wf at hk3 hbf ⊢
      obtain ⟨q0, q1, q2, q3⟩ := prt_cells hk3
      exact bodyPost_ret (v := .tuple #[.agg (prt neg [] [] []), .int .i64 (q : Nat), .bool false]) (by simp [results, Tryd.results67, go_sem, q0, q1, q2, q3]; rfl) rfl (sc_no HNO.out ⟨_, _, _, _, _, rfl, hbf⟩)

    · have hq1 : q < s.size := by have := (dEnd_yes hd).1; have := HLL.out; omega
      have hb48 := Rdr.bAt_in (l := s.data.toList) (i := q) (by have := HLL.out; omega) 48 48
      rw [Bool.or_self, show s.data.toList[q]'(by have := HLL.out; omega) = s[q] from rfl] at hb48
      obtain ⟨E, hE⟩ : ∃ E, E = if bAt s.data.toList q 48 48 = true then q + 1 else dEnd s.data.toList q := ⟨_, rfl⟩
      have hEE : q < E ∧ E ≤ s.size := by
        have h1 := dEnd_le (l := s.data.toList) (i := q) (by have := HLL.out; omega)
        have h2 := (dEnd_yes hd).2
        have h3 := dEnd_ge s.data.toList (q + 1)
        have := HLL.out
        rw [hE]; split <;> omega
      have HE := Lib.hid hE
      have HDD := Lib.hid hd
      have HG := Lib.hid (digits_any s q · hqs hsm)
      rw [hd] at HD
      have HIS2 := Lib.hid (is_any s E 46 46 · hsm)
      have hg1 : (q : Int) < (s.size : Int) := by omega
      have hnat := s[q].toNat_lt
      clear hd HIS hE
      go_wp2_with fail
      refine (HD.out _).mono ?_
      rintro en w1 ⟨rfl, hw1⟩
      subst hw1
      go_wp2_with fail
      refine (HG.out _).mono ?_
      rintro en w1 ⟨rfl, hw1⟩
      subst hw1
      go_upto_if 29 with fail
      go_cut [8] (fun a wx => a = .int .i64 (E : Nat) ∧ Hid (Blk wx w.heap.size 102 (prt false [] [] [])) ∧ Hid (Blk wx (w.heap.size + 1) 102 (prt neg [] [] [])) ∧ Hid (Below w.heap.size w wx))
      case first =>
        by_cases h48 : s[q] = 48
        · have t1 : ((s[q].toNat : Int) == 48) = true := by rw [h48]; rfl
          have hEq := HE.out
          rw [hb48, if_pos (by rw [h48]; rfl)] at hEq
          have HEQ := Lib.hid hEq
          clear h48 hEq hb48
          go_wp2_with fail
          go_meet
          exact ⟨by rw [HEQ.out]; rfl, HB1, HB2, HBL⟩
        · have t1 : ((s[q].toNat : Int) == 48) = false := by
            rw [beq_eq_false_iff_ne]
            intro h8
            exact h48 (UInt8.toNat_inj.1 (by show s[q].toNat = 48; omega))
          have hEq := HE.out
          rw [hb48, if_neg (by simpa using h48)] at hEq
          have HEQ := Lib.hid hEq
          clear h48 hEq hb48
          go_wp2_with fail
          go_meet
          exact ⟨by rw [HEQ.out], HB1, HB2, HBL⟩
      case rest =>
        obtain ⟨rfl, HB1, HB2, HBL⟩ := hcut
        obtain ⟨P, hP, hPl, hPs⟩ := sl_mid s q E (by omega) hEE.2
        obtain ⟨A, hA⟩ : ∃ A, A = span s.data.toList q E := ⟨_, rfl⟩
        obtain rfl : P = ⟨A.toArray⟩ := by rw [hA]; exact str_of hPl
        have HA := Lib.hid hA
        obtain ⟨y0, y1, y2, y3⟩ := prt_cells HB1.out
        obtain ⟨z0, z1, z2, z3⟩ := prt_cells HB2.out
        have fy0 := HB1.out.frozen 0
        have fy1 := HB1.out.frozen 1
        have fy2 := HB1.out.frozen 2
        have fy3 := HB1.out.frozen 3
        have fz1 := HB2.out.frozen 1
        have fz2 := HB2.out.frozen 2
        have fz3 := HB2.out.frozen 3
        have hlt2 := HB2.out.lt
        have HB2' := Lib.hid (HB2.out.set_ 1 (.string ⟨A.toArray⟩))
        have HB1' := Lib.hid (HB1.out.far (p := ⟨w.heap.size + 1, 1, none⟩) (by simp) (.string ⟨A.toArray⟩))
        have HBL' := Lib.hid (HBL.out.setCell (p := ⟨w.heap.size + 1, 1, none⟩) (by simp) (.string ⟨A.toArray⟩))
        clear hA hPl hPs hb48 HD HG
        go_wp2_with fail
        clear y0 y1 y2 y3 z0 z1 z2 z3 fy0 fy1 fy2 fy3 fz1 fz2 fz3 hlt2 HB1 HB2 HBL
        refine (HIS2.out _).mono ?_
        rintro en w1 ⟨rfl, hw1⟩
        subst hw1
        generalize World.setCell _ _ _ = W1 at HB1' HB2' HBL' ⊢
        go_upto_if 40 with fail
        go_cut [1] (fun a wx => ∃ (i : Nat) (B : List UInt8), a = .int .i64 (i : Nat) ∧ i ≤ s.size ∧ Hid (r = some (A, B, i)) ∧ Hid (Blk wx w.heap.size 102 (prt false [] [] [])) ∧ Hid (Blk wx (w.heap.size + 1) 102 (prt neg A B [])) ∧ Hid (Below w.heap.size w wx))
        case first =>
          cases hdot : bAt s.data.toList E 46 46
          · have HRR := Lib.hid (HR.out.trans (whole_int HDD.out HE.out hdot))
            rw [← HA.out] at HRR
            clear hdot
            go_wp2_with fail
            go_meet
            exact ⟨E, [], rfl, hEE.2, HRR, HB1', HB2', HBL'⟩
          · have hE2 : E + 1 ≤ s.size := by
              apply Classical.byContradiction
              intro hn
              rw [Rdr.bAt_out (by have := HLL.out; omega)] at hdot
              cases hdot
            have HG2 := Lib.hid (digits_any s (E + 1) · hE2 hsm)
            have hF1 := dEnd_le (l := s.data.toList) (i := E + 1) (by have := HLL.out; omega)
            have hF2 := dEnd_ge s.data.toList (E + 1)
            rw [HLL.out] at hF1
            by_cases hbad : dEnd s.data.toList (E + 1) = E + 1
            · have HNO := Lib.hid (HR.out.trans (whole_bad HDD.out HE.out hdot hbad))
              rw [hbad] at HG2
              have t1 : (((E + 1 : Nat) : Int) == (E : Int) + 1) = true := by rw [beq_iff_eq]; omega
              clear hbad hdot hF1 hF2
              have HB1 := HB1'
              have HB2 := HB2'
              have HBL := HBL'
              clear HB1' HB2' HBL'
              go_wp2_with fail
              refine (HG2.out _).mono ?_
              rintro en w1 ⟨rfl, hw1⟩
              subst hw1
              obtain ⟨y0, y1, y2, y3⟩ := prt_cells HB1.out
              obtain ⟨z0, z1, z2, z3⟩ := prt_cells HB2.out
              have fy0 := HB1.out.frozen 0
              have fy1 := HB1.out.frozen 1
              have fy2 := HB1.out.frozen 2
              have fy3 := HB1.out.frozen 3
              have fz1 := HB2.out.frozen 1
              have fz2 := HB2.out.frozen 2
              have fz3 := HB2.out.frozen 3
              have hlt2 := HB2.out.lt
              go_wp2_with fail
              obtain ⟨hk3, hbf⟩ := prt_set (B := w.heap.size) (n := neg) (a := A) (b := []) (c := []) HB1.out (Nat.le_refl _)
              replace hbf := HBL.out.trans hbf
              generalize (((World.setCell _ _ _).setCell _ _).setCell _ _).setCell _ _ = Wf at hk3 hbf ⊢
              obtain ⟨q0, q1, q2, q3⟩ := prt_cells hk3
              exact bodyPost_ret (v := .tuple #[.agg (prt neg A [] []), .int .i64 ((E + 1 : Nat) : Int), .bool false]) (by simp [results, Tryd.results67, go_sem, q0, q1, q2, q3]; rfl) rfl (sc_no HNO.out ⟨_, _, _, _, _, rfl, hbf⟩)

            · have HRR := Lib.hid (HR.out.trans (whole_dot HDD.out HE.out hdot hbad))
              obtain ⟨F, hF⟩ : ∃ F, F = dEnd s.data.toList (E + 1) := ⟨_, rfl⟩
              rw [← hF] at HG2 hF1 hF2 HRR hbad
              rw [← HA.out] at HRR
              have t1 : ((F : Int) == (E : Int) + 1) = false := by rw [beq_eq_false_iff_ne]; omega
              obtain ⟨P, hP, hPl, hPs⟩ := sl_mid s (E + 1) F hF2 hF1
              obtain ⟨B, hB⟩ : ∃ B, B = span s.data.toList (E + 1) F := ⟨_, rfl⟩
              obtain rfl : P = ⟨B.toArray⟩ := by rw [hB]; exact str_of hPl
              rw [← hB] at HRR
              have hP' : ∀ w1 : World, (Instr.slice 9 (.string s) (some (.int .i64 ((E : Int) + 1))) (some (.int .i64 (F : Int))) none).run Tryd.prog w1 = .ok (.string ⟨B.toArray⟩) w1 := hP
              have HB1 := HB1'
              have HB2 := HB2'
              have HBL := HBL'
              clear HB1' HB2' HBL' hF hbad hPl hPs hB hP hdot
              go_wp2_with fail
              refine (HG2.out _).mono ?_
              rintro en w1 ⟨rfl, hw1⟩
              subst hw1
              obtain ⟨y0, y1, y2, y3⟩ := prt_cells HB1.out
              obtain ⟨z0, z1, z2, z3⟩ := prt_cells HB2.out
              have fy0 := HB1.out.frozen 0
              have fy1 := HB1.out.frozen 1
              have fy2 := HB1.out.frozen 2
              have fy3 := HB1.out.frozen 3
              have fz1 := HB2.out.frozen 1
              have fz2 := HB2.out.frozen 2
              have fz3 := HB2.out.frozen 3
              have hlt2 := HB2.out.lt
              have HB2' := Lib.hid (HB2.out.set_ 2 (.string ⟨B.toArray⟩))
              have HB1' := Lib.hid (HB1.out.far (p := ⟨w.heap.size + 1, 2, none⟩) (by simp) (.string ⟨B.toArray⟩))
              have HBL' := Lib.hid (HBL.out.setCell (p := ⟨w.heap.size + 1, 2, none⟩) (by simp) (.string ⟨B.toArray⟩))
              go_wp2_with fail
              go_meet
              exact ⟨F, B, rfl, hF1, HRR, HB1', HB2', HBL'⟩
        case rest =>
          obtain ⟨i, B, rfl, hi, HRR, HB1, HB2, HBL⟩ := hcut
          have HIS3 := Lib.hid (is_any s i 101 69 · hsm)
          clear HB1' HB2' HBL' hP
          cases he : bAt s.data.toList i 101 69
          · have HEX := Lib.hid (exp_not he)
            have HES := Lib.hid (show expS s.data.toList i i = [] by unfold expS; rw [if_neg (by rw [he]; decide)])
            rw [he] at HIS3
            clear he
            go_wp2_with fail
            refine (HIS3.out _).mono ?_
            rintro en w1 ⟨rfl, hw1⟩
            subst hw1
            obtain ⟨y0, y1, y2, y3⟩ := prt_cells HB1.out
            obtain ⟨z0, z1, z2, z3⟩ := prt_cells HB2.out
            have fy0 := HB1.out.frozen 0
            have fy1 := HB1.out.frozen 1
            have fy2 := HB1.out.frozen 2
            have fy3 := HB1.out.frozen 3
            have fz1 := HB2.out.frozen 1
            have fz2 := HB2.out.frozen 2
            have fz3 := HB2.out.frozen 3
            have hlt2 := HB2.out.lt
            go_wp2_with fail
            obtain ⟨hk3, hbf⟩ := prt_set (B := w.heap.size) (n := neg) (a := A) (b := B) (c := []) HB1.out (Nat.le_refl _)
            replace hbf := HBL.out.trans hbf
            generalize (((World.setCell _ _ _).setCell _ _).setCell _ _).setCell _ _ = Wf at hk3 hbf ⊢
            obtain ⟨q0, q1, q2, q3⟩ := prt_cells hk3
            exact bodyPost_ret (v := .tuple #[.agg (prt neg A B []), .int .i64 (i : Nat), .bool true]) (by simp [results, Tryd.results67, go_sem, q0, q1, q2, q3]; rfl) rfl (sc_yes HRR.out HEX.out ⟨by rw [HES.out], hbf⟩)

          · have hi1 : i + 1 ≤ s.size := by
              apply Classical.byContradiction
              intro hn
              rw [Rdr.bAt_out (by have := HLL.out; omega)] at he
              cases he
            have HEE := Lib.hid he
            rw [he] at HIS3
            have HIS4 := Lib.hid (is_any s (i + 1) 43 45 · hsm)
            obtain ⟨t, ht⟩ : ∃ t, t = if bAt s.data.toList (i + 1) 43 45 = true then i + 2 else i + 1 := ⟨_, rfl⟩
            have hts : i + 1 ≤ t ∧ t ≤ s.size := by
              rw [ht]
              cases h4 : bAt s.data.toList (i + 1) 43 45
              · rw [if_neg (by decide)]; omega
              · rw [if_pos rfl]
                have : i + 1 < s.data.toList.length := by
                  apply Classical.byContradiction
                  intro hn
                  rw [Rdr.bAt_out (by omega)] at h4
                  cases h4
                have := HLL.out
                omega
            have HT := Lib.hid ht
            clear he ht
            go_wp2_with fail
            refine (HIS3.out _).mono ?_
            rintro en w1 ⟨rfl, hw1⟩
            subst hw1
            go_wp2_with fail
            refine (HIS4.out _).mono ?_
            rintro en w1 ⟨rfl, hw1⟩
            subst hw1
            go_upto_if 66 with fail
            go_cut [10] (fun a wx => a = .int .i64 (t : Nat) ∧ Hid (Blk wx w.heap.size 102 (prt false [] [] [])) ∧ Hid (Blk wx (w.heap.size + 1) 102 (prt neg A B [])) ∧ Hid (Below w.heap.size w wx))
            case first =>
              cases h4 : bAt s.data.toList (i + 1) 43 45
              · have htt := HT.out
                rw [h4, if_neg (by decide)] at htt
                have HTT := Lib.hid htt
                clear h4 htt
                go_wp2_with fail
                go_meet
                exact ⟨by rw [HTT.out]; rfl, HB1, HB2, HBL⟩
              · have htt := HT.out
                rw [h4, if_pos rfl] at htt
                have HTT := Lib.hid htt
                clear h4 htt
                go_wp2_with fail
                go_meet
                exact ⟨by rw [HTT.out]; rfl, HB1, HB2, HBL⟩
            case rest =>
              obtain ⟨rfl, HB1, HB2, HBL⟩ := hcut
              have HG3 := Lib.hid (digits_any s t · hts.2 hsm)
              have hF1 := dEnd_le (l := s.data.toList) (i := t) (by have := HLL.out; omega)
              have hF2 := dEnd_ge s.data.toList t
              rw [HLL.out] at hF1
              by_cases hbad : dEnd s.data.toList t = t
              · have HEX := Lib.hid (exp_bad HEE.out HT.out hbad)
                rw [hbad] at HG3
                have t1 : (((t : Nat) : Int) == (t : Int)) = true := by rw [beq_iff_eq]
                clear hbad hF1 hF2
                go_wp2_with fail
                refine (HG3.out _).mono ?_
                rintro en w1 ⟨rfl, hw1⟩
                subst hw1
                obtain ⟨y0, y1, y2, y3⟩ := prt_cells HB1.out
                obtain ⟨z0, z1, z2, z3⟩ := prt_cells HB2.out
                have fy0 := HB1.out.frozen 0
                have fy1 := HB1.out.frozen 1
                have fy2 := HB1.out.frozen 2
                have fy3 := HB1.out.frozen 3
                have fz1 := HB2.out.frozen 1
                have fz2 := HB2.out.frozen 2
                have fz3 := HB2.out.frozen 3
                have hlt2 := HB2.out.lt
                go_wp2_with fail
                obtain ⟨hk3, hbf⟩ := prt_set (B := w.heap.size) (n := neg) (a := A) (b := B) (c := []) HB1.out (Nat.le_refl _)
                replace hbf := HBL.out.trans hbf
                generalize (((World.setCell _ _ _).setCell _ _).setCell _ _).setCell _ _ = Wf at hk3 hbf ⊢
                obtain ⟨q0, q1, q2, q3⟩ := prt_cells hk3
                exact bodyPost_ret (v := .tuple #[.agg (prt neg A B []), .int .i64 (t : Nat), .bool false]) (by simp [results, Tryd.results67, go_sem, q0, q1, q2, q3]; rfl) rfl (sc_bad HRR.out HEX.out ⟨_, _, _, _, _, rfl, hbf⟩)

              · have HEX := Lib.hid (exp_yes HEE.out HT.out hbad)
                obtain ⟨F, hF⟩ : ∃ F, F = dEnd s.data.toList t := ⟨_, rfl⟩
                rw [← hF] at HG3 hF1 hF2 HEX hbad
                have t1 : ((F : Int) == (t : Int)) = false := by rw [beq_eq_false_iff_ne]; omega
                obtain ⟨P, hP, hPl, hPs⟩ := sl_mid s (i + 1) F (by omega) hF1
                obtain ⟨C, hC⟩ : ∃ C, C = span s.data.toList (i + 1) F := ⟨_, rfl⟩
                obtain rfl : P = ⟨C.toArray⟩ := by rw [hC]; exact str_of hPl
                have HES := Lib.hid (show expS s.data.toList i F = C by unfold expS; rw [if_pos HEE.out, hC])
                have hP' : ∀ w1 : World, (Instr.slice 9 (.string s) (some (.int .i64 ((i : Int) + 1))) (some (.int .i64 (F : Int))) none).run Tryd.prog w1 = .ok (.string ⟨C.toArray⟩) w1 := hP
                clear hF hbad hPl hPs hC hP
                go_wp2_with fail
                refine (HG3.out _).mono ?_
                rintro en w1 ⟨rfl, hw1⟩
                subst hw1
                obtain ⟨y0, y1, y2, y3⟩ := prt_cells HB1.out
                obtain ⟨z0, z1, z2, z3⟩ := prt_cells HB2.out
                have fy0 := HB1.out.frozen 0
                have fy1 := HB1.out.frozen 1
                have fy2 := HB1.out.frozen 2
                have fy3 := HB1.out.frozen 3
                have fz1 := HB2.out.frozen 1
                have fz2 := HB2.out.frozen 2
                have fz3 := HB2.out.frozen 3
                have hlt2 := HB2.out.lt
                have HB2' := Lib.hid (HB2.out.set_ 3 (.string ⟨C.toArray⟩))
                have HB1' := Lib.hid (HB1.out.far (p := ⟨w.heap.size + 1, 3, none⟩) (by simp) (.string ⟨C.toArray⟩))
                have HBL' := Lib.hid (HBL.out.setCell (p := ⟨w.heap.size + 1, 3, none⟩) (by simp) (.string ⟨C.toArray⟩))
                go_wp2_with fail
                obtain ⟨hk3, hbf⟩ := prt_set (B := w.heap.size) (n := neg) (a := A) (b := B) (c := C) HB1'.out (Nat.le_refl _)
                replace hbf := HBL'.out.trans hbf
                generalize (((World.setCell _ _ _).setCell _ _).setCell _ _).setCell _ _ = Wf at hk3 hbf ⊢
                obtain ⟨q0, q1, q2, q3⟩ := prt_cells hk3
                exact bodyPost_ret (v := .tuple #[.agg (prt neg A B C), .int .i64 (F : Nat), .bool true]) (by simp [results, Tryd.results67, go_sem, q0, q1, q2, q3]; rfl) rfl (sc_yes HRR.out HEX.out ⟨by rw [HES.out], hbf⟩)
end Go.Proofs.YtabmalnandbocaaDoor.Rsc
namespace Go.Proofs.YtabmalnandbocaaDoor.Rsc
set_option exponentiation.threshold 3000
set_option linter.unusedVariables false
set_option linter.unusedSimpArgs false
open Go.Proofs.YtabmalnandbocaaDoor.Mem Go.Proofs.YtabmalnandbocaaDoor.Own Go.Proofs.YtabmalnandbocaaDoor.Num Go.Proofs.YtabmalnandbocaaDoor.Big Go.Proofs.YtabmalnandbocaaDoor.Dg
theorem numR_digs {x : List UInt8} (h : isDigs x) (neg : Bool) (n : Nat) : x.foldl stR (neg, n) = (neg, x.foldl tenR n) := by
  induction x generalizing n with
  | nil => rfl
  | cons c x ih =>
    have hc := h c (by simp)
    have e : stR (neg, n) c = (neg, tenR n c) := by
      unfold stR tenR
      have h45 : decide (c.toNat = 45) = false := decide_eq_false (by omega)
      by_cases hn : n ≤ 1000000000000000
      · rw [if_pos (by omega), if_pos hn, h45, Bool.or_false]
      · rw [if_neg (by omega), if_neg hn, h45, Bool.or_false]
    rw [List.foldl_cons, List.foldl_cons, e]
    exact ih (fun d hd => h d (by simp [hd])) _
theorem span_cons {l : List UInt8} {i j : Nat} (hi : i < j) (hj : i < l.length) : span l i j = l[i] :: span l (i + 1) j := by
  unfold span
  rw [List.drop_eq_getElem_cons hj, show j - i = (j - (i + 1)) + 1 by omega, List.take_succ_cons]
theorem numRV_is {l : List UInt8} {i : Nat} {en : Bool} {x : List UInt8} {j : Nat} (hi : i ≤ l.length) (h : expF l i = some (en, x, j)) : numRV (expS l i j) = sgn en (min (x.foldl tenR 0) 1000000000000001) := by
  unfold expF at h
  unfold expS
  by_cases h1 : bAt l i 101 69 = true
  · rw [if_pos h1] at h ⊢
    generalize hq : (if bAt l (i + 1) 43 45 = true then i + 2 else i + 1) = q at h
    by_cases h2 : dEnd l q = q
    · rw [if_pos h2] at h; cases h
    · rw [if_neg h2] at h
      injection h with h
      injection h with h3 h4
      injection h4 with h4 h5
      have hdx : isDigs x := by rw [← h4]; exact span_digs l q
      have hqj : q < j := by have := dEnd_ge l q; omega
      by_cases h6 : bAt l (i + 1) 43 45 = true
      · rw [if_pos h6] at hq
        have hil : i + 1 < l.length := by
          apply Classical.byContradiction
          intro hn
          rw [Rdr.bAt_out hn] at h6
          cases h6
        have hx : span l (i + 1) j = l[i + 1] :: x := by
          rw [span_cons (by omega) hil, show i + 1 + 1 = q by omega, ← h5, h4]
        rw [hx]
        have hc := Rdr.bAt_in hil 43 45
        rw [h6] at hc
        have hc2 := Rdr.bAt_in hil 45 45
        rw [h3, Bool.or_self] at hc2
        have e : stR (false, 0) l[i + 1] = (en, 0) := by
          have hv : l[i + 1] = 43 ∨ l[i + 1] = 45 := by simpa using hc.symm
          unfold stR
          rcases hv with hv | hv
          · rw [hc2, hv]; rfl
          · rw [hc2, hv]; rfl
        unfold numRV numR
        rw [List.foldl_cons, e, numR_digs hdx]
        rfl
      · rw [if_neg h6] at hq
        have hx : span l (i + 1) j = x := by rw [show i + 1 = q by omega, ← h5, h4]
        rw [hx]
        have hen : en = false := by
          rw [← h3]
          unfold bAt at h6 ⊢
          cases hc : l[i + 1]? with
          | none => rfl
          | some d => rw [hc] at h6; simp at h6 ⊢; exact h6.2
        unfold numRV numR
        rw [numR_digs hdx, hen]
        rfl
  · rw [if_neg h1] at h ⊢
    injection h with h
    injection h with h3 h4
    injection h4 with h4 h5
    subst h3 h4 h5
    rfl
/-- What the reference's Of answers. -/
noncomputable def textQ (l : List UInt8) : Except Int (Bool × List UInt8 × Int) :=
  match wholeF l (if bAt l 0 45 45 = true then 1 else 0) with
  | none => .error 110
  | some (w, b, i) =>
    match expF l i with
    | none => .error 110
    | some (en, x, j) =>
      if j ≠ l.length then .error 110
      else match madeF (bAt l 0 45 45) (dval (w ++ b)) (numRV (expS l i j) - (b.length : Nat)) with
        | none => .error 111
        | some d => .ok d
theorem textQ_is {l : List UInt8} (hl : l.length < 140737488355328) : textF l = textQ l := by
  unfold textF textQ
  cases hw : wholeF l (if bAt l 0 45 45 = true then 1 else 0) with
  | none => rfl
  | some q =>
    obtain ⟨w, b, i⟩ := q
    obtain ⟨a1, a2, a3, a4⟩ := wholeF_some hw
    simp only
    cases he : expF l i with
    | none => rfl
    | some q =>
      obtain ⟨en, x, j⟩ := q
      obtain ⟨b1, b2⟩ := expF_some a4 he
      simp only
      by_cases hj : j ≠ l.length
      · rw [if_pos hj, if_pos hj]
      · rw [if_neg hj, if_neg hj, numRV_is a4 he]
        have hlen := a3
        rw [List.length_append] at hlen
        have h1 := (tenR_is b1 0 (by omega)).2
        have := made_far (neg := bAt l 0 45 45) (N := dval (w ++ b)) (X := sgn en (x.foldl tenV 0)) (Y := sgn en (min (x.foldl tenR 0) 1000000000000001)) (ds := (w ++ b).length) (b := b.length) (dval_lt a1) (by omega) (by omega) (by
          unfold sgn
          rcases h1 with h1 | h1
          · by_cases hbig : x.foldl tenR 0 ≤ 1000000000000001
            · exact .inl (by rw [← h1, Nat.min_eq_left hbig])
            · cases en
              · refine .inr (.inl ?_); simp; omega
              · refine .inr (.inr ?_); simp; omega
          · cases en
            · refine .inr (.inl ?_); simp; omega
            · refine .inr (.inr ?_); simp; omega)
        unfold sgn at this
        rw [this]
        rfl
end Go.Proofs.YtabmalnandbocaaDoor.Rsc
namespace Go.Proofs.YtabmalnandbocaaDoor.Rsc
set_option exponentiation.threshold 3000
set_option linter.unusedVariables false
set_option linter.unusedSimpArgs false
open Go.RowKit Go.Proofs.YtabmalnandbocaaDoor.Mem Go.Proofs.YtabmalnandbocaaDoor.Own Go.Proofs.YtabmalnandbocaaDoor.Num Go.Proofs.YtabmalnandbocaaDoor.Str Go.Proofs.YtabmalnandbocaaDoor.Big Go.Proofs.YtabmalnandbocaaDoor.Dg Go.Proofs.YtabmalnandbocaaDoor.Rdr
def IPost (w : World) (x : Int) (e : Ending) (w' : World) : Prop := e = .returned (.int .i64 x) ∧ w = w'
def ScYesB (w : World) (neg : Bool) (A B C : ByteArray) (j : Nat) (en : Ending) (w' : World) : Prop := en = .returned (.tuple #[.agg #[.bool neg, .string A, .string B, .string C], .int .i64 (j : Nat), .bool true]) ∧ Below w.heap.size w w'
set_option maxHeartbeats 8000000 in
set_option maxRecDepth 100000 in
theorem rread_bad (s : ByteArray) (p : Nat) (w : World) (hp : p ≤ s.size) (hsm : s.size < 140737488355328) (hS : ∀ W, Calls Tryd.prog 67 #[.string s, .int .i64 (p : Nat)] W (ScNo W)) :
    Calls Tryd.prog 43 #[.string s, .int .i64 (p : Nat)] w (R3None w) := by
  have HS := Lib.hid hS
  clear hS
  have HB1 := Lib.hid (Blk.new w 26 #[.bool false, .string ⟨#[]⟩, .int .i64 0])
  have HBL := Lib.hid ((Below.refl _ w).alloc (Nat.le_refl _) (.cells #[.bool false, .string ⟨#[]⟩, .int .i64 0] 26))
  have t0 : decide ((s.size : Int) < (p : Int)) = false := decide_eq_false (by omega)
  go_enter Tryd.func43, Tryd.ntmps43
  go_wp2_with fail
  refine (HS.out _).mono ?_
  rintro en w1 ⟨n, a, b, c, j, rfl, b1⟩
  unfold prt
  have hr1 := HB1.out.below b1 HB1.out.lt
  have y0 := hr1.cell 0
  have y1 := hr1.cell 1
  have y2 := hr1.cell 2
  simp at y0 y1 y2
  have fy0 := hr1.frozen 0
  have fy1 := hr1.frozen 1
  have fy2 := hr1.frozen 2
  have hlt := hr1.lt
  have HR1 := Lib.hid hr1
  have HB2 := Lib.hid (bthen HBL.out b1)
  clear hr1 b1
  go_wp2_with fail
  obtain ⟨hk3, hbf⟩ := dec_set (B := w.heap.size) HR1.out (Nat.le_refl _) (.bool false) (.string ⟨#[]⟩) (.int .i64 0)
  replace hbf := HB2.out.trans hbf
  replace hbf := hbf.alloc hbf.size (.cells #[.bool n, .string ⟨a.toArray⟩, .string ⟨b.toArray⟩, .string ⟨c.toArray⟩] 102)
  replace hk3 := hk3.alloc (.cells #[.bool n, .string ⟨a.toArray⟩, .string ⟨b.toArray⟩, .string ⟨c.toArray⟩] 102)
  generalize World.alloc (((World.setCell _ _ _).setCell _ _).setCell _ _) _ = Wf at hk3 hbf ⊢
  have q0 : Wf.cell? ⟨w.heap.size, 0, none⟩ = some (.bool false) := hk3.cell 0
  have q1 : Wf.cell? ⟨w.heap.size, 1, none⟩ = some (.string ⟨#[]⟩) := hk3.cell 1
  have q2 : Wf.cell? ⟨w.heap.size, 2, none⟩ = some (.int .i64 0) := hk3.cell 2
  exact bodyPost_ret (v := .tuple #[decV false [] 0, .int .i64 j, .int .i64 110]) (by simp [results, Tryd.results43, go_sem, q0, q1, q2]) rfl ⟨_, rfl, hbf⟩
set_option maxHeartbeats 8000000 in
set_option maxRecDepth 100000 in
theorem rread_big (s : ByteArray) (p : Nat) (w : World) (hp : p ≤ s.size) (hsm : s.size < 140737488355328) (neg : Bool) (A B C : ByteArray) (j : Nat) (hS : ∀ W, Calls Tryd.prog 67 #[.string s, .int .i64 (p : Nat)] W (ScYesB W neg A B C j)) (hdg : isDigs (A.data.toList ++ B.data.toList)) (hl : A.size + B.size < 140737488355328) (hcl : C.size < 140737488355328) (hm : madeF neg (dval (A.data.toList ++ B.data.toList)) (numRV C.data.toList - (B.size : Nat)) = none) :
    Calls Tryd.prog 43 #[.string s, .int .i64 (p : Nat)] w (R3Post w false [] 0 (j : Nat) 111) := by
  have HS := Lib.hid hS
  have hps : (A ++ B).size = A.size + B.size := ByteArray.size_append
  have e1 : (A ++ B).data.toList = A.data.toList ++ B.data.toList := by simp
  have HNU := Lib.hid (fun W => (show Calls Tryd.prog 68 #[.string C, .int .i64 1000000000000000] W (IPost W (numRV C.data.toList)) from Dg.number_w C W (by omega)))
  have hnb : -1000000000000001 ≤ numRV C.data.toList ∧ numRV C.data.toList ≤ 1000000000000001 := by unfold numRV; split <;> omega
  have HM := Lib.hid (fun W => make_w neg (A ++ B) (numRV C.data.toList - (B.size : Nat)) W (by rw [e1]; exact hdg) (by omega) (by omega) (by omega))
  rw [e1, hm] at HM
  have hab : A.size + B.size ≤ 9223372036854775807 := by omega
  have HNB := Lib.hid hnb
  clear hS hm hdg e1 hps
  generalize numRV C.data.toList = X at *
  have HB1 := Lib.hid (Blk.new w 26 #[.bool false, .string ⟨#[]⟩, .int .i64 0])
  have HBL := Lib.hid ((Below.refl _ w).alloc (Nat.le_refl _) (.cells #[.bool false, .string ⟨#[]⟩, .int .i64 0] 26))
  have t0 : decide ((s.size : Int) < (p : Int)) = false := decide_eq_false (by omega)
  go_enter Tryd.func43, Tryd.ntmps43
  go_wp2_with fail
  refine (HS.out _).mono ?_
  rintro en w1 ⟨rfl, b1⟩
  have HR0 := Lib.hid ((HB1.out.below b1 HB1.out.lt).alloc (.cells #[.bool neg, .string A, .string B, .string C] 102))
  have HB2 := Lib.hid ((bthen HBL.out b1).alloc (bthen HBL.out b1).size (.cells #[.bool neg, .string A, .string B, .string C] 102))
  clear b1
  go_wp2_with fail
  refine (HNU.out _).mono ?_
  rintro en w2 ⟨rfl, hw2⟩
  subst hw2
  have hXb := HNB.out
  have tX : IntKind.i64.wrap (X - (B.size : Int)) = X - (B.size : Int) := IntWalk.i64_in _ (by omega)
  go_wp2_with fail
  refine (HM.out _).mono ?_
  rintro en w3 ⟨rfl, b3⟩
  clear tX
  unfold mkV
  have hr1 := HR0.out.below b3 HR0.out.lt
  have y0 := hr1.cell 0
  have y1 := hr1.cell 1
  have y2 := hr1.cell 2
  simp at y0 y1 y2
  have fy0 := hr1.frozen 0
  have fy1 := hr1.frozen 1
  have fy2 := hr1.frozen 2
  have hlt := hr1.lt
  have HR1 := Lib.hid hr1
  have HB3 := Lib.hid (bthen HB2.out b3)
  clear hr1 b3
  go_wp2_with fail
  obtain ⟨hk3, hbf⟩ := dec_set (B := w.heap.size) HR1.out (Nat.le_refl _) (.bool false) (.string ⟨#[]⟩) (.int .i64 0)
  replace hbf := HB3.out.trans hbf
  replace hbf := hbf.alloc hbf.size (.cells #[.bool false, .string ⟨#[]⟩, .int .i64 0] 26)
  replace hk3 := hk3.alloc (.cells #[.bool false, .string ⟨#[]⟩, .int .i64 0] 26)
  generalize World.alloc (((World.setCell _ _ _).setCell _ _).setCell _ _) _ = Wf at hk3 hbf ⊢
  have q0 : Wf.cell? ⟨w.heap.size, 0, none⟩ = some (.bool false) := hk3.cell 0
  have q1 : Wf.cell? ⟨w.heap.size, 1, none⟩ = some (.string ⟨#[]⟩) := hk3.cell 1
  have q2 : Wf.cell? ⟨w.heap.size, 2, none⟩ = some (.int .i64 0) := hk3.cell 2
  exact bodyPost_ret (v := .tuple #[decV false [] 0, .int .i64 (j : Nat), .int .i64 111]) (by simp [results, Tryd.results43, go_sem, q0, q1, q2]) rfl ⟨rfl, hbf⟩
set_option maxHeartbeats 8000000 in
set_option maxRecDepth 100000 in
theorem rread_ok (s : ByteArray) (p : Nat) (w : World) (hp : p ≤ s.size) (hsm : s.size < 140737488355328) (neg : Bool) (A B C : ByteArray) (j : Nat) (hS : ∀ W, Calls Tryd.prog 67 #[.string s, .int .i64 (p : Nat)] W (ScYesB W neg A B C j)) (hdg : isDigs (A.data.toList ++ B.data.toList)) (hl : A.size + B.size < 140737488355328) (hcl : C.size < 140737488355328) (n0 : Bool) (l0 : List UInt8) (e0 : Int) (hm : madeF neg (dval (A.data.toList ++ B.data.toList)) (numRV C.data.toList - (B.size : Nat)) = some (n0, l0, e0)) :
    Calls Tryd.prog 43 #[.string s, .int .i64 (p : Nat)] w (R3Post w n0 l0 e0 (j : Nat) 0) := by
  have HS := Lib.hid hS
  have hps : (A ++ B).size = A.size + B.size := ByteArray.size_append
  have e1 : (A ++ B).data.toList = A.data.toList ++ B.data.toList := by simp
  have HNU := Lib.hid (fun W => (show Calls Tryd.prog 68 #[.string C, .int .i64 1000000000000000] W (IPost W (numRV C.data.toList)) from Dg.number_w C W (by omega)))
  have hnb : -1000000000000001 ≤ numRV C.data.toList ∧ numRV C.data.toList ≤ 1000000000000001 := by unfold numRV; split <;> omega
  have HM := Lib.hid (fun W => make_w neg (A ++ B) (numRV C.data.toList - (B.size : Nat)) W (by rw [e1]; exact hdg) (by omega) (by omega) (by omega))
  rw [e1, hm] at HM
  have hab : A.size + B.size ≤ 9223372036854775807 := by omega
  have HNB := Lib.hid hnb
  clear hS hm hdg e1 hps
  generalize numRV C.data.toList = X at *
  have HB1 := Lib.hid (Blk.new w 26 #[.bool false, .string ⟨#[]⟩, .int .i64 0])
  have HBL := Lib.hid ((Below.refl _ w).alloc (Nat.le_refl _) (.cells #[.bool false, .string ⟨#[]⟩, .int .i64 0] 26))
  have t0 : decide ((s.size : Int) < (p : Int)) = false := decide_eq_false (by omega)
  go_enter Tryd.func43, Tryd.ntmps43
  go_wp2_with fail
  refine (HS.out _).mono ?_
  rintro en w1 ⟨rfl, b1⟩
  have HR0 := Lib.hid ((HB1.out.below b1 HB1.out.lt).alloc (.cells #[.bool neg, .string A, .string B, .string C] 102))
  have HB2 := Lib.hid ((bthen HBL.out b1).alloc (bthen HBL.out b1).size (.cells #[.bool neg, .string A, .string B, .string C] 102))
  clear b1
  go_wp2_with fail
  refine (HNU.out _).mono ?_
  rintro en w2 ⟨rfl, hw2⟩
  subst hw2
  have hXb := HNB.out
  have tX : IntKind.i64.wrap (X - (B.size : Int)) = X - (B.size : Int) := IntWalk.i64_in _ (by omega)
  go_wp2_with fail
  refine (HM.out _).mono ?_
  rintro en w3 ⟨rfl, b3⟩
  clear tX
  unfold mkV
  have hr1 := HR0.out.below b3 HR0.out.lt
  have y0 := hr1.cell 0
  have y1 := hr1.cell 1
  have y2 := hr1.cell 2
  simp at y0 y1 y2
  have fy0 := hr1.frozen 0
  have fy1 := hr1.frozen 1
  have fy2 := hr1.frozen 2
  have hlt := hr1.lt
  have HR1 := Lib.hid hr1
  have HB3 := Lib.hid (bthen HB2.out b3)
  clear hr1 b3
  go_wp2_with fail
  obtain ⟨hk3, hbf⟩ := dec_set (B := w.heap.size) HR1.out (Nat.le_refl _) (.bool n0) (.string ⟨l0.toArray⟩) (.int .i64 e0)
  replace hbf := HB3.out.trans hbf
  replace hbf := hbf.alloc hbf.size (.cells #[.bool n0, .string ⟨l0.toArray⟩, .int .i64 e0] 26)
  replace hk3 := hk3.alloc (.cells #[.bool n0, .string ⟨l0.toArray⟩, .int .i64 e0] 26)
  generalize World.alloc (((World.setCell _ _ _).setCell _ _).setCell _ _) _ = Wf at hk3 hbf ⊢
  have q0 : Wf.cell? ⟨w.heap.size, 0, none⟩ = some (.bool n0) := hk3.cell 0
  have q1 : Wf.cell? ⟨w.heap.size, 1, none⟩ = some (.string ⟨l0.toArray⟩) := hk3.cell 1
  have q2 : Wf.cell? ⟨w.heap.size, 2, none⟩ = some (.int .i64 e0) := hk3.cell 2
  exact bodyPost_ret (v := .tuple #[decV n0 l0 e0, .int .i64 (j : Nat), .int .i64 0]) (by simp [results, Tryd.results43, go_sem, q0, q1, q2]) rfl ⟨rfl, hbf⟩
end Go.Proofs.YtabmalnandbocaaDoor.Rsc
namespace Go.Proofs.YtabmalnandbocaaDoor.Rsc
set_option exponentiation.threshold 3000
set_option linter.unusedVariables false
set_option linter.unusedSimpArgs false
set_option exponentiation.threshold 3000
open Go.RowKit Go.Proofs.YtabmalnandbocaaDoor.Mem Go.Proofs.YtabmalnandbocaaDoor.Own Go.Proofs.YtabmalnandbocaaDoor.Num Go.Proofs.YtabmalnandbocaaDoor.Str Go.Proofs.YtabmalnandbocaaDoor.Big Go.Proofs.YtabmalnandbocaaDoor.Dg Go.Proofs.YtabmalnandbocaaDoor.Rdr
open Ieee (double single)
set_option maxHeartbeats 8000000 in
set_option maxRecDepth 100000 in
theorem qof_none (s : ByteArray) (w : World) (hC : Calls Tryd.prog 43 #[.string s, .int .i64 0] (w.alloc (.cells #[.bool false, .string ⟨#[]⟩, .int .i64 0] 26)) (R3None (w.alloc (.cells #[.bool false, .string ⟨#[]⟩, .int .i64 0] 26)))) :
    Calls Tryd.prog 23 #[.string s] w (D2Post w false [] 0 110) := by
  have hb1 := Blk.new w 26 #[.bool false, .string ⟨#[]⟩, .int .i64 0]
  have HB1 := Lib.hid hb1
  have HC := Lib.hid hC
  have HBL := Lib.hid ((Below.refl _ w).alloc (Nat.le_refl _) (.cells #[.bool false, .string ⟨#[]⟩, .int .i64 0] 26))
  clear hb1 hC
  go_enter Tryd.func23, Tryd.ntmps23
  go_wp2_with fail
  refine HC.out.mono ?_
  rintro en w1 ⟨j, rfl, b1⟩
  have hr1 := HB1.out.below b1 HB1.out.lt
  have HR1 := Lib.hid hr1
  have y0 := hr1.cell 0
  have y1 := hr1.cell 1
  have y2 := hr1.cell 2
  simp at y0 y1 y2
  have fy0 := hr1.frozen 0
  have fy1 := hr1.frozen 1
  have fy2 := hr1.frozen 2
  have hlt := hr1.lt
  have HB2 := Lib.hid (bthen HBL.out b1)
  clear hr1 b1
  go_wp2_with fail
  obtain ⟨hk3, hbf⟩ := dec_set (B := w.heap.size) HR1.out (Nat.le_refl _) (.bool false) (.string ⟨#[]⟩) (.int .i64 0)
  replace hbf := HB2.out.trans hbf
  replace hbf := hbf.alloc hbf.size (.cells #[.bool false, .string ⟨#[]⟩, .int .i64 0] 26)
  replace hk3 := hk3.alloc (.cells #[.bool false, .string ⟨#[]⟩, .int .i64 0] 26)
  generalize World.alloc (((World.setCell _ _ _).setCell _ _).setCell _ _) _ = Wf at hk3 hbf ⊢
  have q0 : Wf.cell? ⟨w.heap.size, 0, none⟩ = some (.bool false) := hk3.cell 0
  have q1 : Wf.cell? ⟨w.heap.size, 1, none⟩ = some (.string ⟨#[]⟩) := hk3.cell 1
  have q2 : Wf.cell? ⟨w.heap.size, 2, none⟩ = some (.int .i64 0) := hk3.cell 2
  exact bodyPost_ret (v := .tuple #[decV false [] 0, .int .i64 110]) (by simp [results, Tryd.results23, go_sem, q0, q1, q2]) rfl ⟨rfl, hbf⟩
set_option maxHeartbeats 8000000 in
set_option maxRecDepth 100000 in
theorem qof_bad (s : ByteArray) (n : Bool) (l : List UInt8) (e : Int) (j c : Int) (w : World) (hC : Calls Tryd.prog 43 #[.string s, .int .i64 0] (w.alloc (.cells #[.bool false, .string ⟨#[]⟩, .int .i64 0] 26)) (R3Post (w.alloc (.cells #[.bool false, .string ⟨#[]⟩, .int .i64 0] 26)) n l e j c)) (hc : c = 110 ∨ c ≠ 110 ∧ j ≠ s.size) :
    Calls Tryd.prog 23 #[.string s] w (D2Post w false [] 0 110) := by
  have hb1 := Blk.new w 26 #[.bool false, .string ⟨#[]⟩, .int .i64 0]
  have HB1 := Lib.hid hb1
  have HC := Lib.hid hC
  have HBL := Lib.hid ((Below.refl _ w).alloc (Nat.le_refl _) (.cells #[.bool false, .string ⟨#[]⟩, .int .i64 0] 26))
  have HCC := Lib.hid hc
  clear hb1 hC hc
  go_enter Tryd.func23, Tryd.ntmps23
  go_wp2_with fail
  refine HC.out.mono ?_
  rintro en w1 ⟨rfl, b1⟩
  have hr1 := HB1.out.below b1 HB1.out.lt
  have HR1 := Lib.hid hr1
  have y0 := hr1.cell 0
  have y1 := hr1.cell 1
  have y2 := hr1.cell 2
  simp at y0 y1 y2
  have fy0 := hr1.frozen 0
  have fy1 := hr1.frozen 1
  have fy2 := hr1.frozen 2
  have hlt := hr1.lt
  have HB2 := Lib.hid (bthen HBL.out b1)
  clear hr1 b1
  rcases HCC.out with rfl | ⟨h1, h2⟩
  · go_wp2_with fail
    obtain ⟨hk3, hbf⟩ := dec_set (B := w.heap.size) HR1.out (Nat.le_refl _) (.bool false) (.string ⟨#[]⟩) (.int .i64 0)
    replace hbf := HB2.out.trans hbf
    replace hbf := hbf.alloc hbf.size (.cells #[.bool n, .string ⟨l.toArray⟩, .int .i64 e] 26)
    replace hk3 := hk3.alloc (.cells #[.bool n, .string ⟨l.toArray⟩, .int .i64 e] 26)
    generalize World.alloc (((World.setCell _ _ _).setCell _ _).setCell _ _) _ = Wf at hk3 hbf ⊢
    have q0 : Wf.cell? ⟨w.heap.size, 0, none⟩ = some (.bool false) := hk3.cell 0
    have q1 : Wf.cell? ⟨w.heap.size, 1, none⟩ = some (.string ⟨#[]⟩) := hk3.cell 1
    have q2 : Wf.cell? ⟨w.heap.size, 2, none⟩ = some (.int .i64 0) := hk3.cell 2
    exact bodyPost_ret (v := .tuple #[decV false [] 0, .int .i64 110]) (by simp [results, Tryd.results23, go_sem, q0, q1, q2]) rfl ⟨rfl, hbf⟩
  · have t1 : ((c : Int) == 110) = false := beq_eq_false_iff_ne.2 h1
    have t2 : (j != (s.size : Int)) = true := by rw [bne_iff_ne]; omega
    clear h1 h2
    go_wp2_with fail
    obtain ⟨hk3, hbf⟩ := dec_set (B := w.heap.size) HR1.out (Nat.le_refl _) (.bool false) (.string ⟨#[]⟩) (.int .i64 0)
    replace hbf := HB2.out.trans hbf
    replace hbf := hbf.alloc hbf.size (.cells #[.bool n, .string ⟨l.toArray⟩, .int .i64 e] 26)
    replace hk3 := hk3.alloc (.cells #[.bool n, .string ⟨l.toArray⟩, .int .i64 e] 26)
    generalize World.alloc (((World.setCell _ _ _).setCell _ _).setCell _ _) _ = Wf at hk3 hbf ⊢
    have q0 : Wf.cell? ⟨w.heap.size, 0, none⟩ = some (.bool false) := hk3.cell 0
    have q1 : Wf.cell? ⟨w.heap.size, 1, none⟩ = some (.string ⟨#[]⟩) := hk3.cell 1
    have q2 : Wf.cell? ⟨w.heap.size, 2, none⟩ = some (.int .i64 0) := hk3.cell 2
    exact bodyPost_ret (v := .tuple #[decV false [] 0, .int .i64 110]) (by simp [results, Tryd.results23, go_sem, q0, q1, q2]) rfl ⟨rfl, hbf⟩
set_option maxHeartbeats 8000000 in
set_option maxRecDepth 100000 in
theorem qof_good (s : ByteArray) (n : Bool) (l : List UInt8) (e : Int) (j c : Int) (w : World) (hC : Calls Tryd.prog 43 #[.string s, .int .i64 0] (w.alloc (.cells #[.bool false, .string ⟨#[]⟩, .int .i64 0] 26)) (R3Post (w.alloc (.cells #[.bool false, .string ⟨#[]⟩, .int .i64 0] 26)) n l e j c)) (h1 : c ≠ 110) (h2 : j = s.size) :
    Calls Tryd.prog 23 #[.string s] w (D2Post w n l e c) := by
  have hb1 := Blk.new w 26 #[.bool false, .string ⟨#[]⟩, .int .i64 0]
  have HB1 := Lib.hid hb1
  have HC := Lib.hid hC
  have HBL := Lib.hid ((Below.refl _ w).alloc (Nat.le_refl _) (.cells #[.bool false, .string ⟨#[]⟩, .int .i64 0] 26))
  have t1 : ((c : Int) == 110) = false := beq_eq_false_iff_ne.2 h1
  have t2 : (j != (s.size : Int)) = false := by rw [bne_eq_false_iff_eq]; omega
  clear hb1 hC h1 h2
  go_enter Tryd.func23, Tryd.ntmps23
  go_wp2_with fail
  refine HC.out.mono ?_
  rintro en w1 ⟨rfl, b1⟩
  have hr1 := HB1.out.below b1 HB1.out.lt
  have HR1 := Lib.hid hr1
  have y0 := hr1.cell 0
  have y1 := hr1.cell 1
  have y2 := hr1.cell 2
  simp at y0 y1 y2
  have fy0 := hr1.frozen 0
  have fy1 := hr1.frozen 1
  have fy2 := hr1.frozen 2
  have hlt := hr1.lt
  have HB2 := Lib.hid (bthen HBL.out b1)
  clear hr1 b1
  go_wp2_with fail
  obtain ⟨hk3, hbf⟩ := dec_set (B := w.heap.size) HR1.out (Nat.le_refl _) (.bool n) (.string ⟨l.toArray⟩) (.int .i64 e)
  replace hbf := HB2.out.trans hbf
  replace hbf := hbf.alloc hbf.size (.cells #[.bool n, .string ⟨l.toArray⟩, .int .i64 e] 26)
  replace hk3 := hk3.alloc (.cells #[.bool n, .string ⟨l.toArray⟩, .int .i64 e] 26)
  generalize World.alloc (((World.setCell _ _ _).setCell _ _).setCell _ _) _ = Wf at hk3 hbf ⊢
  have q0 : Wf.cell? ⟨w.heap.size, 0, none⟩ = some (.bool n) := hk3.cell 0
  have q1 : Wf.cell? ⟨w.heap.size, 1, none⟩ = some (.string ⟨l.toArray⟩) := hk3.cell 1
  have q2 : Wf.cell? ⟨w.heap.size, 2, none⟩ = some (.int .i64 e) := hk3.cell 2
  exact bodyPost_ret (v := .tuple #[decV n l e, .int .i64 c]) (by simp [results, Tryd.results23, go_sem, q0, q1, q2]) rfl ⟨rfl, hbf⟩
set_option maxHeartbeats 8000000 in
set_option maxRecDepth 100000 in
theorem qread_bad (s : ByteArray) (c : Int) (w : World) (hc : c ≠ 0) (hC : Calls Tryd.prog 23 #[.string s] w (D2Post w false [] 0 c)) :
    Calls Tryd.prog 9 #[.string s] w (FlPost w 0 c) := by
  have HC := Lib.hid hC
  have t1 : (c != 0) = true := by rw [bne_iff_ne]; exact hc
  clear hC hc
  go_enter Tryd.func9, Tryd.ntmps9
  go_wp2_with fail
  refine HC.out.mono ?_
  rintro en w1 ⟨rfl, b1⟩
  have HB := Lib.hid b1
  clear b1
  go_wp2_with fail
  go_ret2
  exact ⟨rfl, HB.out.alloc HB.out.size _⟩
set_option maxHeartbeats 8000000 in
set_option maxRecDepth 100000 in
theorem qread_good (s : ByteArray) (n : Bool) (l : List UInt8) (e : Int) (x : Nat) (c : Int) (w : World) (hC : Calls Tryd.prog 23 #[.string s] w (D2Post w n l e 0))
    (hF : ∀ W, Calls Tryd.prog 24 #[.agg #[.bool n, .string ⟨l.toArray⟩, .int .i64 e]] W (FlPost W x c)) :
    Calls Tryd.prog 9 #[.string s] w (FlPost w x c) := by
  have HC := Lib.hid hC
  have HF := Lib.hid hF
  clear hC hF
  go_enter Tryd.func9, Tryd.ntmps9
  go_wp2_with fail
  refine HC.out.mono ?_
  rintro en w1 ⟨rfl, b1⟩
  have HB := Lib.hid b1
  clear b1
  go_wp2_with fail
  refine (HF.out _).mono ?_
  rintro en w2 ⟨rfl, b2⟩
  have HB2 := Lib.hid (bthen (HB.out.alloc HB.out.size (.cells #[.bool n, .string ⟨l.toArray⟩, .int .i64 e] 26)) b2)
  clear b2
  go_wp2_with fail
  go_ret2
  exact ⟨rfl, HB2.out⟩
theorem exps_len {l : List UInt8} {i j : Nat} (hj : j ≤ l.length) : (expS l i j).length ≤ l.length := by
  unfold expS
  split
  · rw [span_len hj]; omega
  · simp
theorem scan_no (s : ByteArray) (W : World) (hsm : s.size < 140737488355328) (h : wholeF s.data.toList (if bAt s.data.toList 0 45 45 = true then 1 else 0) = none) : Calls Tryd.prog 67 #[.string s, .int .i64 0] W (ScNo W) := by
  refine (scan_any s 0 _ _ W (Nat.zero_le _) hsm rfl rfl none h.symm).mono fun en w' hh => ?_
  exact hh
theorem scan_no2 (s : ByteArray) (W : World) (hsm : s.size < 140737488355328) {a b : List UInt8} {i : Nat} (h : wholeF s.data.toList (if bAt s.data.toList 0 45 45 = true then 1 else 0) = some (a, b, i)) (he : expF s.data.toList i = none) : Calls Tryd.prog 67 #[.string s, .int .i64 0] W (ScNo W) := by
  refine (scan_any s 0 _ _ W (Nat.zero_le _) hsm rfl rfl _ h.symm).mono fun en w' hh => ?_
  unfold ScPost at hh
  simp only [he] at hh
  exact hh
theorem scan_yes (s : ByteArray) (W : World) (hsm : s.size < 140737488355328) {a b : List UInt8} {i : Nat} (h : wholeF s.data.toList (if bAt s.data.toList 0 45 45 = true then 1 else 0) = some (a, b, i)) {en0 : Bool} {x : List UInt8} {j : Nat} (he : expF s.data.toList i = some (en0, x, j)) : Calls Tryd.prog 67 #[.string s, .int .i64 0] W (ScYesB W (bAt s.data.toList 0 45 45) ⟨a.toArray⟩ ⟨b.toArray⟩ ⟨(expS s.data.toList i j).toArray⟩ j) := by
  refine (scan_any s 0 _ _ W (Nat.zero_le _) hsm rfl rfl _ h.symm).mono fun en w' hh => ?_
  unfold ScPost at hh
  simp only [he] at hh
  exact hh
theorem qof_w (s : ByteArray) (w : World) (hsm : s.size < 140737488355328) : Calls Tryd.prog 23 #[.string s] w (DoPost w (textF s.data.toList)) := by
  have hl : s.data.toList.length = s.size := by simp
  rw [textQ_is (by omega)]
  unfold textQ
  cases hw : wholeF s.data.toList (if bAt s.data.toList 0 45 45 = true then 1 else 0) with
  | none => exact qof_none s w (rread_bad s 0 _ (Nat.zero_le _) hsm (fun W => scan_no s W hsm hw))
  | some q =>
    obtain ⟨a, b, i⟩ := q
    obtain ⟨a1, a2, a3, a4⟩ := wholeF_some hw
    simp only
    cases he : expF s.data.toList i with
    | none => exact qof_none s w (rread_bad s 0 _ (Nat.zero_le _) hsm (fun W => scan_no2 s W hsm hw he))
    | some q =>
      obtain ⟨en, x, j⟩ := q
      obtain ⟨b1, b2⟩ := expF_some a4 he
      simp only
      have hS := fun W => scan_yes s W hsm hw he
      have hX := exps_len (l := s.data.toList) (i := i) b2
      rw [List.length_append] at a3
      have s1 : (⟨a.toArray⟩ : ByteArray).size = a.length := by simp [ByteArray.size]
      have s2 : (⟨b.toArray⟩ : ByteArray).size = b.length := by simp [ByteArray.size]
      have s3 : (⟨(expS s.data.toList i j).toArray⟩ : ByteArray).size = (expS s.data.toList i j).length := by simp [ByteArray.size]
      have hbs : (b.length : Nat) = (⟨b.toArray⟩ : ByteArray).size := s2.symm
      by_cases hjl : j ≠ s.data.toList.length
      · rw [if_pos hjl]
        cases hm : madeF (bAt s.data.toList 0 45 45) (dval (a ++ b)) (numRV (expS s.data.toList i j) - (b.length : Nat)) with
        | none => exact qof_bad s _ _ _ _ _ w (rread_big s 0 _ (Nat.zero_le _) hsm _ _ _ _ j hS a1 (by omega) (by omega) (by rw [← hbs]; exact hm)) (.inr ⟨by decide, by omega⟩)
        | some d => obtain ⟨n0, l0, e0⟩ := d; exact qof_bad s _ _ _ _ _ w (rread_ok s 0 _ (Nat.zero_le _) hsm _ _ _ _ j hS a1 (by omega) (by omega) n0 l0 e0 (by rw [← hbs]; exact hm)) (.inr ⟨by decide, by omega⟩)
      · rw [if_neg hjl]
        cases hm : madeF (bAt s.data.toList 0 45 45) (dval (a ++ b)) (numRV (expS s.data.toList i j) - (b.length : Nat)) with
        | none => exact qof_good s _ _ _ _ _ w (rread_big s 0 _ (Nat.zero_le _) hsm _ _ _ _ j hS a1 (by omega) (by omega) (by rw [← hbs]; exact hm)) (by decide) (by omega)
        | some d => obtain ⟨n0, l0, e0⟩ := d; exact qof_good s _ _ _ _ _ w (rread_ok s 0 _ (Nat.zero_le _) hsm _ _ _ _ j hS a1 (by omega) (by omega) n0 l0 e0 (by rw [← hbs]; exact hm)) (by decide) (by omega)
theorem qflo_w (n : Bool) (l : List UInt8) (e : Int) (w : World) (hf : Num.Form l e) (hl : l.length < 140737488355328) :
    Calls Tryd.prog 24 #[.agg #[.bool n, .string ⟨l.toArray⟩, .int .i64 e]] w (FlPost w (if near64 l e = 9218868437227405312 then 0 else double.word n (near64 l e)) (if near64 l e = 9218868437227405312 then 121 else 0)) := by
  have hs : (⟨l.toArray⟩ : ByteArray).size < 140737488355328 := by
    have : (⟨l.toArray⟩ : ByteArray).size = l.length := by simp [ByteArray.size]
    omega
  refine (rof_yes n ⟨l.toArray⟩ e w hf hs).mono fun en w' h => ?_
  obtain ⟨rfl, hb⟩ := h
  refine ⟨?_, hb⟩
  show Ending.returned (ofV n (near64 l e)) = _
  unfold ofV
  by_cases h : near64 l e = 9218868437227405312
  · rw [if_pos h, if_pos h, if_pos h]
  · rw [if_neg h, if_neg h, if_neg h]
theorem qdof_bad {s : ByteArray} (w : World) (hsm : s.size < 140737488355328) {c : Int} (h : textF s.data.toList = .error c) : Calls Tryd.prog 23 #[.string s] w (D2Post w false [] 0 c) := by
  refine (qof_w s w hsm).mono fun en w' hh => ?_
  obtain ⟨rfl, hb⟩ := hh
  exact ⟨by rw [h]; rfl, hb⟩
theorem qdof_good {s : ByteArray} (w : World) (hsm : s.size < 140737488355328) {n : Bool} {l : List UInt8} {e : Int} (h : textF s.data.toList = .ok (n, l, e)) : Calls Tryd.prog 23 #[.string s] w (D2Post w n l e 0) := by
  refine (qof_w s w hsm).mono fun en w' hh => ?_
  obtain ⟨rfl, hb⟩ := hh
  exact ⟨by rw [h]; rfl, hb⟩
theorem qread_w (s : ByteArray) (w : World) (hsm : s.size < 140737488355328) : Calls Tryd.prog 9 #[.string s] w (FlPost w (flF s.data.toList).1 (flF s.data.toList).2) := by
  have hl : s.data.toList.length = s.size := by simp
  unfold flF
  cases h : textF s.data.toList with
  | error c => exact qread_bad s c w (by rcases text_err h with rfl | rfl <;> decide) (qdof_bad w hsm h)
  | ok d =>
    obtain ⟨n, l, e⟩ := d
    have hf := text_form h
    have hll := text_len (by omega) h
    have := qread_good s n l e _ _ w (qdof_good w hsm h) (fun W => qflo_w n l e W hf (by show l.length < _; have : l.length ≤ _ := hll; omega))
    simp only
    by_cases hi : near64 l e = 9218868437227405312
    · rw [if_pos hi, if_pos hi] at this
      rw [if_pos hi]; exact this
    · rw [if_neg hi, if_neg hi] at this
      rw [if_neg hi]; exact this
end Go.Proofs.YtabmalnandbocaaDoor.Rsc
namespace Go.Proofs.YtabmalnandbocaaDoor.Rsc
set_option exponentiation.threshold 3000
set_option linter.unusedVariables false
set_option linter.unusedSimpArgs false
set_option exponentiation.threshold 3000
open Go.RowKit Go.Proofs.YtabmalnandbocaaDoor.Mem Go.Proofs.YtabmalnandbocaaDoor.Own Go.Proofs.YtabmalnandbocaaDoor.Num Go.Proofs.YtabmalnandbocaaDoor.Str Go.Proofs.YtabmalnandbocaaDoor.Big Go.Proofs.YtabmalnandbocaaDoor.Dg Go.Proofs.YtabmalnandbocaaDoor.Rdr
open Ieee (double single)
theorem half_read : flF [45, 48, 46, 53] = (13826050856027422720, 0) := by
  have hw : writeF true [53] (-1) = [45, 48, 46, 53] := by
    show [45] ++ bodyF [53] (-1) = _
    unfold bodyF
    rw [if_neg (by decide), if_neg (by decide), if_neg (by decide), if_pos (by decide)]
    rfl
  have hn : near64 [53] (-1) = 4602678819172646912 := by decide +kernel
  have hf : Num.Form [53] (-1) := .inr ⟨by simp, ⟨by unfold isDigs; decide, fun c hc => by cases hc; decide, fun c hc => by cases hc; decide⟩, by decide, by decide⟩
  have ht : textF [45, 48, 46, 53] = .ok (true, [53], -1) := by rw [← hw]; exact text_back true hf
  unfold flF
  rw [ht]
  simp only
  rw [hn, if_neg (by decide)]
  rfl
theorem flF_ok (l : List UInt8) : ∃ s n, n < double.infRung ∧ (flF l).1 = double.word s n := by
  unfold flF
  split
  · exact ⟨false, 0, by decide, rfl⟩
  · rename_i n d e _
    by_cases h : near64 d e = 9218868437227405312
    · rw [if_pos h]; exact ⟨false, 0, by decide, rfl⟩
    · have hle : near64 d e ≤ 9218868437227405312 := refF_le _ _ _ _ _
      have hlt : near64 d e < double.infRung := by rw [inf_num]; omega
      rw [if_neg h]; exact ⟨n, near64 d e, hlt, rfl⟩
set_option maxHeartbeats 4000000 in
set_option maxRecDepth 100000 in
theorem reads_any (s : ByteArray) (x : Nat) (sg : Bool) (n : Nat) (c : Int) (w : World) (hn : n < double.infRung) (hx : x = double.word sg n)
    (h0 : ∀ W, Calls Tryd.prog 8 #[.string ⟨#[45, 48, 46, 53]⟩] W (FlPost W 13826050856027422720 0))
    (h1 : ∀ W, Calls Tryd.prog 8 #[.string s] W (FlPost W x c))
    (h2 : ∀ W, Calls Tryd.prog 9 #[.string s] W (FlPost W x c)) :
    Calls Tryd.prog 4 #[.string s] w (LwPost w) := by
  have HS := Lib.hid (fun W => same_w sg n W hn)
  rw [← hx] at HS
  have H0 := Lib.hid h0
  have H1 := Lib.hid h1
  have H2 := Lib.hid h2
  clear h0 h1 h2 hx hn
  go_enter Tryd.func4, Tryd.ntmps4
  go_wp2_with fail
  refine (H0.out _).mono ?_
  rintro en w1 ⟨rfl, b1⟩
  have B1 := Lib.hid b1
  clear b1
  go_wp2_with fail
  refine (H1.out _).mono ?_
  rintro en w2 ⟨rfl, b2⟩
  have B2 := Lib.hid (bthen B1.out b2)
  clear b2
  go_wp2_with fail
  refine (H2.out _).mono ?_
  rintro en w3 ⟨rfl, b3⟩
  have B3 := Lib.hid (bthen B2.out b3)
  clear b3
  go_wp2_with fail
  refine (HS.out _).mono ?_
  rintro en w4 ⟨rfl, hw4⟩
  subst hw4
  go_wp2_with fail
  go_ret
  exact ⟨rfl, B3.out⟩
theorem shortestReads_w (s : ByteArray) (w : World) (hsm : s.size < 140737488355328) : Calls Tryd.prog 4 #[.string s] w (LwPost w) := by
  obtain ⟨sg, n, hn, hx⟩ := flF_ok s.data.toList
  refine reads_any s _ sg n _ w hn hx (fun W => ?_) (fun W => sread_w s W hsm) (fun W => qread_w s W hsm)
  have h := sread_w ⟨#[45, 48, 46, 53]⟩ W (by decide)
  rw [show ((⟨#[45, 48, 46, 53]⟩ : ByteArray).data.toList) = [45, 48, 46, 53] from rfl, half_read] at h
  exact h
end Go.Proofs.YtabmalnandbocaaDoor.Rsc
