/- Chapters 13 and 14 (floats, shortest): contracts of the reference's plus, Make, Cmp, about, comes. No conditions beside those that each contract names. -/
import Derived.Test.YtabmalnandbocaaGreatDoorMS
import Derived.Test.YtabmalnandbocaaGreatDoorMP
import Derived.Laws.Strings2
import Derived.Test.YtabmalnandbocaaGreatDoorMN
import Derived.WalkLawsBesides
import Derived.Deep.QuietTactic
import Derived.BigQuiet
import Derived.Deep.RegionHeld3
import Derived.Test.YtabmalnandbocaaGreatDoorMH
import Derived.RegionTactic
namespace Go.Proofs.YtabmalnandbocaaGreatDoor.Num
set_option exponentiation.threshold 3000
set_option linter.unusedVariables false
set_option linter.unusedSimpArgs false
set_option exponentiation.threshold 3000
open Go.RowKit Go.Proofs.YtabmalnandbocaaGreatDoor.Mem Go.Proofs.YtabmalnandbocaaGreatDoor.Own Go.Proofs.YtabmalnandbocaaGreatDoor.Big Go.Proofs.YtabmalnandbocaaGreatDoor.Str
theorem cons_str (c : UInt8) (L : List UInt8) : (⟨#[c]⟩ : ByteArray) ++ ⟨L.toArray⟩ = ⟨(c :: L).toArray⟩ := by
  apply ByteArray.ext
  simp
/-- Digits with one more. -/
def PsPost (w : World) (l : List UInt8) (en : Ending) (w' : World) : Prop := ∃ L : List UInt8, en = .returned (.string ⟨L.toArray⟩) ∧ isDigs L ∧ dval L = dval l + 1 ∧ L.length ≤ l.length + 1 ∧ L ≠ [] ∧ Below w.heap.size w w'
theorem carr_stop' {l : List UInt8} {n k : Nat} (h : isDigs l) (hn : n ≤ l.length) (hk : k < n) (hkl : k < l.length) (hc : (l[k]'hkl).toNat ≤ 56) :
    isDigs ((carr l n (k + 1)).set k (l[k]'hkl + 1)) ∧ dval ((carr l n (k + 1)).set k (l[k]'hkl + 1)) = (dval (l.take (k + 1)) + 1) * 10 ^ (n - (k + 1)) ∧ ((carr l n (k + 1)).set k (l[k]'hkl + 1)).length = n := by
  have h48 := (h (l[k]'hkl) (List.getElem_mem _)).1
  have hb := byte_one (c := l[k]'hkl) (by omega)
  rw [carr_set _ hn hk]
  refine ⟨fun c hc' => ?_, ?_, by simp; omega⟩
  · rw [List.mem_append, List.mem_append] at hc'
    rcases hc' with (hc' | hc') | hc'
    · exact h c (List.mem_of_mem_take hc')
    · rw [List.mem_singleton.1 hc', hb]; omega
    · rw [(List.mem_replicate.1 hc').2]; decide
  · rw [carry_stop (l.take k) (l[k]'hkl) (n - (k + 1)) ⟨h48, hc⟩, List.take_succ_eq_append_getElem hkl]
set_option maxHeartbeats 8000000 in
set_option maxRecDepth 100000 in
theorem rplus_w (s : ByteArray) (w : World) (hd : isDigs s.data.toList) (hsm : s.size < 140737488355327) :
    Calls Tryz.prog 46 #[.string s] w (PsPost w s.data.toList) := by
  have hlen : s.data.toList.length = s.size := by simp
  have HLEN := Lib.hid hlen
  obtain ⟨cap, W1, hcv, b1, hz1, hr1⟩ := conv_in s w
  have HB1 := Lib.hid hr1
  have HBel1 := Lib.hid b1
  have HDG := Lib.hid hd
  clear hr1 b1 hlen hz1 hd
  go_enter Tryz.func46, Tryz.ntmps46
  go_wp2_with fail
  go_loopw [4] (fun i wl => ∃ j : Nat, j ≤ s.size ∧ i = .int .i64 ((j : Int) - 1) ∧ Hid ((dval (s.data.toList.take j) + 1) * 10 ^ (s.size - j) = dval s.data.toList + 1) ∧ Hid (BRow wl w.heap.size (carr s.data.toList s.size j)) ∧ Hid (Below w.heap.size w wl)) (fun i _ => (intOf i + 1).toNat)
  case atStart =>
    have e : s.data.toList.take s.size = s.data.toList := List.take_of_length_le (by rw [HLEN.out]; exact Nat.le_refl _)
    refine ⟨s.size, Nat.le_refl _, rfl, Lib.hid ?_, Lib.hid ?_, HBel1⟩
    · rw [e, Nat.sub_self]; simp
    · unfold carr; rw [e, Nat.sub_self]; simpa using HB1.out
  case round =>
    obtain ⟨j, hj, rfl, HD0, HBW, HBel⟩ := hrel
    have hLn : (carr s.data.toList s.size j).length = s.size := carr_len (by have := HLEN.out; omega) hj
    by_cases hj0 : j = 0
    · have t1 : decide (0 ≤ (j : Int) - 1) = false := decide_eq_false (by omega)
      have t2 : (j : Int) < 1 := by omega
      have HOUT := Lib.hid (show (dval (s.data.toList.take 0) + 1) * 10 ^ (s.size - 0) = dval s.data.toList + 1 by rw [← hj0]; exact HD0.out)
      rw [hj0] at HBW
      have hco := conv_out wr w.heap.size cap (carr s.data.toList s.size 0) HBW.out.2.1 s.size (by rw [carr_len (by have := HLEN.out; omega) (Nat.zero_le _)])
      have HCO := Lib.hid (carr_out (l := s.data.toList) s.size)
      have HLN := Lib.hid (show (carr s.data.toList s.size 0).length = s.size from carr_len (by have := HLEN.out; omega) (Nat.zero_le _))
      have hLb : 1 + (carr s.data.toList s.size 0).length ≤ 9223372036854775807 := by rw [HLN.out]; omega
      clear hj0 hLn
      generalize carr s.data.toList s.size 0 = L at *
      go_wp2_with fail
      go_ret
      exact ⟨49 :: L, by rw [← cons_str]; rfl, HCO.out.1, HCO.out.2.1.trans HOUT.out, by rw [List.length_cons, HLN.out, HLEN.out]; exact Nat.le_refl _, by simp, HBel.out⟩
    · obtain ⟨k, rfl⟩ : ∃ k, j = k + 1 := ⟨j - 1, by omega⟩
      rw [show (((k + 1 : Nat) : Int)) - 1 = (k : Int) by omega]
      have hkl : k < s.data.toList.length := by have := HLEN.out; omega
      have hcell : wr.cell? ⟨w.heap.size, k, none⟩ = some (.int .u8 ((s.data.toList[k]'hkl).toNat : Int)) := by
        have := HBW.out.2.1 k (by rw [hLn]; omega)
        rw [carr_at (by have := HLEN.out; omega) (by omega)] at this
        exact this
      have hfr := HBW.out.2.2 k (by rw [hLn]; omega)
      have hdg := HDG.out (s.data.toList[k]'hkl) (List.getElem_mem _)
      by_cases h57 : (s.data.toList[k]'hkl).toNat = 57
      · have hset2 := HBW.out.set k 48 (by rw [hLn]; omega)
        rw [← List.set_set (a := s.data.toList[k]'hkl + 1), carr_next _ (by have := HLEN.out; omega) (by omega)] at hset2
        have HS := Lib.hid hset2
        have HD1 := Lib.hid (show (dval (s.data.toList.take k) + 1) * 10 ^ (s.size - k) = dval s.data.toList + 1 by
          have h0 := HD0.out
          rw [List.take_succ_eq_append_getElem hkl, show s.data.toList[k]'hkl = 57 from UInt8.toNat_inj.1 h57, carry_on] at h0
          rw [← h0, show s.size - k = s.size - (k + 1) + 1 by omega])
        have HBel2 := Lib.hid (HBel.out.setCell (p := ⟨w.heap.size, k, none⟩) (Nat.le_refl _) (.int .u8 48))
        have hx1 : (56 : Int) < ((s.data.toList[k]'hkl).toNat : Int) := by omega
        have hx2 : ((s.data.toList[k]'hkl).toNat : Int) ≤ 57 := by omega
        clear hset2 h57 hLn HBW HD0
        generalize s.data.toList[k]'hkl = c at *
        have t1 : decide ((c.toNat : Int) < 57) = false := decide_eq_false (by omega)
        go_wp2_with fail
        go_roundw
        case rel => exact ⟨k, by omega, rfl, HD1, HS, HBel2⟩
        case measure => simp [intOf]
      · have hset := HBW.out.set k (s.data.toList[k]'hkl + 1) (by rw [hLn]; omega)
        rw [show ((((s.data.toList[k]'hkl + 1).toNat : Nat)) : Int) = ((s.data.toList[k]'hkl).toNat : Int) + 1 by rw [byte_one hdg.2]; rfl] at hset
        have HST := Lib.hid (carr_stop' HDG.out (n := s.size) (k := k) (by have := HLEN.out; omega) (by omega) hkl (by omega))
        have hco := conv_out (wr.setCell ⟨w.heap.size, k, none⟩ (.int .u8 (((s.data.toList[k]'hkl).toNat : Int) + 1))) w.heap.size cap _ hset.2.1 s.size HST.out.2.2.symm
        have HBel2 := Lib.hid (HBel.out.setCell (p := ⟨w.heap.size, k, none⟩) (Nat.le_refl _) (.int .u8 (((s.data.toList[k]'hkl).toNat : Int) + 1)))
        have hx1 : ((s.data.toList[k]'hkl).toNat : Int) ≤ 56 := by omega
        clear hset hLn HBW h57
        generalize (carr s.data.toList s.size (k + 1)).set k (s.data.toList[k]'hkl + 1) = L at *
        generalize s.data.toList[k]'hkl = c at *
        have t1 : decide ((c.toNat : Int) < 57) = true := decide_eq_true (by omega)
        go_wp2_with fail
        go_ret
        exact ⟨L, rfl, HST.out.1, HST.out.2.1.trans HD0.out, by rw [HST.out.2.2, HLEN.out]; omega, by intro h; rw [h] at HST; have := HST.out.2.2; simp at this; omega, HBel2.out⟩
set_option maxHeartbeats 8000000 in
set_option maxRecDepth 100000 in
theorem lplus_w (s : ByteArray) (w : World) (hd : isDigs s.data.toList) (hsm : s.size < 140737488355327) :
    Calls Tryz.prog 27 #[.string s] w (PsPost w s.data.toList) := by
  have hlen : s.data.toList.length = s.size := by simp
  have HLEN := Lib.hid hlen
  obtain ⟨cap, W1, hcv, b1, hz1, hr1⟩ := conv_in s w
  have HB1 := Lib.hid hr1
  have HBel1 := Lib.hid b1
  have HDG := Lib.hid hd
  clear hr1 b1 hlen hz1 hd
  go_enter Tryz.func27, Tryz.ntmps27
  go_wp2_with fail
  go_loopw [4] (fun i wl => ∃ j : Nat, j ≤ s.size ∧ i = .int .i64 ((j : Int) - 1) ∧ Hid ((dval (s.data.toList.take j) + 1) * 10 ^ (s.size - j) = dval s.data.toList + 1) ∧ Hid (BRow wl w.heap.size (carr s.data.toList s.size j)) ∧ Hid (Below w.heap.size w wl)) (fun i _ => (intOf i + 1).toNat)
  case atStart =>
    have e : s.data.toList.take s.size = s.data.toList := List.take_of_length_le (by rw [HLEN.out]; exact Nat.le_refl _)
    refine ⟨s.size, Nat.le_refl _, rfl, Lib.hid ?_, Lib.hid ?_, HBel1⟩
    · rw [e, Nat.sub_self]; simp
    · unfold carr; rw [e, Nat.sub_self]; simpa using HB1.out
  case round =>
    obtain ⟨j, hj, rfl, HD0, HBW, HBel⟩ := hrel
    have hLn : (carr s.data.toList s.size j).length = s.size := carr_len (by have := HLEN.out; omega) hj
    by_cases hj0 : j = 0
    · have t1 : decide (0 ≤ (j : Int) - 1) = false := decide_eq_false (by omega)
      have t2 : (j : Int) < 1 := by omega
      have HOUT := Lib.hid (show (dval (s.data.toList.take 0) + 1) * 10 ^ (s.size - 0) = dval s.data.toList + 1 by rw [← hj0]; exact HD0.out)
      rw [hj0] at HBW
      have hco := conv_out wr w.heap.size cap (carr s.data.toList s.size 0) HBW.out.2.1 s.size (by rw [carr_len (by have := HLEN.out; omega) (Nat.zero_le _)])
      have HCO := Lib.hid (carr_out (l := s.data.toList) s.size)
      have HLN := Lib.hid (show (carr s.data.toList s.size 0).length = s.size from carr_len (by have := HLEN.out; omega) (Nat.zero_le _))
      have hLb : 1 + (carr s.data.toList s.size 0).length ≤ 9223372036854775807 := by rw [HLN.out]; omega
      clear hj0 hLn
      generalize carr s.data.toList s.size 0 = L at *
      go_wp2_with fail
      go_ret
      exact ⟨49 :: L, by rw [← cons_str]; rfl, HCO.out.1, HCO.out.2.1.trans HOUT.out, by rw [List.length_cons, HLN.out, HLEN.out]; exact Nat.le_refl _, by simp, HBel.out⟩
    · obtain ⟨k, rfl⟩ : ∃ k, j = k + 1 := ⟨j - 1, by omega⟩
      rw [show (((k + 1 : Nat) : Int)) - 1 = (k : Int) by omega]
      have hkl : k < s.data.toList.length := by have := HLEN.out; omega
      have hcell : wr.cell? ⟨w.heap.size, k, none⟩ = some (.int .u8 ((s.data.toList[k]'hkl).toNat : Int)) := by
        have := HBW.out.2.1 k (by rw [hLn]; omega)
        rw [carr_at (by have := HLEN.out; omega) (by omega)] at this
        exact this
      have hfr := HBW.out.2.2 k (by rw [hLn]; omega)
      have hdg := HDG.out (s.data.toList[k]'hkl) (List.getElem_mem _)
      by_cases h57 : (s.data.toList[k]'hkl).toNat = 57
      · have hset2 := HBW.out.set k 48 (by rw [hLn]; omega)
        rw [← List.set_set (a := s.data.toList[k]'hkl + 1), carr_next _ (by have := HLEN.out; omega) (by omega)] at hset2
        have HS := Lib.hid hset2
        have HD1 := Lib.hid (show (dval (s.data.toList.take k) + 1) * 10 ^ (s.size - k) = dval s.data.toList + 1 by
          have h0 := HD0.out
          rw [List.take_succ_eq_append_getElem hkl, show s.data.toList[k]'hkl = 57 from UInt8.toNat_inj.1 h57, carry_on] at h0
          rw [← h0, show s.size - k = s.size - (k + 1) + 1 by omega])
        have HBel2 := Lib.hid (HBel.out.setCell (p := ⟨w.heap.size, k, none⟩) (Nat.le_refl _) (.int .u8 48))
        have hx1 : (56 : Int) < ((s.data.toList[k]'hkl).toNat : Int) := by omega
        have hx2 : ((s.data.toList[k]'hkl).toNat : Int) ≤ 57 := by omega
        clear hset2 h57 hLn HBW HD0
        generalize s.data.toList[k]'hkl = c at *
        have t1 : decide ((c.toNat : Int) < 57) = false := decide_eq_false (by omega)
        go_wp2_with fail
        go_roundw
        case rel => exact ⟨k, by omega, rfl, HD1, HS, HBel2⟩
        case measure => simp [intOf]
      · have hset := HBW.out.set k (s.data.toList[k]'hkl + 1) (by rw [hLn]; omega)
        rw [show ((((s.data.toList[k]'hkl + 1).toNat : Nat)) : Int) = ((s.data.toList[k]'hkl).toNat : Int) + 1 by rw [byte_one hdg.2]; rfl] at hset
        have HST := Lib.hid (carr_stop' HDG.out (n := s.size) (k := k) (by have := HLEN.out; omega) (by omega) hkl (by omega))
        have hco := conv_out (wr.setCell ⟨w.heap.size, k, none⟩ (.int .u8 (((s.data.toList[k]'hkl).toNat : Int) + 1))) w.heap.size cap _ hset.2.1 s.size HST.out.2.2.symm
        have HBel2 := Lib.hid (HBel.out.setCell (p := ⟨w.heap.size, k, none⟩) (Nat.le_refl _) (.int .u8 (((s.data.toList[k]'hkl).toNat : Int) + 1)))
        have hx1 : ((s.data.toList[k]'hkl).toNat : Int) ≤ 56 := by omega
        clear hset hLn HBW h57
        generalize (carr s.data.toList s.size (k + 1)).set k (s.data.toList[k]'hkl + 1) = L at *
        generalize s.data.toList[k]'hkl = c at *
        have t1 : decide ((c.toNat : Int) < 57) = true := decide_eq_true (by omega)
        go_wp2_with fail
        go_ret
        exact ⟨L, rfl, HST.out.1, HST.out.2.1.trans HD0.out, by rw [HST.out.2.2, HLEN.out]; omega, by intro h; rw [h] at HST; have := HST.out.2.2; simp at this; omega, HBel2.out⟩
end Go.Proofs.YtabmalnandbocaaGreatDoor.Num
namespace Go.Proofs.YtabmalnandbocaaGreatDoor.Num
set_option exponentiation.threshold 3000
set_option linter.unusedVariables false
set_option linter.unusedSimpArgs false
set_option exponentiation.threshold 3000
open Go.RowKit Go.Proofs.YtabmalnandbocaaGreatDoor.Mem Go.Proofs.YtabmalnandbocaaGreatDoor.Own Go.Proofs.YtabmalnandbocaaGreatDoor.Big Go.Proofs.YtabmalnandbocaaGreatDoor.Str
theorem sl_mid (t : ByteArray) (i j : Nat) (h1 : i ≤ j) (h : j ≤ t.size) : ∃ P : ByteArray, (∀ w1 : World, (Instr.slice 9 (.string t) (some (.int .i64 (i : Int))) (some (.int .i64 (j : Int))) none).run Tryz.prog w1 = .ok (.string P) w1) ∧ P.data.toList = (t.data.toList.drop i).take (j - i) ∧ P.size = j - i :=
  ⟨t.extract i j, fun w1 => by rw [run_slice_string (P := Tryz.prog) (w := w1) 9 t .i64 .i64 (i : Int) (j : Int) Tryz.underlying9 (by omega) (by omega) (by omega)]; rfl, by rw [ByteArray.data_extract, Array.toList_extract, List.extract_eq_take_drop], by simp; omega⟩
theorem str_of {P : ByteArray} {l : List UInt8} (h : P.data.toList = l) : P = ⟨l.toArray⟩ := by
  subst h
  apply ByteArray.ext
  simp
theorem Told.cut {s : List UInt8} {N f t : Nat} (hd : isDigs s) (hv : dval s = N) (hft : f < t) (ht : t ≤ s.length) (h1 : ∀ i, i < f → s[i]? = some 48) (h2 : ∀ i, t ≤ i → i < s.length → s[i]? = some 48)
    (h3 : s[f]? ≠ some 48) (h4 : s[t - 1]? ≠ some 48) : Told N ((s.drop f).take (t - f)) (s.length - t) := by
  have e1 : s.take f = List.replicate f 48 := by
    have := rep_of (l := s.take f) (fun i hi => by rw [List.length_take] at hi; rw [List.getElem?_take, if_pos (by omega)]; exact h1 i (by omega))
    rw [List.length_take, Nat.min_eq_left (by omega)] at this
    exact this
  have e2 : s.drop t = List.replicate (s.length - t) 48 := by
    have := rep_of (l := s.drop t) (fun i hi => by rw [List.length_drop] at hi; rw [List.getElem?_drop]; exact h2 (t + i) (by omega) (by omega))
    rw [List.length_drop] at this
    exact this
  refine Told.of (a := f) hd hv ?_ (fun c hc => ?_) (fun c hc => ?_)
  · rw [← e1, ← e2]
    have a1 : s.take f ++ (s.drop f).take (t - f) = s.take t := by
      rw [← List.take_add, show f + (t - f) = t by omega]
    rw [a1, List.take_append_drop]
  · intro he
    apply h3
    rw [List.head?_take, if_neg (by omega), List.head?_drop] at hc
    rw [hc, show c = 48 from UInt8.toNat_inj.1 he]
  · intro he
    apply h4
    have hl : ((s.drop f).take (t - f)).length = t - f := by simp; omega
    rw [List.getLast?_eq_getElem?, hl, List.getElem?_take, if_pos (by omega), List.getElem?_drop, show f + (t - f - 1) = t - 1 by omega] at hc
    rw [hc, show c = 48 from UInt8.toNat_inj.1 he]
/-- What Make answers. -/
def mkV (o : Option (Bool × List UInt8 × Int)) : Value := match o with
  | none => .tuple #[decV false [] 0, .bool false]
  | some (n, l, e) => .tuple #[decV n l e, .bool true]
def MkPost (w : World) (o : Option (Bool × List UInt8 × Int)) (en : Ending) (w' : World) : Prop := en = .returned (mkV o) ∧ Below w.heap.size w w'
theorem made_zero (neg : Bool) {N : Nat} (h : N = 0) (X : Int) : madeF neg N X = some (neg, [], 0) := if_pos h
theorem made_big (neg : Bool) {N : Nat} (h : N ≠ 0) (X : Int) (hb : 1073741824 < te N X ∨ te N X < -1073741824) : madeF neg N X = none := by unfold madeF; rw [if_neg h, if_pos hb]
theorem made_ok (neg : Bool) {N : Nat} (h : N ≠ 0) (X : Int) (hb : ¬ (1073741824 < te N X ∨ te N X < -1073741824)) : madeF neg N X = some (neg, tl N, te N X) := by unfold madeF; rw [if_neg h, if_neg hb]
theorem dval_none {l : List UInt8} (h : ∀ i, i < l.length → l[i]? = some 48) : dval l = 0 := by
  rw [rep_of h]
  have := dval_zeros [] l.length
  rw [List.nil_append] at this
  rw [this]; simp [dval]
set_option maxHeartbeats 8000000 in
set_option maxRecDepth 100000 in
theorem make_w (neg : Bool) (s : ByteArray) (X : Int) (w : World) (hd : isDigs s.data.toList) (hsm : s.size < 140737488355328) (hX1 : -2000000000000000 ≤ X) (hX2 : X ≤ 2000000000000000) :
    Calls Tryz.prog 45 #[.bool neg, .string s, .int .i64 X] w (MkPost w (madeF neg (dval s.data.toList) X)) := by
  have hb0 := Blk.new w 32 #[.bool false, .string ⟨#[]⟩, .int .i64 0]
  have HB0 := Lib.hid hb0
  have B0 := Lib.hid ((Below.refl _ w).alloc (Nat.le_refl _) (.cells #[.bool false, .string ⟨#[]⟩, .int .i64 0] 32))
  have HLEN := Lib.hid (show s.data.toList.length = s.size by simp)
  have HD := Lib.hid hd
  clear hb0 hd
  go_enter Tryz.func45, Tryz.ntmps45
  go_wp2_with fail
  go_loop [8] (fun i => ∃ j : Nat, j ≤ s.size ∧ i = .int .i64 (j : Nat) ∧ Hid (∀ i, i < j → s.data.toList[i]? = some 48)) (fun i => s.size - (intOf i).toNat)
  case atStart => exact ⟨0, Nat.zero_le _, rfl, Lib.hid (fun i hi => by omega)⟩
  case round =>
    obtain ⟨j, hj, rfl, HZ⟩ := hrel
    by_cases hjs : j < s.size
    · by_cases h48 : s[j].toNat = 48
      · have t1 : ((s[j].toNat : Int) == 48) = true := by rw [beq_iff_eq]; omega
        have HZ2 := Lib.hid (show ∀ i, i < j + 1 → s.data.toList[i]? = some 48 from fun i hi => by
          rcases Nat.lt_or_ge i j with h | h
          · exact HZ.out i h
          · obtain rfl : i = j := by omega
            rw [List.getElem?_eq_getElem (by rw [HLEN.out]; exact hjs)]
            exact congrArg some (UInt8.toNat_inj.1 h48))
        clear HZ h48
        go_wp2_with fail
        go_round
        case rel => exact ⟨j + 1, by omega, by go_num, HZ2⟩
        case measure => simp [intOf]; omega
      · have t1 : ((s[j].toNat : Int) == 48) = false := by rw [beq_eq_false_iff_ne]; omega
        have HNE := Lib.hid (show s.data.toList[j]? ≠ some 48 by
          rw [List.getElem?_eq_getElem (by rw [HLEN.out]; exact hjs)]
          intro h; injection h with h; exact h48 (by rw [show s[j] = s.data.toList[j]'(by rw [HLEN.out]; exact hjs) from rfl, h]; rfl))
        clear h48
        go_wp2_with fail
        go_loop [9, 2] (fun tv xv => ∃ t d : Nat, j < t ∧ d + t = s.size ∧ tv = .int .i64 (t : Nat) ∧ xv = .int .i64 (X + (d : Int)) ∧ Hid (∀ i, t ≤ i → i < s.size → s.data.toList[i]? = some 48)) (fun tv _ => (intOf tv).toNat)
        case atStart => exact ⟨s.size, 0, hjs, by omega, rfl, by simp, Lib.hid (fun i h h' => by omega)⟩
        case round =>
          obtain ⟨t, d, ht1, hd, rfl, rfl, HT⟩ := hrel
          have hk : t - 1 < s.size := by omega
          have t9 : (t : Int) - 1 = ((t - 1 : Nat) : Int) := by omega
          have t0 : decide ((j : Int) < (t : Int)) = true := decide_eq_true (by omega)
          by_cases h48 : (s[t - 1]'hk).toNat = 48
          · have t1 : (((s[t - 1]'hk).toNat : Int) == 48) = true := by rw [beq_iff_eq]; omega
            have e48 : s.data.toList[t - 1]? = some 48 := by
              rw [List.getElem?_eq_getElem (by rw [HLEN.out]; exact hk)]
              exact congrArg some (UInt8.toNat_inj.1 h48)
            have hjt : j < t - 1 := by
              rcases Nat.lt_or_ge j (t - 1) with h | h
              · exact h
              · obtain rfl : j = t - 1 := by omega
                exact absurd e48 HNE.out
            have HT2 := Lib.hid (show ∀ i, t - 1 ≤ i → i < s.size → s.data.toList[i]? = some 48 from fun i hi hi2 => by
              rcases Nat.lt_or_ge i t with h | h
              · obtain rfl : i = t - 1 := by omega
                exact e48
              · exact HT.out i h hi2)
            clear e48 h48 HT
            go_wp2_with (simp only [t9])
            go_round
            case rel => exact ⟨t - 1, d + 1, hjt, by omega, by go_num, by go_num, HT2⟩
            case measure => simp [intOf]; omega
          · have t1 : (((s[t - 1]'hk).toNat : Int) == 48) = false := by rw [beq_eq_false_iff_ne]; omega
            have e48 : s.data.toList[t - 1]? ≠ some 48 := by
              rw [List.getElem?_eq_getElem (by rw [HLEN.out]; exact hk)]
              intro h; injection h with h; exact h48 (by rw [show s[t - 1]'hk = s.data.toList[t - 1]'(by rw [HLEN.out]; exact hk) from rfl, h]; rfl)
            have hT := Told.cut HD.out rfl ht1 (by rw [HLEN.out]; omega) HZ.out (fun i h1 h2 => HT.out i h1 (by rw [HLEN.out] at h2; exact h2)) HNE.out e48
            rw [HLEN.out, show s.size - t = d by omega] at hT
            have hN : dval s.data.toList ≠ 0 := by
              intro h0
              have h1 := hT
              rw [h0] at h1
              have := h1.zero
              have h2 := congrArg List.length this
              rw [List.length_take, List.length_drop, HLEN.out] at h2
              simp at h2; omega
            obtain ⟨o1, o2⟩ := hT.tl
            have o3 := o2 X
            rw [if_neg (hT.ne hN)] at o3
            obtain ⟨P, hP, hPl, hPs⟩ := sl_mid s j t (by omega) (by omega)
            obtain rfl := str_of (hPl.trans o1)
            have HN := Lib.hid hN
            have HT3 := Lib.hid o3
            have t3 : ((j : Int) == (t : Int)) = false := by rw [beq_eq_false_iff_ne]; omega
            have HPS := Lib.hid hPs
            clear h48 e48 HT HZ HNE hT o1 o2 o3 hN hPl hPs
            generalize dval s.data.toList = N at *
            by_cases hbig : 1073741824 < X + (d : Int)
            · have t4 : decide (1073741824 < X + (d : Int)) = true := decide_eq_true hbig
              have HV := Lib.hid (made_big neg HN.out X (.inl (by rw [← HT3.out]; exact hbig)))
              clear hbig
              go_wp2_with (simp only [t9])
              refine bodyPost_ret (v := .tuple #[decV false [] 0, .bool false]) (by simp [results, Tryz.results45, go_sem]) rfl ⟨?_, B0.out⟩
              rw [HV.out]; rfl
            · by_cases hlow : X + (d : Int) < -1073741824
              · have t4 : decide (1073741824 < X + (d : Int)) = false := decide_eq_false hbig
                have t5 : decide (X + (d : Int) < -1073741824) = true := decide_eq_true hlow
                have HV := Lib.hid (made_big neg HN.out X (.inr (by rw [← HT3.out]; exact hlow)))
                clear hbig hlow
                go_wp2_with (simp only [t9])
                refine bodyPost_ret (v := .tuple #[decV false [] 0, .bool false]) (by simp [results, Tryz.results45, go_sem]) rfl ⟨?_, B0.out⟩
                rw [HV.out]; rfl
              · have t4 : decide (1073741824 < X + (d : Int)) = false := decide_eq_false hbig
                have t5 : decide (X + (d : Int) < -1073741824) = false := decide_eq_false hlow
                have HV := Lib.hid (made_ok neg HN.out X (by rw [← HT3.out]; omega))
                rw [← HT3.out] at HV
                clear hbig hlow
                generalize tl N = L at *
                go_wp2_with (simp only [t9])
                have hk1 := Blk.new w 32 #[.bool neg, .string ⟨L.toArray⟩, .int .i64 (X + (d : Int))]
                have hbf := (Below.refl _ w).alloc (Nat.le_refl _) (.cells #[.bool neg, .string ⟨L.toArray⟩, .int .i64 (X + (d : Int))] 32)
                generalize w.alloc (.cells #[.bool neg, .string ⟨L.toArray⟩, .int .i64 (X + (d : Int))] 32) = Wf at hk1 hbf ⊢
                have q0 : Wf.cell? ⟨w.heap.size, 0, none⟩ = some (.bool neg) := hk1.cell 0
                have q1 : Wf.cell? ⟨w.heap.size, 1, none⟩ = some (.string ⟨L.toArray⟩) := hk1.cell 1
                have q2 : Wf.cell? ⟨w.heap.size, 2, none⟩ = some (.int .i64 (X + (d : Int))) := hk1.cell 2
                refine bodyPost_ret (v := .tuple #[decV neg L (X + (d : Int)), .bool true]) (by simp [results, Tryz.results45, go_sem, q0, q1, q2]) rfl ⟨?_, hbf⟩
                rw [HV.out]; rfl
    · obtain rfl : j = s.size := by omega
      have HN := Lib.hid (made_zero neg (dval_none (fun i hi => HZ.out i (by rw [HLEN.out] at hi; exact hi))) X)
      clear hjs HZ
      go_wp2_with fail
      refine wp_loop_rounds 1 ?_
      rw [rounds_succ]
      go_wp2_with fail
      have hk1 := Blk.new w 32 #[.bool neg, .string ⟨([] : List UInt8).toArray⟩, .int .i64 0]
      have hbf := (Below.refl _ w).alloc (Nat.le_refl _) (.cells #[.bool neg, .string ⟨([] : List UInt8).toArray⟩, .int .i64 0] 32)
      refine bodyPost_ret (v := .tuple #[decV neg [] 0, .bool true]) (by simp [results, Tryz.results45, go_sem]) rfl ⟨?_, hbf⟩
      rw [HN.out]; rfl
end Go.Proofs.YtabmalnandbocaaGreatDoor.Num
namespace Go.Proofs.YtabmalnandbocaaGreatDoor.Num
set_option exponentiation.threshold 3000
set_option linter.unusedVariables false
set_option linter.unusedSimpArgs false
set_option exponentiation.threshold 3000
open Go.RowKit Go.Proofs.YtabmalnandbocaaGreatDoor.Mem Go.Proofs.YtabmalnandbocaaGreatDoor.Own Go.Proofs.YtabmalnandbocaaGreatDoor.Big Go.Proofs.YtabmalnandbocaaGreatDoor.Str
theorem gtr_cb : ∀ l m : List UInt8, (!(Op.bytesLess l m || l == m)) = decide (Lib.compareBytes l m = 1) := by
  intro l
  induction l with
  | nil => intro m; cases m <;> rfl
  | cons a l ih =>
    intro m
    cases m with
    | nil => rfl
    | cons b m =>
      unfold Op.bytesLess Lib.compareBytes
      by_cases h1 : a < b
      · simp [h1]
      · by_cases h2 : b < a
        · have hne : a ≠ b := fun e => by rw [e] at h2; exact absurd h2 (UInt8.lt_irrefl b)
          simp [h1, h2, hne]
        · have hab : a = b := UInt8.le_antisymm (UInt8.not_lt.1 h2) (UInt8.not_lt.1 h1)
          subst hab
          have := ih m
          simp only [h1, if_false, decide_false, Bool.false_or, beq_self_eq_true, Bool.true_and, List.cons_beq_cons]
          exact this
set_option maxHeartbeats 4000000 in
theorem above_w (na : Bool) (sa : ByteArray) (ea : Int) (nb : Bool) (sb : ByteArray) (eb : Int) (w : World) (hza : sa.size < 140737488355328) (hzb : sb.size < 140737488355328) (ha1 : -1073741824 ≤ ea) (ha2 : ea ≤ 1073741824) (hb1 : -1073741824 ≤ eb) (hb2 : eb ≤ 1073741824) :
    Calls Tryz.prog 108 #[.agg #[.bool na, .string sa, .int .i64 ea], .agg #[.bool nb, .string sb, .int .i64 eb]] w (NrPost w (decide (bcmp sa.data.toList ea sb.data.toList eb = 1))) := by
  have hla : sa.data.toList.length = sa.size := by simp
  have hlb : sb.data.toList.length = sb.size := by simp
  have hk1 := (Blk.new w 32 #[.bool na, .string sa, .int .i64 ea]).alloc (.cells #[.bool nb, .string sb, .int .i64 eb] 32)
  have hk2 := Blk.new (w.alloc (.cells #[.bool na, .string sa, .int .i64 ea] 32)) 32 #[.bool nb, .string sb, .int .i64 eb]
  have c1 := hk1.cell 1
  have c2 := hk1.cell 2
  have d1 := hk2.cell 1
  have d2 := hk2.cell 2
  simp at c1 c2 d1 d2
  have B2 := Lib.hid (((Below.refl _ w).alloc (Nat.le_refl _) (.cells #[.bool na, .string sa, .int .i64 ea] 32)).alloc (by simp) (.cells #[.bool nb, .string sb, .int .i64 eb] 32))
  have hgs : (!Op.bytesLess sa.toList sb.toList && !sa.toList == sb.toList) = decide (Lib.compareBytes sa.data.toList sb.data.toList = 1) := by
    rw [ByteArray.toList_eq, ByteArray.toList_eq, ← gtr_cb]; simp [Bool.not_or]
  have hbc : decide (bcmp sa.data.toList ea sb.data.toList eb = 1) = if (sa.size : Int) + ea ≠ (sb.size : Int) + eb then decide ((sb.size : Int) + eb < (sa.size : Int) + ea) else decide (Lib.compareBytes sa.data.toList sb.data.toList = 1) := by
    unfold bcmp
    rw [hla, hlb]
    unfold Lib.compareInt
    generalize (sa.size : Int) + ea = x
    generalize (sb.size : Int) + eb = y
    generalize Lib.compareBytes sa.data.toList sb.data.toList = z
    rcases Int.lt_trichotomy x y with h | h | h
    · have a : ¬ y < x := by omega
      have b : x ≠ y := by omega
      simp [h, a, b]
    · subst h
      simp
    · have a : ¬ x < y := by omega
      have b : x ≠ y := by omega
      simp [h, a, b]
  have HBC := Lib.hid hbc
  have HGS := Lib.hid hgs
  clear hla hlb hk1 hk2 hgs hbc
  have hw1 : IntKind.i64.wrap ((sa.size : Int) + ea) = (sa.size : Int) + ea := IntWalk.i64_in _ (by omega)
  have hw2 : IntKind.i64.wrap ((sb.size : Int) + eb) = (sb.size : Int) + eb := IntWalk.i64_in _ (by omega)
  generalize bcmp sa.data.toList ea sb.data.toList eb = bc at *
  generalize Lib.compareBytes sa.data.toList sb.data.toList = cb at *
  by_cases hpq : (sa.size : Int) + ea = (sb.size : Int) + eb
  · have t1 : (((sa.size : Int) + ea) != ((sb.size : Int) + eb)) = false := by rw [bne_eq_false_iff_eq]; exact hpq
    have HV := Lib.hid (HBC.out.trans (if_neg (by simpa using hpq)))
    clear hpq
    go_enter Tryz.func108, Tryz.ntmps108
    go_wp2_with fail
    go_quiet (fail)
    clear hw1 hw2
    go_wp2_with fail
    go_ret
    exact ⟨congrArg (fun b => Ending.returned (.bool b)) (HGS.out.trans HV.out.symm), bdrewN B2.out _⟩
  · have t1 : (((sa.size : Int) + ea) != ((sb.size : Int) + eb)) = true := by rw [bne_iff_ne]; exact hpq
    have HV := Lib.hid (HBC.out.trans (if_pos hpq))
    clear hpq
    go_enter Tryz.func108, Tryz.ntmps108
    go_wp2_with fail
    go_quiet (fail)
    clear hw1 hw2
    go_wp2_with fail
    go_ret
    exact ⟨congrArg (fun b => Ending.returned (.bool b)) HV.out.symm, bdrewN B2.out _⟩
set_option maxHeartbeats 1000000 in
theorem rsign_w (s : ByteArray) (e : Int) (w : World) (h : s.data.toList ≠ []) : Calls Tryz.prog 107 #[.agg #[.bool false, .string s, .int .i64 e]] w (fun en w' => en = .returned (.int .i64 1) ∧ Below w.heap.size w w') := by
  have h0 : 0 < s.size := by
    have hl : s.data.toList.length = s.size := by simp
    have : s.data.toList.length ≠ 0 := fun e => h (List.eq_nil_of_length_eq_zero e)
    omega
  have t1 : ((s.size : Int) == 0) = false := by rw [beq_eq_false_iff_ne]; omega
  clear h
  go_enter Tryz.func107, Tryz.ntmps107
  go_wp2_with fail
  go_ret
  exact ⟨rfl, (Below.refl _ w).alloc (Nat.le_refl _) _⟩
end Go.Proofs.YtabmalnandbocaaGreatDoor.Num
namespace Go.Proofs.YtabmalnandbocaaGreatDoor.Num
set_option exponentiation.threshold 3000
set_option linter.unusedVariables false
set_option linter.unusedSimpArgs false
set_option exponentiation.threshold 3000
open Go.RowKit Go.Proofs.YtabmalnandbocaaGreatDoor.Mem Go.Proofs.YtabmalnandbocaaGreatDoor.Own Go.Proofs.YtabmalnandbocaaGreatDoor.Big Go.Proofs.YtabmalnandbocaaGreatDoor.Str
def RcPost (w : World) (z : Int) (en : Ending) (w' : World) : Prop := en = .returned (.tuple #[.int .i64 z, .int .i64 0]) ∧ Below w.heap.size w w'
theorem cmpI_swap (x y : Nat) : decide (cmpI y x = 1) = decide (cmpI x y = -1) := by
  rcases Nat.lt_trichotomy x y with h | h | h
  · rw [cmpI_g h, cmpI_l h]; rfl
  · rw [cmpI_e h, cmpI_e h.symm]; rfl
  · rw [cmpI_l h, cmpI_g h]; rfl
theorem cmpI_cases (x y : Nat) : cmpI x y = -1 ∨ cmpI x y = 0 ∨ cmpI x y = 1 := by
  rcases Nat.lt_trichotomy x y with h | h | h
  · exact .inl (cmpI_l h)
  · exact .inr (.inl (cmpI_e h))
  · exact .inr (.inr (cmpI_g h))
theorem rformed_yes (neg : Bool) (s : ByteArray) (e : Int) (w : World) (hsm : s.size < 140737488355328) (hf : Form s.data.toList e) :
    Calls Tryz.prog 106 #[.agg #[.bool neg, .string s, .int .i64 e]] w (NrPost w true) := by
  refine (rformed_w neg s e w hsm).mono fun en w' h => ?_
  obtain ⟨b, rfl, hb, hbel⟩ := h
  exact ⟨by rw [hb.2 hf], hbel⟩
set_option maxHeartbeats 8000000 in
set_option maxRecDepth 100000 in
theorem rcmp_w (sa : ByteArray) (ea : Int) (sb : ByteArray) (eb : Int) (w : World) (ha : Form sa.data.toList ea) (hb : Form sb.data.toList eb) (ha0 : sa.data.toList ≠ []) (hb0 : sb.data.toList ≠ []) (hza : sa.size < 140737488355328) (hzb : sb.size < 140737488355328) :
    Calls Tryz.prog 76 #[.agg #[.bool false, .string sa, .int .i64 ea], .agg #[.bool false, .string sb, .int .i64 eb]] w (RcPost w (dcmp false sa.data.toList ea false sb.data.toList eb)) := by
  obtain ⟨hca, ha1, ha2⟩ := ha.canon
  obtain ⟨hcb, hb1, hb2⟩ := hb.canon
  have HFA := Lib.hid (fun W => rformed_yes false sa ea W hza ha)
  have HFB := Lib.hid (fun W => rformed_yes false sb eb W hzb hb)
  have HSA := Lib.hid (fun W => rsign_w sa ea W ha0)
  have HSB := Lib.hid (fun W => rsign_w sb eb W hb0)
  have hab := fun W => above_w false sa ea false sb eb W hza hzb ha1 ha2 hb1 hb2
  have hba := fun W => above_w false sb eb false sa ea W hzb hza hb1 hb2 ha1 ha2
  rw [bcmp_is hca hcb ha0 hb0] at hab
  rw [bcmp_is hcb hca hb0 ha0, cmpI_swap] at hba
  rw [dcmp_pos]
  have hcs := cmpI_cases (rN sa.data.toList ea * rD eb) (rN sb.data.toList eb * rD ea)
  generalize cmpI (rN sa.data.toList ea * rD eb) (rN sb.data.toList eb * rD ea) = Z at *
  have HAB := Lib.hid hab
  have HBA := Lib.hid hba
  have hk1 := ((Blk.new w 32 #[.bool false, .string sa, .int .i64 ea]).alloc (.cells #[.bool false, .string sb, .int .i64 eb] 32))
  have HK1 := Lib.hid hk1
  have hk2 := Blk.new (w.alloc (.cells #[.bool false, .string sa, .int .i64 ea] 32)) 32 #[.bool false, .string sb, .int .i64 eb]
  simp at hk2
  have HK2 := Lib.hid hk2
  have B2 := Lib.hid (((Below.refl _ w).alloc (Nat.le_refl _) (.cells #[.bool false, .string sa, .int .i64 ea] 32)).alloc (by simp) (.cells #[.bool false, .string sb, .int .i64 eb] 32))
  have HCS := Lib.hid hcs
  clear hab hba hk1 hk2 ha hb ha0 hb0 hca hcb hcs
  go_enter Tryz.func76, Tryz.ntmps76
  go_wp2_with fail
  refine (HFA.out _).mono ?_
  rintro en w1 ⟨rfl, b1⟩
  have K1 := Lib.hid (HK1.out.below b1 HK1.out.lt)
  have K2 := Lib.hid (HK2.out.below b1 HK2.out.lt)
  have B3 := Lib.hid (bthen B2.out b1)
  have c0 := K2.out.cell 0
  have c1 := K2.out.cell 1
  have c2 := K2.out.cell 2
  simp at c0 c1 c2
  clear b1
  go_wp2_with fail
  refine (HFB.out _).mono ?_
  rintro en w2 ⟨rfl, b2⟩
  have L1 := Lib.hid (K1.out.below b2 K1.out.lt)
  have L2 := Lib.hid (K2.out.below b2 K2.out.lt)
  have B4 := Lib.hid (bthen B3.out b2)
  clear c0 c1 c2 b2
  have a0 : w2.cell? ⟨w.heap.size, 0, none⟩ = some (.bool false) := L1.out.cell 0
  have a1 : w2.cell? ⟨w.heap.size, 1, none⟩ = some (.string sa) := L1.out.cell 1
  have a2 : w2.cell? ⟨w.heap.size, 2, none⟩ = some (.int .i64 ea) := L1.out.cell 2
  have d0 : w2.cell? ⟨w.heap.size + 1, 0, none⟩ = some (.bool false) := L2.out.cell 0
  have d1 : w2.cell? ⟨w.heap.size + 1, 1, none⟩ = some (.string sb) := L2.out.cell 1
  have d2 : w2.cell? ⟨w.heap.size + 1, 2, none⟩ = some (.int .i64 eb) := L2.out.cell 2
  go_wp2_with fail
  refine wp_region_held_drew (S := (fun w' => w'.cell? ⟨w.heap.size, 0, none⟩ = some (.bool false) ∧ w'.cell? ⟨w.heap.size, 1, none⟩ = some (.string sa) ∧ w'.cell? ⟨w.heap.size, 2, none⟩ = some (.int .i64 ea) ∧ w'.cell? ⟨w.heap.size + 1, 0, none⟩ = some (.bool false) ∧ w'.cell? ⟨w.heap.size + 1, 1, none⟩ = some (.string sb) ∧ w'.cell? ⟨w.heap.size + 1, 2, none⟩ = some (.int .i64 eb))) (by kernel_rfl) ?_ (fun hHeld => ?_)
  · exact ⟨a0, a1, a2, d0, d1, d2⟩
  refine wpAnyH_take (i := 0) (oi := _) (v := ?_) rfl (by kernel_rfl) (by kernel_rfl) (by kernel_rfl) (fun _ _ _ h => h) (Or.inl ⟨by rfl, ?_⟩) (by assumption) ?_
  rotate_left 1
  · (intro w hSw; (try dsimp only at hSw); (go_simp <;> with_reducible rfl))
  (try simp only [Act.put, List.setIfInBounds_toArray, List.set_cons_zero, List.set_cons_succ])
  refine wpAnyH_take (i := 2) (oi := _) (v := ?_) rfl (by kernel_rfl) (by kernel_rfl) (by kernel_rfl) (fun _ _ _ h => h) (Or.inl ⟨by rfl, ?_⟩) (by assumption) ?_
  rotate_left 1
  · (intro w hSw; (try dsimp only at hSw); (go_simp <;> with_reducible rfl))
  (try simp only [Act.put, List.setIfInBounds_toArray, List.set_cons_zero, List.set_cons_succ])
  refine wpAnyH_ready (rs := [1]) (by kernel_rfl) (by simp) ?_
  refine AllReadyH.cons (o := _) rfl (fun K hK => ?_) ?_
  · go_simp
    refine (HSA.out _).mono ?_
    rintro en w3 ⟨rfl, bx⟩
    have M1 := Lib.hid ((L1.out.drewN _).below bx L1.out.lt)
    have M2 := Lib.hid ((L2.out.drewN _).below bx L2.out.lt)
    have BM := Lib.hid (bthen (bdrewN B4.out _) bx)
    clear bx
    go_simp
    refine hK.out _ _ ?_ (fun hHeld => ?_)
    · exact ⟨M1.out.cell 0, M1.out.cell 1, M1.out.cell 2, M2.out.cell 0, M2.out.cell 1, M2.out.cell 2⟩
    clear hK K
    (try simp only [Act.put, List.setIfInBounds_toArray, List.set_cons_zero, List.set_cons_succ])
    refine wpAnyH_ready (rs := [3]) (by kernel_rfl) (by simp) ?_
    refine AllReadyH.cons (o := _) rfl (fun K hK => ?_) ?_
    · go_simp
      refine (HSB.out _).mono ?_
      rintro en w4 ⟨rfl, bx⟩
      have N1 := Lib.hid (M1.out.below bx M1.out.lt)
      have N2 := Lib.hid (M2.out.below bx M2.out.lt)
      have BN := Lib.hid (bthen BM.out bx)
      clear bx
      go_simp
      refine hK.out _ _ ?_ (fun hHeld => ?_)
      · exact ⟨N1.out.cell 0, N1.out.cell 1, N1.out.cell 2, N2.out.cell 0, N2.out.cell 1, N2.out.cell 2⟩
      clear hK K
      (try simp only [Act.put, List.setIfInBounds_toArray, List.set_cons_zero, List.set_cons_succ])
      refine wpAnyH_take (i := 4) (oi := _) (v := ?_) rfl (by kernel_rfl) (by kernel_rfl) (by kernel_rfl) (fun _ _ _ h => h) (Or.inl ⟨by rfl, ?_⟩) (by assumption) ?_
      rotate_left 1
      · (intro w hSw; (try dsimp only at hSw); (go_simp <;> with_reducible rfl))
      (try simp only [Act.put, List.setIfInBounds_toArray, List.set_cons_zero, List.set_cons_succ])
      refine wpAnyH_take (i := 5) (oi := _) (v := ?_) rfl (by kernel_rfl) (by kernel_rfl) (by kernel_rfl) (fun _ _ _ h => h) (Or.inl ⟨by rfl, ?_⟩) (by assumption) ?_
      rotate_left 1
      · (intro w hSw; (try dsimp only at hSw); (go_simp <;> with_reducible rfl))
      (try simp only [Act.put, List.setIfInBounds_toArray, List.set_cons_zero, List.set_cons_succ])
      refine wpAnyH_done (by kernel_rfl) ?_ _
      have e0 : w4.cell? ⟨w.heap.size, 0, none⟩ = some (.bool false) := N1.out.cell 0
      have e1 : w4.cell? ⟨w.heap.size, 1, none⟩ = some (.string sa) := N1.out.cell 1
      have e2 : w4.cell? ⟨w.heap.size, 2, none⟩ = some (.int .i64 ea) := N1.out.cell 2
      have g0 : w4.cell? ⟨w.heap.size + 1, 0, none⟩ = some (.bool false) := N2.out.cell 0
      have g1 : w4.cell? ⟨w.heap.size + 1, 1, none⟩ = some (.string sb) := N2.out.cell 1
      have g2 : w4.cell? ⟨w.heap.size + 1, 2, none⟩ = some (.int .i64 eb) := N2.out.cell 2
      clear a0 a1 a2 d0 d1 d2
      go_wp2_with fail
      refine (HAB.out _).mono ?_
      rintro en w5 ⟨rfl, b5⟩
      have O1 := Lib.hid (N1.out.below b5 N1.out.lt)
      have O2 := Lib.hid (N2.out.below b5 N2.out.lt)
      have B5 := Lib.hid (bthen BN.out b5)
      have f0 : w5.cell? ⟨w.heap.size, 0, none⟩ = some (.bool false) := O1.out.cell 0
      have f1 : w5.cell? ⟨w.heap.size, 1, none⟩ = some (.string sa) := O1.out.cell 1
      have f2 : w5.cell? ⟨w.heap.size, 2, none⟩ = some (.int .i64 ea) := O1.out.cell 2
      have i0 : w5.cell? ⟨w.heap.size + 1, 0, none⟩ = some (.bool false) := O2.out.cell 0
      have i1 : w5.cell? ⟨w.heap.size + 1, 1, none⟩ = some (.string sb) := O2.out.cell 1
      have i2 : w5.cell? ⟨w.heap.size + 1, 2, none⟩ = some (.int .i64 eb) := O2.out.cell 2
      clear b5 e0 e1 e2 g0 g1 g2
      rcases HCS.out with rfl | rfl | rfl
      · go_wp2_with fail
        refine (HBA.out _).mono ?_
        rintro en w6 ⟨rfl, b6⟩
        have B6 := Lib.hid (bthen B5.out b6)
        clear b6
        go_wp2_with fail
        go_ret2
        exact ⟨rfl, B6.out⟩
      · go_wp2_with fail
        refine (HBA.out _).mono ?_
        rintro en w6 ⟨rfl, b6⟩
        have B6 := Lib.hid (bthen B5.out b6)
        clear b6
        go_wp2_with fail
        go_ret2
        exact ⟨rfl, B6.out⟩
      · go_wp2_with fail
        go_ret2
        exact ⟨rfl, B5.out⟩
    exact AllReadyH.nil
  exact AllReadyH.nil
end Go.Proofs.YtabmalnandbocaaGreatDoor.Num
namespace Go.Proofs.YtabmalnandbocaaGreatDoor.Num
set_option exponentiation.threshold 3000
set_option linter.unusedVariables false
set_option linter.unusedSimpArgs false
set_option exponentiation.threshold 3000
open Go.RowKit Go.Proofs.YtabmalnandbocaaGreatDoor.Mem Go.Proofs.YtabmalnandbocaaGreatDoor.Own Go.Proofs.YtabmalnandbocaaGreatDoor.Big Go.Proofs.YtabmalnandbocaaGreatDoor.Str
open Ieee (double single)
theorem rbtw_w (n : Nat) (w : World) (hn : n < double.infRung) :
    Calls Tryz.prog 74 #[.float .f64 (double.word false n)] w (BtPost w false (btL n) (btE n)) := rbetween_pos n w hn
theorem rexw_w (s : Bool) (n : Nat) (w : World) (hn : n < double.infRung) :
    Calls Tryz.prog 43 #[.float .f64 (double.word s n)] w (BtPost w s (exL n) (exE n)) := rexact_yes s n w hn
def AbPost (w : World) (l : List UInt8) (e : Int) (m : List UInt8) (f : Int) (b : Bool) (en : Ending) (w' : World) : Prop := en = .returned (.tuple #[decV false l e, decV false m f, .bool b]) ∧ Below w.heap.size w w'
set_option maxHeartbeats 8000000 in
set_option maxRecDepth 100000 in
theorem about_w (s : Bool) (k : Nat) (w : World) (hk : k < double.infRung) (h0 : 0 < k) :
    Calls Tryz.prog 44 #[.float .f64 (double.word s k)] w (AbPost w (btL (k - 1)) (btE (k - 1)) (btL k) (btE k) (decide (k % 2 = 0))) := by
  have hk1 : k - 1 < double.infRung := by omega
  have HNB := Lib.hid (fun W => numb_w s k W hk)
  have HF1 := Lib.hid (fun W => float_w false (k - 1) W hk1)
  have HF2 := Lib.hid (fun W => float_w false k W hk)
  have HB1 := Lib.hid (fun W => rbtw_w (k - 1) W hk1)
  have HB2 := Lib.hid (fun W => rbtw_w k W hk)
  have hkn : k < 9218868437227405312 := by rw [inf_num] at hk; exact hk
  have hu : IntKind.u64.wrap ((k : Int) - 1) = ((k - 1 : Nat) : Int) := by rw [show (k : Int) - 1 = ((k - 1 : Nat) : Int) by omega]; exact wraps_u64 _ (by omega) (by omega)
  have hu2 : (k : Int) - 1 = ((k - 1 : Nat) : Int) := by omega
  have t1 : ((k : Int) % 2 == 0) = decide (k % 2 = 0) := by
    by_cases hz : k % 2 = 0
    · rw [decide_eq_true hz, beq_iff_eq]; omega
    · rw [decide_eq_false hz, beq_eq_false_iff_ne]; omega
  have HT := Lib.hid t1
  generalize decide (k % 2 = 0) = ev at *
  generalize btL (k - 1) = l1 at *
  generalize btE (k - 1) = e1 at *
  generalize btL k = l2 at *
  generalize btE k = e2 at *
  generalize double.word s k = x at *
  generalize double.word false (k - 1) = y at *
  generalize double.word false k = z at *
  clear t1 hk hk1
  go_enter Tryz.func44, Tryz.ntmps44
  go_wp2_with fail
  refine (HNB.out _).mono ?_
  rintro en w1 ⟨rfl, b1⟩
  have hx := ((Blk.new w 32 #[.bool false, .string ⟨#[]⟩, .int .i64 0]).alloc (.cells #[.bool false, .string ⟨#[]⟩, .int .i64 0] 32))
  have HP1 := Lib.hid (hx.below b1 hx.lt)
  clear hx
  have hx := (Blk.new (w.alloc (.cells #[.bool false, .string ⟨#[]⟩, .int .i64 0] 32)) 32 #[.bool false, .string ⟨#[]⟩, .int .i64 0])
  simp at hx
  have HQ1 := Lib.hid (hx.below b1 hx.lt)
  clear hx
  have B1 := Lib.hid (bthen (((Below.refl _ w).alloc (Nat.le_refl _) (.cells #[.bool false, .string ⟨#[]⟩, .int .i64 0] 32)).alloc (by simp <;> omega) (.cells #[.bool false, .string ⟨#[]⟩, .int .i64 0] 32)) b1)
  have P_0 : w1.cell? ⟨w.heap.size, 0, none⟩ = some (.bool false) := HP1.out.cell 0
  have P_1 : w1.cell? ⟨w.heap.size, 1, none⟩ = some (.string ⟨#[]⟩) := HP1.out.cell 1
  have P_2 : w1.cell? ⟨w.heap.size, 2, none⟩ = some (.int .i64 0) := HP1.out.cell 2
  have P_z : w.heap.size < w1.heap.size := HP1.out.lt
  have Q_0 : w1.cell? ⟨(w.heap.size + 1), 0, none⟩ = some (.bool false) := HQ1.out.cell 0
  have Q_1 : w1.cell? ⟨(w.heap.size + 1), 1, none⟩ = some (.string ⟨#[]⟩) := HQ1.out.cell 1
  have Q_2 : w1.cell? ⟨(w.heap.size + 1), 2, none⟩ = some (.int .i64 0) := HQ1.out.cell 2
  have Q_z : (w.heap.size + 1) < w1.heap.size := HQ1.out.lt
  clear b1
  go_wp2_with (simp only [hu, hu2])
  refine (HF1.out _).mono ?_
  rintro en w2 ⟨rfl, b2⟩
  have hx := HP1.out
  have HP2 := Lib.hid (hx.below b2 hx.lt)
  clear hx
  have hx := HQ1.out
  have HQ2 := Lib.hid (hx.below b2 hx.lt)
  clear hx
  have B2 := Lib.hid (bthen B1.out b2)
  clear P_0 P_1 P_2 Q_0 Q_1 Q_2 P_z Q_z
  have P_0 : w2.cell? ⟨w.heap.size, 0, none⟩ = some (.bool false) := HP2.out.cell 0
  have P_1 : w2.cell? ⟨w.heap.size, 1, none⟩ = some (.string ⟨#[]⟩) := HP2.out.cell 1
  have P_2 : w2.cell? ⟨w.heap.size, 2, none⟩ = some (.int .i64 0) := HP2.out.cell 2
  have P_z : w.heap.size < w2.heap.size := HP2.out.lt
  have Q_0 : w2.cell? ⟨(w.heap.size + 1), 0, none⟩ = some (.bool false) := HQ2.out.cell 0
  have Q_1 : w2.cell? ⟨(w.heap.size + 1), 1, none⟩ = some (.string ⟨#[]⟩) := HQ2.out.cell 1
  have Q_2 : w2.cell? ⟨(w.heap.size + 1), 2, none⟩ = some (.int .i64 0) := HQ2.out.cell 2
  have Q_z : (w.heap.size + 1) < w2.heap.size := HQ2.out.lt
  clear b2
  go_wp2_with fail
  refine (HB1.out _).mono ?_
  rintro en w3 ⟨rfl, b3⟩
  have hx := HP2.out
  have HP3 := Lib.hid (hx.below b3 hx.lt)
  clear hx
  have hx := HQ2.out
  have HQ3 := Lib.hid (hx.below b3 hx.lt)
  clear hx
  have B3 := Lib.hid (bthen B2.out b3)
  clear P_0 P_1 P_2 Q_0 Q_1 Q_2 P_z Q_z
  have P_0 : w3.cell? ⟨w.heap.size, 0, none⟩ = some (.bool false) := HP3.out.cell 0
  have P_1 : w3.cell? ⟨w.heap.size, 1, none⟩ = some (.string ⟨#[]⟩) := HP3.out.cell 1
  have P_2 : w3.cell? ⟨w.heap.size, 2, none⟩ = some (.int .i64 0) := HP3.out.cell 2
  have P_z : w.heap.size < w3.heap.size := HP3.out.lt
  have Q_0 : w3.cell? ⟨(w.heap.size + 1), 0, none⟩ = some (.bool false) := HQ3.out.cell 0
  have Q_1 : w3.cell? ⟨(w.heap.size + 1), 1, none⟩ = some (.string ⟨#[]⟩) := HQ3.out.cell 1
  have Q_2 : w3.cell? ⟨(w.heap.size + 1), 2, none⟩ = some (.int .i64 0) := HQ3.out.cell 2
  have Q_z : (w.heap.size + 1) < w3.heap.size := HQ3.out.lt
  clear b3
  go_wp2_with fail
  refine (HF2.out _).mono ?_
  rintro en w4 ⟨rfl, b4⟩
  have hx := (HP3.out.alloc (.cells #[.bool false, .string ⟨l1.toArray⟩, .int .i64 e1] 32))
  have HP4 := Lib.hid (hx.below b4 hx.lt)
  clear hx
  have hx := (HQ3.out.alloc (.cells #[.bool false, .string ⟨l1.toArray⟩, .int .i64 e1] 32))
  have HQ4 := Lib.hid (hx.below b4 hx.lt)
  clear hx
  have hx := (Blk.new w3 32 #[.bool false, .string ⟨l1.toArray⟩, .int .i64 e1])
  have HL4 := Lib.hid (hx.below b4 hx.lt)
  clear hx
  have B4 := Lib.hid (bthen (B3.out.alloc B3.out.size (.cells #[.bool false, .string ⟨l1.toArray⟩, .int .i64 e1] 32)) b4)
  clear P_0 P_1 P_2 Q_0 Q_1 Q_2 P_z Q_z
  have P_0 : w4.cell? ⟨w.heap.size, 0, none⟩ = some (.bool false) := HP4.out.cell 0
  have P_1 : w4.cell? ⟨w.heap.size, 1, none⟩ = some (.string ⟨#[]⟩) := HP4.out.cell 1
  have P_2 : w4.cell? ⟨w.heap.size, 2, none⟩ = some (.int .i64 0) := HP4.out.cell 2
  have P_z : w.heap.size < w4.heap.size := HP4.out.lt
  have Q_0 : w4.cell? ⟨(w.heap.size + 1), 0, none⟩ = some (.bool false) := HQ4.out.cell 0
  have Q_1 : w4.cell? ⟨(w.heap.size + 1), 1, none⟩ = some (.string ⟨#[]⟩) := HQ4.out.cell 1
  have Q_2 : w4.cell? ⟨(w.heap.size + 1), 2, none⟩ = some (.int .i64 0) := HQ4.out.cell 2
  have Q_z : (w.heap.size + 1) < w4.heap.size := HQ4.out.lt
  have L_0 : w4.cell? ⟨w3.heap.size, 0, none⟩ = some (.bool false) := HL4.out.cell 0
  have L_1 : w4.cell? ⟨w3.heap.size, 1, none⟩ = some (.string ⟨l1.toArray⟩) := HL4.out.cell 1
  have L_2 : w4.cell? ⟨w3.heap.size, 2, none⟩ = some (.int .i64 e1) := HL4.out.cell 2
  have L_z : w3.heap.size < w4.heap.size := HL4.out.lt
  clear b4
  go_wp2_with fail
  refine (HB2.out _).mono ?_
  rintro en w5 ⟨rfl, b5⟩
  have hx := HP4.out
  have HP5 := Lib.hid (hx.below b5 hx.lt)
  clear hx
  have hx := HQ4.out
  have HQ5 := Lib.hid (hx.below b5 hx.lt)
  clear hx
  have hx := HL4.out
  have HL5 := Lib.hid (hx.below b5 hx.lt)
  clear hx
  have B5 := Lib.hid (bthen B4.out b5)
  clear P_0 P_1 P_2 Q_0 Q_1 Q_2 L_0 L_1 L_2 P_z Q_z L_z
  have P_0 : w5.cell? ⟨w.heap.size, 0, none⟩ = some (.bool false) := HP5.out.cell 0
  have P_1 : w5.cell? ⟨w.heap.size, 1, none⟩ = some (.string ⟨#[]⟩) := HP5.out.cell 1
  have P_2 : w5.cell? ⟨w.heap.size, 2, none⟩ = some (.int .i64 0) := HP5.out.cell 2
  have P_z : w.heap.size < w5.heap.size := HP5.out.lt
  have Q_0 : w5.cell? ⟨(w.heap.size + 1), 0, none⟩ = some (.bool false) := HQ5.out.cell 0
  have Q_1 : w5.cell? ⟨(w.heap.size + 1), 1, none⟩ = some (.string ⟨#[]⟩) := HQ5.out.cell 1
  have Q_2 : w5.cell? ⟨(w.heap.size + 1), 2, none⟩ = some (.int .i64 0) := HQ5.out.cell 2
  have Q_z : (w.heap.size + 1) < w5.heap.size := HQ5.out.lt
  have L_0 : w5.cell? ⟨w3.heap.size, 0, none⟩ = some (.bool false) := HL5.out.cell 0
  have L_1 : w5.cell? ⟨w3.heap.size, 1, none⟩ = some (.string ⟨l1.toArray⟩) := HL5.out.cell 1
  have L_2 : w5.cell? ⟨w3.heap.size, 2, none⟩ = some (.int .i64 e1) := HL5.out.cell 2
  have L_z : w3.heap.size < w5.heap.size := HL5.out.lt
  clear b5
  go_wp2_with fail
  have hM := Blk.new w5 32 #[.bool false, .string ⟨l2.toArray⟩, .int .i64 e2]
  have hP := HP5.out.alloc (.cells #[.bool false, .string ⟨l2.toArray⟩, .int .i64 e2] 32)
  have hQ := HQ5.out.alloc (.cells #[.bool false, .string ⟨l2.toArray⟩, .int .i64 e2] 32)
  have hL := HL5.out.alloc (.cells #[.bool false, .string ⟨l2.toArray⟩, .int .i64 e2] 32)
  have B6 := Lib.hid (B5.out.alloc B5.out.size (.cells #[.bool false, .string ⟨l2.toArray⟩, .int .i64 e2] 32))
  clear P_0 P_1 P_2 Q_0 Q_1 Q_2 L_0 L_1 L_2
  generalize w5.alloc (.cells #[.bool false, .string ⟨l2.toArray⟩, .int .i64 e2] 32) = W6 at *
  have p0 := hP.cell 0
  have p1 := hP.cell 1
  have p2 := hP.cell 2
  have q0 := hQ.cell 0
  have q1 := hQ.cell 1
  have q2 := hQ.cell 2
  have l0 := hL.cell 0
  have ll1 := hL.cell 1
  have ll2 := hL.cell 2
  have m0 := hM.cell 0
  have m1 := hM.cell 1
  have m2 := hM.cell 2
  simp at p0 p1 p2 q0 q1 q2 l0 ll1 ll2 m0 m1 m2
  have fp0 := hP.frozen 0
  have fp1 := hP.frozen 1
  have fp2 := hP.frozen 2
  have fq0 := hQ.frozen 0
  have fq1 := hQ.frozen 1
  have fq2 := hQ.frozen 2
  have B3s := B3.out.size
  have n1 : w.heap.size ≠ w5.heap.size := by omega
  have n2 : w.heap.size + 1 ≠ w5.heap.size := by omega
  have HQ3z := HQ3.out.lt
  have n3 : w.heap.size ≠ w3.heap.size := by omega
  have n4 : w.heap.size + 1 ≠ w3.heap.size := by omega
  have HP := Lib.hid hP
  have HQ := Lib.hid hQ
  clear hM hP hQ hL B3s HQ3z
  clear L_z P_z Q_z
  generalize w5.heap.size = gm at *
  generalize w3.heap.size = gl at *
  go_region
  go_wp2_with fail
  have hp := ((((((HP.out.set_ 0 (.bool false)).set_ 1 (.string ⟨l1.toArray⟩)).set_ 2 (.int .i64 e1)).far (p := ⟨w.heap.size + 1, 0, none⟩) (by simp) (.bool false)).far (p := ⟨w.heap.size + 1, 1, none⟩) (by simp) (.string ⟨l2.toArray⟩)).far (p := ⟨w.heap.size + 1, 2, none⟩) (by simp) (.int .i64 e2)).drew
  have hq := ((((((HQ.out.far (p := ⟨w.heap.size, 0, none⟩) (by simp) (.bool false)).far (p := ⟨w.heap.size, 1, none⟩) (by simp) (.string ⟨l1.toArray⟩)).far (p := ⟨w.heap.size, 2, none⟩) (by simp) (.int .i64 e1)).set_ 0 (.bool false)).set_ 1 (.string ⟨l2.toArray⟩)).set_ 2 (.int .i64 e2)).drew
  have hbf := ((((((B6.out.setCell (p := ⟨w.heap.size, 0, none⟩) (Nat.le_refl _) (.bool false)).setCell (p := ⟨w.heap.size, 1, none⟩) (Nat.le_refl _) (.string ⟨l1.toArray⟩)).setCell (p := ⟨w.heap.size, 2, none⟩) (Nat.le_refl _) (.int .i64 e1)).setCell (p := ⟨w.heap.size + 1, 0, none⟩) (by simp) (.bool false)).setCell (p := ⟨w.heap.size + 1, 1, none⟩) (by simp) (.string ⟨l2.toArray⟩)).setCell (p := ⟨w.heap.size + 1, 2, none⟩) (by simp) (.int .i64 e2)).drew
  generalize ((((((W6.setCell _ _).setCell _ _).setCell _ _).setCell _ _).setCell _ _).setCell _ _).drew = Wf at hp hq hbf ⊢
  have r0 : Wf.cell? ⟨w.heap.size, 0, none⟩ = some (.bool false) := hp.cell 0
  have r1 : Wf.cell? ⟨w.heap.size, 1, none⟩ = some (.string ⟨l1.toArray⟩) := hp.cell 1
  have r2 : Wf.cell? ⟨w.heap.size, 2, none⟩ = some (.int .i64 e1) := hp.cell 2
  have s0 : Wf.cell? ⟨w.heap.size + 1, 0, none⟩ = some (.bool false) := hq.cell 0
  have s1 : Wf.cell? ⟨w.heap.size + 1, 1, none⟩ = some (.string ⟨l2.toArray⟩) := hq.cell 1
  have s2 : Wf.cell? ⟨w.heap.size + 1, 2, none⟩ = some (.int .i64 e2) := hq.cell 2
  refine bodyPost_ret (v := .tuple #[decV false l1 e1, decV false l2 e2, .bool ev]) (by simp [results, Tryz.results44, go_sem, r0, r1, r2, s0, s1, s2, HT.out]) rfl ⟨rfl, hbf⟩
/-- Between two, or on one of them where the ends count. -/
def cmR (z1 z2 : Int) (ev : Bool) : Bool := (decide (z1 = -1) || (decide (z1 = 0) && ev)) && (decide (z2 = -1) || (decide (z2 = 0) && ev))
theorem dcmp_cases (la : List UInt8) (ea : Int) (lb : List UInt8) (eb : Int) : dcmp false la ea false lb eb = -1 ∨ dcmp false la ea false lb eb = 0 ∨ dcmp false la ea false lb eb = 1 := by
  rw [dcmp_pos]; exact cmpI_cases _ _
set_option maxHeartbeats 8000000 in
set_option maxRecDepth 100000 in
theorem rcomes_w (s : Bool) (dl ll hl : List UInt8) (de le he : Int) (ev : Bool) (w : World) (fd : Form dl de) (fl : Form ll le) (fh : Form hl he) (d0 : dl ≠ []) (l0 : ll ≠ []) (h0 : hl ≠ []) (zd : dl.length ≤ 3000) (zl : ll.length ≤ 3000) (zh : hl.length ≤ 3000) :
    Calls Tryz.prog 47 #[decV s dl de, decV false ll le, decV false hl he, .bool ev] w (NrPost w (cmR (dcmp false ll le false dl de) (dcmp false dl de false hl he) ev)) := by
  have H1 : Hid (∀ W, Calls Tryz.prog 76 #[decV false ll le, decV false dl de] W (RcPost W (dcmp false ll le false dl de))) := Lib.hid (fun W => rcmp_w ⟨ll.toArray⟩ le ⟨dl.toArray⟩ de W fl fd l0 d0 (size_of _ zl) (size_of _ zd))
  have H2 : Hid (∀ W, Calls Tryz.prog 76 #[decV false dl de, decV false hl he] W (RcPost W (dcmp false dl de false hl he))) := Lib.hid (fun W => rcmp_w ⟨dl.toArray⟩ de ⟨hl.toArray⟩ he W fd fh d0 h0 (size_of _ zd) (size_of _ zh))
  have C1 := Lib.hid (dcmp_cases ll le dl de)
  have C2 := Lib.hid (dcmp_cases dl de hl he)
  generalize dcmp false ll le false dl de = z1 at *
  generalize dcmp false dl de false hl he = z2 at *
  clear fd fl fh d0 l0 h0 zd zl zh
  go_enter Tryz.func47, Tryz.ntmps47
  go_wp2_with fail
  refine (H1.out _).mono ?_
  rintro en w1 ⟨rfl, b1⟩
  have hx := (((Blk.new w 32 #[.bool false, .string ⟨dl.toArray⟩, .int .i64 de]).alloc (.cells #[.bool false, .string ⟨ll.toArray⟩, .int .i64 le] 32)).alloc (.cells #[.bool false, .string ⟨hl.toArray⟩, .int .i64 he] 32))
  have HD1 := Lib.hid (hx.below b1 hx.lt)
  clear hx
  have hx := ((Blk.new (w.alloc (.cells #[.bool false, .string ⟨dl.toArray⟩, .int .i64 de] 32)) 32 #[.bool false, .string ⟨ll.toArray⟩, .int .i64 le]).alloc (.cells #[.bool false, .string ⟨hl.toArray⟩, .int .i64 he] 32))
  simp at hx
  have HL1 := Lib.hid (hx.below b1 hx.lt)
  clear hx
  have hx := (Blk.new ((w.alloc (.cells #[.bool false, .string ⟨dl.toArray⟩, .int .i64 de] 32)).alloc (.cells #[.bool false, .string ⟨ll.toArray⟩, .int .i64 le] 32)) 32 #[.bool false, .string ⟨hl.toArray⟩, .int .i64 he])
  simp at hx
  have HH1 := Lib.hid (hx.below b1 hx.lt)
  clear hx
  have B1 := Lib.hid (bthen ((((Below.refl _ w).alloc (Nat.le_refl _) (.cells #[.bool false, .string ⟨dl.toArray⟩, .int .i64 de] 32)).alloc (by simp <;> omega) (.cells #[.bool false, .string ⟨ll.toArray⟩, .int .i64 le] 32)).alloc (by simp <;> omega) (.cells #[.bool false, .string ⟨hl.toArray⟩, .int .i64 he] 32)) b1)
  have D_0 : w1.cell? ⟨w.heap.size, 0, none⟩ = some (.bool false) := HD1.out.cell 0
  have D_1 : w1.cell? ⟨w.heap.size, 1, none⟩ = some (.string ⟨dl.toArray⟩) := HD1.out.cell 1
  have D_2 : w1.cell? ⟨w.heap.size, 2, none⟩ = some (.int .i64 de) := HD1.out.cell 2
  have D_z : w.heap.size < w1.heap.size := HD1.out.lt
  have L_0 : w1.cell? ⟨(w.heap.size + 1), 0, none⟩ = some (.bool false) := HL1.out.cell 0
  have L_1 : w1.cell? ⟨(w.heap.size + 1), 1, none⟩ = some (.string ⟨ll.toArray⟩) := HL1.out.cell 1
  have L_2 : w1.cell? ⟨(w.heap.size + 1), 2, none⟩ = some (.int .i64 le) := HL1.out.cell 2
  have L_z : (w.heap.size + 1) < w1.heap.size := HL1.out.lt
  have H_0 : w1.cell? ⟨(w.heap.size + 2), 0, none⟩ = some (.bool false) := HH1.out.cell 0
  have H_1 : w1.cell? ⟨(w.heap.size + 2), 1, none⟩ = some (.string ⟨hl.toArray⟩) := HH1.out.cell 1
  have H_2 : w1.cell? ⟨(w.heap.size + 2), 2, none⟩ = some (.int .i64 he) := HH1.out.cell 2
  have H_z : (w.heap.size + 2) < w1.heap.size := HH1.out.lt
  clear b1
  go_wp2_with fail
  refine (H2.out _).mono ?_
  rintro en w2 ⟨rfl, b2⟩
  have hx := HD1.out
  have HD2 := Lib.hid (hx.below b2 hx.lt)
  clear hx
  have hx := HL1.out
  have HL2 := Lib.hid (hx.below b2 hx.lt)
  clear hx
  have hx := HH1.out
  have HH2 := Lib.hid (hx.below b2 hx.lt)
  clear hx
  have B2 := Lib.hid (bthen B1.out b2)
  clear D_0 D_1 D_2 L_0 L_1 L_2 H_0 H_1 H_2 D_z L_z H_z
  have D_0 : w2.cell? ⟨w.heap.size, 0, none⟩ = some (.bool false) := HD2.out.cell 0
  have D_1 : w2.cell? ⟨w.heap.size, 1, none⟩ = some (.string ⟨dl.toArray⟩) := HD2.out.cell 1
  have D_2 : w2.cell? ⟨w.heap.size, 2, none⟩ = some (.int .i64 de) := HD2.out.cell 2
  have D_z : w.heap.size < w2.heap.size := HD2.out.lt
  have L_0 : w2.cell? ⟨(w.heap.size + 1), 0, none⟩ = some (.bool false) := HL2.out.cell 0
  have L_1 : w2.cell? ⟨(w.heap.size + 1), 1, none⟩ = some (.string ⟨ll.toArray⟩) := HL2.out.cell 1
  have L_2 : w2.cell? ⟨(w.heap.size + 1), 2, none⟩ = some (.int .i64 le) := HL2.out.cell 2
  have L_z : (w.heap.size + 1) < w2.heap.size := HL2.out.lt
  have H_0 : w2.cell? ⟨(w.heap.size + 2), 0, none⟩ = some (.bool false) := HH2.out.cell 0
  have H_1 : w2.cell? ⟨(w.heap.size + 2), 1, none⟩ = some (.string ⟨hl.toArray⟩) := HH2.out.cell 1
  have H_2 : w2.cell? ⟨(w.heap.size + 2), 2, none⟩ = some (.int .i64 he) := HH2.out.cell 2
  have H_z : (w.heap.size + 2) < w2.heap.size := HH2.out.lt
  clear b2
  rcases C1.out with rfl | rfl | rfl <;> rcases C2.out with rfl | rfl | rfl <;> cases ev
  all_goals
    go_wp2_with fail
    go_ret
    exact ⟨rfl, B2.out⟩
end Go.Proofs.YtabmalnandbocaaGreatDoor.Num
