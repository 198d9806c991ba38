/- The walk of quarryref05.Walk, and of its Bad. -/
import Derived.Test.YtlfkhfmepcnfeaaUtfX
import Derived.Test.YtlfkhfmepcnfeaaOwn
import Derived.Lib.ConvBytes
import Derived.Maps.AppendAt
import Derived.Deep.AppendLies
import Derived.OwnWalk
import Derived.Laws.OwnMore
namespace Go.Proofs.Ytlfkhfmepcnfeaa.Utf
set_option linter.unusedVariables false
set_option linter.unusedSimpArgs false
open Go.RowKit Go.Proofs.Ytlfkhfmepcnfeaa.Mem Go.Proofs.Ytlfkhfmepcnfeaa.Own

theorem conv_in (s : ByteArray) (w : World) : ∃ cap W', (convert 9 31 (.string s)).run Try.prog w = .ok (.slice (some ⟨w.heap.size, 0, none⟩) s.size cap) W' ∧ Below w.heap.size w W' ∧ W'.heap.size = w.heap.size + 1 ∧
    ∀ j u, s.data.toList[j]? = some u → W'.cell? ⟨w.heap.size, j, none⟩ = some (.int .u8 (u.toNat : Int)) :=
  ⟨_, _, Lib.run_convert_string_bytes (P := Try.prog) w 9 31 5 s Try.underlying9 Try.underlying31 Try.underlying5,
    ⟨rfl, rfl, rfl, by rw [Lib.bytesWorld_size]; omega, fun k hk => Lib.bytesWorld_at_old w _ s k hk⟩, Lib.bytesWorld_size w _ s, fun j u hu => by
      have hj := (List.getElem?_eq_some_iff.1 hu).1
      rw [Lib.bytesWorld_cell w _ s j (by simpa using hj), List.getD_eq_getElem?_getD, hu]; rfl⟩
theorem int_info : (Try.prog.info? 3).map (fun i => (i.zero, i.size, i.bytes)) = some (some (.int .i64 0), 1, 8) := by kernel_rfl
theorem rune_info : (Try.prog.info? 21).map (fun i => (i.zero, i.size, i.bytes)) = some (some (.int .i32 0), 1, 4) := by kernel_rfl
theorem info_parts2 {P : Program} {t : TypeId} {z : Value} {a b : Nat} (h : (P.info? t).map (fun i => (i.zero, i.size, i.bytes)) = some (some z, a, b)) : ∃ i, P.info? t = some i ∧ i.zero = some z ∧ i.size = a ∧ i.bytes = b := by
  cases hq : P.info? t with
  | none => rw [hq] at h; cases h
  | some i => rw [hq] at h; simp at h; exact ⟨i, rfl, h.1, h.2.1, h.2.2⟩
theorem part_pos {p : List UInt8} {st : St} (h : Part p st) (hw : st.want ≠ 0) : 0 < st.want := by
  rcases h with ⟨rfl, hw'⟩ | ⟨a, rfl, hb, hw'⟩ | ⟨a, b, s1, rfl, hb, hw1, h1, hw'⟩ | ⟨a, b, c, s1, s2, rfl, hb, hw1, h1, hw2, h2, hw'⟩
  · exact absurd hw' hw
  · rcases begin_inv hb hw' with ⟨-, -, r, -⟩ | ⟨-, -, r, -⟩ | ⟨-, -, r, -⟩ <;> omega
  · have := (step_inv h1 hw1).2.2.1
    rcases begin_inv hb hw1 with ⟨-, -, r, -⟩ | ⟨-, -, r, -⟩ | ⟨-, -, r, -⟩ <;> omega
  · have := (step_inv h1 hw1).2.2.1
    have := (step_inv h2 hw2).2.2.1
    rcases begin_inv hb hw1 with ⟨-, -, r, -⟩ | ⟨-, -, r, -⟩ | ⟨-, -, r, -⟩ <;> omega
def ats (rs : List (Nat × Int)) : List Value := rs.map fun x => .int .i64 (x.1 : Int)
def chs (rs : List (Nat × Int)) : List Value := rs.map fun x => .int .i32 x.2
def Walked (s : ByteArray) (w : World) (e : Ending) (w' : World) : Prop :=
  ∃ pa pl ca cl, e = .returned (.tuple #[.slice pa (runesL s.data.toList).length ca, .slice pl (runesL s.data.toList).length cl, .int .i64 (badF s)]) ∧
    w'.ownsRow w.heap.size 3 1 (.slice pa (runesL s.data.toList).length ca) (runesL s.data.toList).length (ats (runesL s.data.toList)) ∧
    w'.ownsRow w.heap.size 21 1 (.slice pl (runesL s.data.toList).length cl) (runesL s.data.toList).length (chs (runesL s.data.toList)) ∧ Below w.heap.size w w'
/-- Two slices do not lie in one block. -/
def Apart (a b : Value) : Prop := ∀ g, a.ownBlock = some g → b.ownBlock ≠ some g
theorem apart_kept {w w' : World} {base base' : Nat} {e e' : TypeId} {a b : Value} {n n' : Nat} {xs ys : List Value} (h : Apart a b) (ha : w.ownsRow base e 1 a n xs) (hb : w.ownsRow base' e' 1 b n' ys) (hg : w.grownBy w' a.ownBlock) : w'.ownsRow base' e' 1 b n' ys :=
  hb.kept hg (by
    cases hq : b.ownBlock with
    | none => exact .inl rfl
    | some g => exact .inr fun e => h g e.symm hq)
theorem apart_new {a b : Value} {g H n c : Nat} {w : World} {base : Nat} {e : TypeId} {m : Nat} {ys : List Value} (h : Apart a b) (hb : w.ownsRow base e 1 b m ys) (hw : w.heap.size ≤ H) (hat : a.ownBlock = some g ∨ g = H) : Apart (.slice (some ⟨g, 0, none⟩) n c) b := fun g' e => by
  have e' : g = g' := by simpa [Value.ownBlock] using e
  subst e'
  rcases hat with h1 | h1
  · exact h _ h1
  · intro e2; have := (hb.lt _ e2).2; omega
theorem apart_symm {a b : Value} (h : Apart a b) : Apart b a := fun g e1 e2 => h g e2 e1
theorem walked_of {s : ByteArray} {w wr : World} {pre : List (Nat × Int)} {pa pl : Option Addr} {ca cl : Nat} {b : Int} (e1 : runesL s.data.toList = pre) (e2 : badF s = b)
    (h1 : wr.ownsRow w.heap.size 3 1 (.slice pa pre.length ca) pre.length (ats pre)) (h2 : wr.ownsRow w.heap.size 21 1 (.slice pl pre.length cl) pre.length (chs pre)) (h3 : Below w.heap.size w wr) :
    Walked s w (.returned (.tuple #[.slice pa pre.length ca, .slice pl pre.length cl, .int .i64 b])) wr := by
  subst e1 e2
  exact ⟨_, _, _, _, rfl, h1, h2, h3⟩
set_option maxHeartbeats 4000000 in
set_option maxRecDepth 100000 in
theorem walk_w (s : ByteArray) (hs : s.size ≤ 8796093022208) (w : World) : Calls Try.prog 43 #[.string s] w (Walked s w) := by
  obtain ⟨i0, hi, hz0, hz1, hz2⟩ := info_parts2 int_info
  obtain ⟨j0, hj, yz0, yz1, yz2⟩ := info_parts2 rune_info
  go_enter Try.func43, Try.ntmps43
  go_wp2_with fail
  go_loopw [5, 6, 7] (fun a l f wr => ∃ (m ca cl : Nat) (pa pl : Option Addr) (st : St) (pre : List (Nat × Int)), m ≤ s.size ∧ f = .int .i64 m ∧ a = .slice pa pre.length ca ∧ l = .slice pl pre.length cl ∧ st.want = 0 ∧
      Hid (runesL s.data.toList = pre ++ runesF st m m (s.data.toList.drop m)) ∧ Hid (badL s.data.toList = endF (runL ⟨st, m, false⟩ (s.data.toList.drop m))) ∧
      wr.ownsRow w.heap.size 3 1 (.slice pa pre.length ca) pre.length (ats pre) ∧ wr.ownsRow w.heap.size 21 1 (.slice pl pre.length cl) pre.length (chs pre) ∧ Apart (.slice pa pre.length ca) (.slice pl pre.length cl) ∧ Below w.heap.size w wr) (fun _ _ f _ => s.size - (intOf f).toNat)
  case atStart => exact ⟨0, 0, 0, none, none, st0, [], by omega, rfl, rfl, rfl, rfl, by show runesL _ = _; simp [runesL], by show badL _ = _; simp [badL, sc0], World.ownsRow_nil _ _ _ _, World.ownsRow_nil _ _ _ _, fun g e => by simp [Value.ownBlock] at e, Below.refl _ _⟩
  case round =>
    obtain ⟨m, ca, cl, pa, pl, st, pre, hm, rfl, rfl, rfl, hst, hR, hB, hoa, hol, hap, hbel⟩ := hrel
    obtain ⟨wo, rfl⟩ : ∃ wo : World, wo = wr := ⟨_, rfl⟩
    by_cases hlt : m < s.size
    · have t0 : decide ((m : Int) < (s.size : Int)) = true := by simp; omega
      have HST := Lib.hid hst; clear hst
      go_wp2_with fail
      go_loopw [5, 6, 8, 9] (fun a l n wh wr => ∃ (q ca cl : Nat) (b : Bool) (pa pl : Option Addr) (st : St) (pre : List (Nat × Int)), q ≤ 4 ∧ m + q ≤ s.size ∧ (q = 0 → b = false) ∧ n = .int .i64 ((q : Int) + 1) ∧ wh = .bool b ∧ a = .slice pa pre.length ca ∧ l = .slice pl pre.length cl ∧
          Hid (if b = true then st.want = 0 else Part ((s.data.toList.drop m).take q) st) ∧ Hid (runesL s.data.toList = pre ++ runesF st (if b = true then m + q else m) (m + q) (s.data.toList.drop (m + q))) ∧ Hid (badL s.data.toList = endF (runL ⟨st, m + q, false⟩ (s.data.toList.drop (m + q)))) ∧
          wr.ownsRow w.heap.size 3 1 (.slice pa pre.length ca) pre.length (ats pre) ∧ wr.ownsRow w.heap.size 21 1 (.slice pl pre.length cl) pre.length (chs pre) ∧ Apart (.slice pa pre.length ca) (.slice pl pre.length cl) ∧ Below w.heap.size w wr) (fun _ _ n _ _ => 6 - (intOf n).toNat)
      case atStart => exact ⟨0, ca, cl, false, pa, pl, st, pre, by omega, by omega, fun _ => rfl, rfl, rfl, rfl, rfl, .inl ⟨by simp, HST.out⟩, by show runesL _ = _; simpa using hR.out, by show badL _ = _; simpa using hB.out, hoa, hol, hap, hbel⟩
      case round =>
        clear hR hB hoa hol hap hbel HST
        obtain ⟨q, ca, cl, b, pa, pl, st, pre, hq, hmq, hq0, rfl, rfl, rfl, rfl, hP, hR, hB, hoa, hol, hap, hbel⟩ := hrel
        cases b with
        | true =>
          have hq1 : q ≠ 0 := fun e => by cases hq0 e
          go_wp2_with fail
          refine ⟨⟨m + q, ca, cl, pa, pl, st, pre, hmq, by congr 1; omega, rfl, rfl, hP.out, by simpa using hR, hB, hoa, hol, hap, hbel⟩, by simp [intOf]; omega⟩
        | false =>
          by_cases hend : m + q = s.size
          · have tn : decide ((m : Int) + ((q : Int) + 1) > (s.size : Int)) = true := by simp; omega
            go_wp2_with fail
            go_ret3
            have hdrop : s.data.toList.drop (m + q) = [] := List.drop_eq_nil_of_le (by simp; omega)
            have e1 : runesL s.data.toList = pre := by have := hR.out; rw [hdrop] at this; simpa [runesF] using this
            have e2 : badF s = (s.size : Int) := by
              rw [badF_run]
              have h := hB.out
              rw [hdrop, run_nil] at h
              have hp : Part ((s.data.toList.drop m).take q) st := hP.out
              obtain ⟨hl, hz⟩ := part_len hp
              have hq1 : q ≠ 0 := by intro e; subst e; omega
              have hw : 0 < st.want := by
                have h1 : (s.data.toList.drop m).take q ≠ [] := by
                  intro e
                  have := congrArg List.length e
                  simp at this
                  omega
                have h2 : st.want ≠ 0 := fun e => h1 (hz.2 e)
                exact part_pos hp h2
              rw [h, end_want hw, hend]
            exact walked_of e1 e2 hoa hol hbel
          · have tn : decide ((m : Int) + ((q : Int) + 1) > (s.size : Int)) = false := by simp; omega
            have a1 : (m : Int) + ((q : Int) + 1) ≤ (s.size : Int) := by omega
            have a2 : (0 : Int) ≤ (q : Int) + 1 := by omega
            have a3 : ((m : Int) + ((q : Int) + 1)).toNat = m + q + 1 := by omega
            have a4 : (0 : Int) ≤ (m : Int) + ((q : Int) + 1) := by omega
            have hsl : ∀ w1 : World, (Instr.slice 9 (.string s) (some (.int .i64 (m : Int))) (some (.int .i64 ((m : Int) + ((q : Int) + 1)))) none).run Try.prog w1 = .ok (.string (s.extract m (m + q + 1))) w1 := fun w1 => by
              rw [run_slice_string w1 9 s .i64 .i64 (m : Int) ((m : Int) + ((q : Int) + 1)) Try.underlying9 (by omega) (by omega) (by omega), a3]; rfl
            have HSL := hsl
            clear a1 a2 a3 a4
            obtain ⟨cap1, W1, hcv, hb1, hz1', hcl⟩ := conv_in (s.extract m (m + q + 1)) wr
            have hXs : (s.extract m (m + q + 1)).size = q + 1 := by rw [ByteArray.size_extract]; omega
            have hsl0 : s.data.toList.length = s.size := by simp
            have hml : m + q < s.data.toList.length := by omega
            have hXl : (s.extract m (m + q + 1)).data.toList = (s.data.toList.drop m).take q ++ [s.data.toList[m + q]] := by
              have e : (s.extract m (m + q + 1)).data.toList = (s.data.toList.drop m).take (q + 1) := by
                rw [ByteArray.data_extract, Array.toList_extract, List.extract_eq_take_drop, show m + q + 1 - m = q + 1 by omega]
              rw [e, List.take_succ_eq_append_getElem (by simp; omega)]
              simp
            have hdrop : s.data.toList.drop (m + q) = s.data.toList[m + q] :: s.data.toList.drop (m + q + 1) := List.drop_eq_getElem_cons hml
            have hP' : Part ((s.data.toList.drop m).take q) st := hP.out
            have hpl : ((s.data.toList.drop m).take q).length = q := by simp; omega
            obtain ⟨hl3, hz⟩ := part_len hP'
            rw [hpl] at hl3
            rw [hXl] at hcl
            rw [hdrop] at hR hB
            rw [hXs] at hcv
            generalize s.data.toList[m + q] = x at *
            have hbnd := hb1.size
            have hoa1 := own_below hoa hb1
            have hol1 := own_below hol hb1
            have hbel1 := bthen hbel hb1
            have hszr := hbel1.size
            have HCL := Lib.hid hcl
            have HRR := Lib.hid hR.out; have HBB := Lib.hid hB.out; have HPP := Lib.hid hP'
            have HPL := Lib.hid hpl; have HXS := Lib.hid hXs; have HXL := Lib.hid hXl
            clear hcl hR hB hP hP' hpl hXs hXl hdrop hml hz hb1 hz1'
            cases hstep : (stepF st (x.toNat : Int)).1 with
            | false =>
              have HBG := Lib.hid (begins_stop HPP.out hstep wr.heap.size cap1 W1 HCL.out)
              rw [HPL.out] at HBG
              have HSP := Lib.hid hstep; clear hstep
              go_wp2_with fail
              refine HBG.out.mono ?_; rintro e w5 ⟨rfl, rfl⟩
              go_wp2_with fail
              go_ret3
              have e1 : runesL s.data.toList = pre := by rw [HRR.out]; simp [runesF, HSP.out]
              have e2 : badF s = (m : Int) + ((q : Int) + 1) - 1 := by
                rw [badF_run, HBB.out, run_cons]
                have e3 : oneF ⟨st, m + q, false⟩ (x.toNat : Int) = ⟨(stepF st (x.toNat : Int)).2, m + q, true⟩ := by simp [oneF, HSP.out]
                rw [e3, run_bad rfl, end_bad rfl]
                simp only []
                omega
              exact walked_of e1 e2 hoa1 hol1 hbel1
            | true =>
              obtain ⟨st2, hst2⟩ : ∃ st2, stepF st (x.toNat : Int) = (true, st2) := ⟨(stepF st (x.toNat : Int)).2, by rw [← hstep]⟩
              have HBG := Lib.hid (begins_step HPP.out hst2 wr.heap.size cap1 W1 HCL.out)
              rw [HPL.out] at HBG
              have e3 : oneF ⟨st, m + q, false⟩ (x.toNat : Int) = ⟨st2, m + q + 1, false⟩ := by simp [oneF, hst2]
              have hB2 : badL s.data.toList = endF (runL ⟨st2, m + (q + 1), false⟩ (s.data.toList.drop (m + (q + 1)))) := by rw [HBB.out, run_cons, e3]; rfl
              have HB2 := Lib.hid hB2
              have hps := part_step HPP.out hst2
              rw [HPL.out] at hps
              by_cases hw2 : st2.want = 0
              · have hr2 : runesF st m (m + q) (x :: s.data.toList.drop (m + q + 1)) = (m, st2.ch) :: runesF st2 (m + q + 1) (m + q + 1) (s.data.toList.drop (m + q + 1)) := by simp [runesF, hst2, hw2]
                have hRq : runesL s.data.toList = pre ++ runesF st m (m + q) (x :: s.data.toList.drop (m + q + 1)) := by simpa using HRR.out
                have hR2 : runesL s.data.toList = (pre ++ [(m, st2.ch)]) ++ runesF st2 (m + (q + 1)) (m + (q + 1)) (s.data.toList.drop (m + (q + 1))) := by rw [hRq, hr2]; simp [Nat.add_assoc]
                have HR2 := Lib.hid hR2; have HW2 := Lib.hid hw2
                have tw : (st2.want == 0) = true := by simpa using hw2
                have hlen : (pre ++ [(m, st2.ch)]).length ≤ s.size := by
                  have h := congrArg List.length hR2
                  have h2 := runesF_len s.data.toList st0 0 0
                  have h3 : (runesL s.data.toList).length ≤ s.data.toList.length := h2
                  rw [h, List.length_append] at h3
                  omega
                have hlen' : pre.length + 1 ≤ s.size := by simpa using hlen
                have HSTEP := Lib.hid hst2
                clear hstep hst2 hr2 hRq hR2 hps hw2 hB2 e3 hlen
                go_wp2_with fail
                refine HBG.out.mono ?_; rintro e w5 ⟨⟨r, rfl, hr⟩, rfl⟩
                obtain rfl := hr HW2.out
                clear hr
                go_wp2_with (first
                  | (at_builtin; refine wpList_append_lies _ rfl _ _ 71 rfl w.heap.size 3 i0 (.int .i64 0) 1 8 Try.underlying71 hi hz0 hz1 hz2 rfl (by decide) _ _ _ rfl (hoa1.alloc _) ⟨W1.heap.size, 0, none⟩ 1 1 [.int .i64 (m : Int)] rfl rfl (cell_one_new _ _ _) (by simp [Value.oneCell']) (by decide) (by unfold maxLen; omega) (by omega) (by simp; omega) (W1.heap.size + 1) (by simp) ?_; intro g6 cap6 w6 hoa6 hgr6 hat6 hlt6; have hol6 := apart_kept hap (hoa1.alloc _) (hol1.alloc _) hgr6; have hap6 := apart_new (n := pre.length + 1) (c := cap6) hap (hol1.alloc (.cells #[.int .i64 (m : Int)] 3)) (by simp) hat6; have hsz6 := hgr6.size)
                  | (at_builtin; refine wpList_append_lies _ rfl _ _ 72 rfl w.heap.size 21 j0 (.int .i32 0) 1 4 Try.underlying72 hj yz0 yz1 yz2 rfl (by decide) _ _ _ rfl (hol6.alloc _) ⟨w6.heap.size, 0, none⟩ 1 1 [.int .i32 st2.ch] rfl rfl (cell_one_new _ _ _) (by simp [Value.oneCell']) (by decide) (by unfold maxLen; omega) (by omega) (by simp at hsz6 ⊢; omega) (w6.heap.size + 1) (by simp) ?_; intro g7 cap7 w7 hol7 hgr7 hat7 hlt7))
                have hgb : Below w.heap.size w w7 := by
                  refine ((((hbel1.alloc hszr _).grown hgr6 (by simp; omega) (fun j e => ?_)).alloc (by simp at hsz6 ⊢; omega) _).grown hgr7 (by simp at hsz6 ⊢; omega) (fun j e => ?_))
                  · exact (hoa1.lt j e).1
                  · exact (hol6.lt j e).1
                have hoa7 := apart_kept (apart_symm hap6) (hol6.alloc _) (hoa6.alloc _) hgr7
                have hap7 := apart_symm (apart_new (n := pre.length + 1) (c := cap7) (apart_symm hap6) (hoa6.alloc (.cells #[.int .i32 st2.ch] 21)) (by simp) hat7)
                have el : (pre ++ [(m, st2.ch)]).length = pre.length + 1 := by simp
                have ea : ats pre ++ [.int .i64 (m : Int)] = ats (pre ++ [(m, st2.ch)]) := by simp [ats]
                have ec : chs pre ++ [.int .i32 st2.ch] = chs (pre ++ [(m, st2.ch)]) := by simp [chs]
                rw [ea] at hoa7
                rw [ec] at hol7
                rw [← el] at hoa7 hol7 hap7
                refine ⟨⟨q + 1, cap6, cap7, true, _, _, st2, pre ++ [(m, st2.ch)], by omega, by omega, fun e => by omega, by congr 1, rfl, by rw [el], by rw [el], HW2.out, ?_, ?_, hoa7, hol7, hap7, hgb⟩, by simp [intOf]; omega⟩
                · show runesL _ = _; simpa using HR2.out
                · exact HB2.out
              · have hr2 : runesF st m (m + q) (x :: s.data.toList.drop (m + q + 1)) = runesF st2 m (m + q + 1) (s.data.toList.drop (m + q + 1)) := by simp [runesF, hst2, hw2]
                have hRq : runesL s.data.toList = pre ++ runesF st m (m + q) (x :: s.data.toList.drop (m + q + 1)) := by simpa using HRR.out
                rw [hr2] at hRq
                have HR2 := Lib.hid hRq
                have tw : (st2.want == 0) = false := by simpa using hw2
                have hpart : Part ((s.data.toList.drop m).take q ++ [x]) st2 := by
                  rcases hps with ⟨h, -⟩ | ⟨-, h⟩
                  · exact absurd h hw2
                  · exact h
                have HPT := Lib.hid hpart
                clear hstep hst2 hr2 hRq hps hw2 hB2 e3 hpart
                go_wp2_with fail
                refine HBG.out.mono ?_; rintro e w5 ⟨⟨r, rfl, hr⟩, rfl⟩
                clear hr
                go_wp2_with fail
                refine ⟨⟨q + 1, ca, cl, false, pa, pl, st2, pre, by omega, by omega, fun e => rfl, by congr 1, rfl, rfl, rfl, ?_, ?_, ?_, hoa1, hol1, hap, hbel1⟩, by simp [intOf]; omega⟩
                · have e : (s.data.toList.drop m).take (q + 1) = (s.data.toList.drop m).take q ++ [x] := by rw [← HXL.out, ByteArray.data_extract, Array.toList_extract, List.extract_eq_take_drop, show m + q + 1 - m = q + 1 by omega]
                  show if false = true then _ else _
                  rw [if_neg (by simp), e]; exact HPT.out
                · show runesL _ = _; simpa [Nat.add_assoc] using HR2.out
                · exact HB2.out
    · obtain rfl : m = s.size := by omega
      have t0 : decide ((s.size : Int) < (s.size : Int)) = false := by simp
      have hdrop : s.data.toList.drop s.size = [] := List.drop_eq_nil_of_le (by simp)
      have e1 : runesL s.data.toList = pre := by have := hR.out; rw [hdrop] at this; simpa [runesF] using this
      have e2 : badF s = -1 := by
        rw [badF_run]
        have h := hB.out
        rw [hdrop, run_nil] at h
        rw [h]
        exact end_notbad rfl hst
      have E1 := Lib.hid e1; have E2 := Lib.hid e2
      clear e1 e2 hst
      go_wp2_with fail
      go_ret3
      exact walked_of E1.out E2.out hoa hol hbel
end Go.Proofs.Ytlfkhfmepcnfeaa.Utf
