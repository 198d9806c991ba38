/- The walks of package utf8: Feed, End. -/
import Derived.Test.YtlfkhfmepcnfeaaUtfS
import Derived.Deep.RegionWith
import Derived.LoopTactic
namespace Go.Proofs.Ytlfkhfmepcnfeaa.Utf
set_option linter.unusedVariables false
set_option linter.unusedSimpArgs false
open Go.RowKit Go.Proofs.Ytlfkhfmepcnfeaa.Mem

/-- A state that a run can come to: the character so far is small enough for what is wanted yet. -/
def Ok (st : St) : Prop := 0 ≤ st.want ∧ st.want < 4 ∧ (st.want ≠ 0 → 128 ≤ st.lo) ∧ (st.want ≠ 0 → st.hi ≤ 191) ∧ 0 ≤ st.ch ∧ (st.want = 3 → st.ch ≤ 4) ∧ (st.want = 2 → st.ch ≤ 319) ∧ (st.want = 1 → st.ch ≤ 20479)
theorem Ok.small {st : St} (h : Ok st) (hz : st.want ≠ 0) : st.ch < 32768 := by
  unfold Ok at h; omega
theorem begin_ok (x : Int) (h0 : 0 ≤ x) : Ok (beginF x).2 := by
  unfold beginF Ok
  repeat' split
  all_goals (simp only []; omega)
theorem step_ok {st : St} (h : Ok st) (x : Int) (h0 : 0 ≤ x) : Ok (stepF st x).2 := by
  unfold stepF
  split
  · exact begin_ok x h0
  split
  · exact h
  · unfold Ok at h ⊢
    simp only []
    omega
structure Sc where
  st : St
  came : Nat
  bad : Bool
def Sc.rest (c : Sc) : List Value := [.int .i64 (c.came : Int), .bool c.bad]
def oneF (c : Sc) (x : Int) : Sc := if c.bad then c else if (stepF c.st x).1 then ⟨(stepF c.st x).2, c.came + 1, false⟩ else ⟨(stepF c.st x).2, c.came, true⟩
/-- The n first bytes of a piece. -/
def upF (s : ByteArray) (c : Sc) : Nat → Sc
  | 0 => c
  | n + 1 => oneF (upF s c n) ((s.data.toList.getD n 0).toNat : Int)
theorem up_bad (s : ByteArray) (c : Sc) (n : Nat) (h : (upF s c n).bad = true) (m : Nat) : upF s c (n + m) = upF s c n := by
  induction m with
  | zero => rfl
  | succ m ih => show oneF (upF s c (n + m)) _ = _; rw [ih]; unfold oneF; rw [if_pos h]
theorem up_ok (s : ByteArray) (c : Sc) (hc : Ok c.st) (n : Nat) : Ok (upF s c n).st := by
  induction n with
  | zero => exact hc
  | succ n ih =>
    show Ok (oneF (upF s c n) _).st
    unfold oneF
    have := step_ok ih ((s.data.toList.getD n 0).toNat : Int) (by omega)
    repeat' split
    all_goals first | exact ih | exact this
theorem up_came (s : ByteArray) (c : Sc) (n : Nat) : (upF s c n).came ≤ c.came + n := by
  induction n with
  | zero => exact Nat.le_refl _
  | succ n ih =>
    show (oneF (upF s c n) _).came ≤ _
    unfold oneF
    repeat' split
    all_goals (try simp only [])
    all_goals omega
def ScAt (w : World) (b : Nat) (T : TypeId) (c : Sc) : Prop := At w b T c.st c.rest
theorem get_eq (s : ByteArray) (k : Nat) (h : k < s.size) : s[k] = s.data.toList.getD k 0 := by
  have hl : k < s.data.toList.length := by simpa using h
  rw [List.getD_eq_getElem?_getD, List.getElem?_eq_getElem hl]
  rfl
def Fed (b : Nat) (T : TypeId) (w : World) (c : Sc) (e : Ending) (w' : World) : Prop := e = .returned (.bool !c.bad) ∧ ScAt w' b T c ∧ Only b w w'
set_option maxHeartbeats 1000000 in
set_option maxRecDepth 100000 in
theorem feed_w (b : Nat) (T : TypeId) (s : ByteArray) (hs : s.size ≤ 1125899906842624) (c : Sc) (hc : Ok c.st) (hcame : c.came ≤ 1125899906842624) (w : World) (hb : ScAt w b T c) :
    Calls Try.prog 37 #[.pointer (some ⟨b, 0, none⟩), .string s] w (Fed b T w (upF s c s.size)) := by
  go_enter Try.func37, Try.ntmps37
  go_wp2_with fail
  go_loopw [5] (fun i wr => ∃ k : Nat, k ≤ s.size ∧ i = .int .i64 k ∧ ScAt wr b T (upF s c k) ∧ Only b w wr) (fun i _ => s.size - (intOf i).toNat)
  case atStart => exact ⟨0, by omega, rfl, hb, Only.refl b w⟩
  case round =>
    obtain ⟨k, hk, rfl, hat, hon⟩ := hrel
    have hok := Lib.hid (up_ok s c hc k)
    have hcm := up_came s c k
    have hup : upF s c (k + 1) = oneF (upF s c k) ((s.data.toList.getD k 0).toNat : Int) := rfl
    have hbd := up_bad s c k
    have hsz : k = s.size → upF s c s.size = upF s c k := fun h => by rw [h]
    generalize upF s c k = d at *
    have HSZ := Lib.hid hsz; clear hsz
    have HUP := Lib.hid hup; clear hup
    have HBD := Lib.hid hbd; clear hbd
    have k4 : wr.cell? ⟨b, 4, none⟩ = some (.int .i64 (d.came : Int)) := Blk.cell hat 4
    have k5 : wr.cell? ⟨b, 5, none⟩ = some (.bool d.bad) := Blk.cell hat 5
    have f4 := Blk.frozen hat 4
    have f5 := Blk.frozen hat 5
    by_cases hkl : k < s.size
    · have t0 : decide (k < s.size) = true := by simp [hkl]
      cases hdb : d.bad with
      | true =>
        rw [hdb] at k5
        go_wp2_with fail
        go_ret
        have e := HBD.out hdb (s.size - k)
        rw [show k + (s.size - k) = s.size by omega] at e
        rw [e]
        exact ⟨by rw [hdb]; rfl, hat, hon⟩
      | false =>
        rw [hdb] at k5
        have hX0 : (0 : Int) ≤ ((s.data.toList.getD k 0).toNat : Int) := by omega
        have hX : ((s.data.toList.getD k 0).toNat : Int) < 256 := by have := (s.data.toList.getD k 0).toNat_lt; omega
        have hgk := get_eq s k hkl
        have hone : oneF d ((s.data.toList.getD k 0).toNat : Int) = if (stepF d.st ((s.data.toList.getD k 0).toNat : Int)).1 then ⟨(stepF d.st ((s.data.toList.getD k 0).toNat : Int)).2, d.came + 1, false⟩ else ⟨(stepF d.st ((s.data.toList.getD k 0).toNat : Int)).2, d.came, true⟩ := by unfold oneF; rw [hdb]; rfl
        have HONE := Lib.hid hone; clear hone
        rw [← hgk] at hX0 hX HONE HUP
        have HS := Lib.hid (fun (w1 : World) (h1 : ScAt w1 b T d) => step_w b T (s[k].toNat : Int) hX0 hX d.st d.rest w1 h1 hok.out.1 hok.out.2.1 hok.out.2.2.1 hok.out.2.2.2.1 hok.out.2.2.2.2.1 (Ok.small hok.out))
        clear hX0 hX hgk
        go_wp2_with fail
        go_region_with (go_at_call 40; refine (HS.out _ ?_).mono ?_; exact hat; rintro e w1 ⟨rfl, h1, h2⟩)
        have g4 : w1.cell? ⟨b, 4, none⟩ = some (.int .i64 (d.came : Int)) := Blk.cell h1 4
        have g5 : w1.cell? ⟨b, 5, none⟩ = some (.bool d.bad) := Blk.cell h1 5
        have e4 := Blk.frozen h1 4
        have e5 := Blk.frozen h1 5
        clear k4 k5 f4 f5
        cases hq : (stepF d.st (s[k].toNat : Int)).1 with
        | true =>
          have HQ := Lib.hid hq; clear hq
          go_wp2_with fail
          go_roundw
          case rel =>
            refine ⟨k + 1, by omega, by simp, ?_, (hon.drew.trans h2).setCell 4 _⟩
            rw [HUP.out, HONE.out, if_pos HQ.out]
            refine at_of ((show Blk w1 b T _ from h1).set_ 4 _) ?_
            simp [St.cells, Sc.rest, hdb]
          case measure => simp [intOf]; omega
        | false =>
          have HQ := Lib.hid hq; clear hq
          go_wp2_with fail
          go_roundw
          case rel =>
            refine ⟨k + 1, by omega, by simp, ?_, (hon.drew.trans h2).setCell 5 _⟩
            rw [HUP.out, HONE.out, HQ.out]
            refine at_of ((show Blk w1 b T _ from h1).set_ 5 _) ?_
            simp [St.cells, Sc.rest]
          case measure => simp [intOf]; omega
    · have t0 : decide (k < s.size) = false := by simp; omega
      go_wp2_with fail
      go_ret
      rw [HSZ.out (by omega)]
      exact ⟨rfl, hat, hon⟩
/-- What End says. -/
def endF (c : Sc) : Int := if c.bad = true ∨ 0 < c.st.want then c.came else -1
set_option maxHeartbeats 1000000 in
theorem endScan_w (b : Nat) (T : TypeId) (c : Sc) (w : World) (hb : ScAt w b T c) :
    Calls Try.prog 38 #[.pointer (some ⟨b, 0, none⟩)] w fun e w' => e = .returned (.int .i64 (endF c)) ∧ w = w' := by
  have k0 : w.cell? ⟨b, 0, none⟩ = some (.int .i64 c.st.want) := Blk.cell hb 0
  have k4 : w.cell? ⟨b, 4, none⟩ = some (.int .i64 (c.came : Int)) := Blk.cell hb 4
  have k5 : w.cell? ⟨b, 5, none⟩ = some (.bool c.bad) := Blk.cell hb 5
  have f0 := Blk.frozen hb 0
  have f4 := Blk.frozen hb 4
  have f5 := Blk.frozen hb 5
  cases hc : c.bad with
  | true =>
    rw [show endF c = c.came by unfold endF; rw [if_pos (Or.inl hc)]]
    rw [hc] at k5
    go_enter Try.func38, Try.ntmps38
    go_wp2_with fail
    go_ret
    exact ⟨rfl, rfl⟩
  | false =>
    rw [hc] at k5
    by_cases h : 0 < c.st.want
    · rw [show endF c = c.came by unfold endF; rw [if_pos (Or.inr h)]]
      have t0 : decide (c.st.want > 0) = true := by simp; omega
      have t1 : decide (0 < c.st.want) = true := by simp; omega
      clear h
      go_enter Try.func38, Try.ntmps38
      go_wp2_with fail
      go_ret
      exact ⟨rfl, rfl⟩
    · rw [show endF c = -1 by unfold endF; rw [if_neg (by simp [hc]; omega)]]
      have t0 : decide (c.st.want > 0) = false := by simp; omega
      have t1 : decide (0 < c.st.want) = false := by simp; omega
      clear h
      go_enter Try.func38, Try.ntmps38
      go_wp2_with fail
      go_ret
      exact ⟨rfl, rfl⟩
/-- Ahead of all pieces. -/
def st0 : St := ⟨0, 0, 0, 0⟩
def sc0 : Sc := ⟨st0, 0, false⟩
theorem ok0 : Ok st0 := by unfold Ok st0; simp
/-- What Bad says. -/
def badF (s : ByteArray) : Int := endF (upF s sc0 s.size)
set_option maxHeartbeats 1000000 in
theorem bad_w (s : ByteArray) (hs : s.size ≤ 1125899906842624) (w : World) :
    Calls Try.prog 19 #[.string s] w fun e w' => e = .returned (.int .i64 (badF s)) ∧ Below w.heap.size w w' := by
  have HF := Lib.hid (fun (w1 : World) T (b : Nat) (h : ScAt w1 b T sc0) => feed_w b T s hs sc0 ok0 (by decide) w1 h)
  go_enter Try.func19, Try.ntmps19
  go_wp2_with fail
  refine (HF.out _ _ w.heap.size (Blk.new w _ _)).mono ?_; rintro e w1 ⟨rfl, h1, h2⟩
  go_wp2_with fail
  refine (endScan_w _ _ _ _ h1).mono ?_; rintro e w2 ⟨rfl, rfl⟩
  go_wp2_with fail
  go_ret
  exact ⟨rfl, ((Below.refl _ w).alloc (Nat.le_refl _) _).trans (h2.below (Nat.le_refl _) (by simp))⟩
end Go.Proofs.Ytlfkhfmepcnfeaa.Utf
