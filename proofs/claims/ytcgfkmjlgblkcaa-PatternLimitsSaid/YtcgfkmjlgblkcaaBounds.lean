/- The walk of PatternBounds. -/
import Derived.Test.YtcgfkmjlgblkcaaPatV
namespace Go.Proofs.Ytcgfkmjlgblkcaa.Pat
set_option linter.unusedVariables false
set_option linter.unusedSimpArgs false
open Go.RowKit Go.Proofs.Ytcgfkmjlgblkcaa.Mem Go.Proofs.Ytcgfkmjlgblkcaa.Own

theorem RecsAt.drewN {w : World} {a0 : Option Addr} {R : List Rec} (h : RecsAt w a0 R) (q : Nat) : RecsAt (w.drewN q) a0 R := ⟨h.at_⟩
theorem PatS.drewN {w : World} {B p : Nat} {F : Nat → Prop} {room : Int} {R : List Rec} {a : Int} (h : PatS w B p F room R a) (q : Nat) : PatS (w.drewN q) B p F room R a := h.touch ((Touch.refl noS w).drewN q) (fun _ _ => id)
def LawPost (w : World) (e : Ending) (w' : World) : Prop := e = .returned (.bool true) ∧ Below w.heap.size w w'
theorem keys_str {x y : Rec} (h : ¬ sameKey x y) (h1 : x.route = y.route) : x.name ≠ y.name := fun h2 => h ⟨h1, h2⟩
theorem str_ne {a b : ByteArray} (h : a ≠ b) : (a.toList == b.toList) = false := by
  rw [← beq_toListBytes]
  rcases a with ⟨a⟩
  rcases b with ⟨b⟩
  show (a == b) = false
  rw [beq_eq_false_iff_ne]
  exact fun e => h (congrArg ByteArray.mk e)
theorem drawn1 {w w3 : World} {q a : Nat} (h : w = w3.drewN q) : w.drewN a = w3.drewN (q + a) := by rw [h, World.drewN_drewN]
theorem drawn2 {w w3 : World} {q a b : Nat} (h : w = w3.drewN q) : (w.drewN a).drewN b = w3.drewN (q + (a + b)) := by rw [h, World.drewN_drewN, World.drewN_drewN]
theorem pw_ra {P : Rec → Rec → Prop} {l : List Rec} (h : l.Pairwise P) {j k : Nat} (hjk : j < k) (hk : k < l.length) : P (ra l j) (ra l k) := by
  have h1 := List.pairwise_iff_getElem.1 h j k (by omega) hk hjk
  have a1 := ra_get l j (by omega)
  have a2 := ra_get l k hk
  rw [List.getElem?_eq_getElem (by omega)] at a1
  rw [List.getElem?_eq_getElem hk] at a2
  rw [Option.some.inj a1, Option.some.inj a2] at h1
  exact h1
set_option maxHeartbeats 8000000 in
set_option maxRecDepth 100000 in
theorem bounds (rm : Int) (a0 : Option Addr) (n cap : Nat) (ops : List OpR) (w : World) (hn : n = ops.length) (hm : n < 17592186044400) (ho : OpsAt w a0 ops) (hw : ∀ x ∈ ops, oWf x) :
    Calls Try.prog 7 #[.int .i64 rm, .slice a0 n cap] w (LawPost w) := by
  have HA := Lib.hid awake_w
  have HP := Lib.hid (fun W => pick_w rm 40 W (by omega) (by omega))
  have r0 : 0 ≤ rm % 40 := by omega
  have r1 : rm % 40 < 40 := by omega
  have HO := Lib.hid ho; clear ho
  have HW := Lib.hid hw; clear hw
  have HNN := Lib.hid hn; clear hn
  have HLS := Lib.hid (fun W hb => learns_w (rm % 40) a0 n cap ops W r0 (by omega) HNN.out hm (HO.out.below hb) HW.out)
  generalize rm % 40 = room at *
  go_enter Try.func7, Try.ntmps7
  go_wp2_with fail
  refine (HA.out _).mono ?_; rintro e w1 ⟨rfl, hb1⟩
  go_wp2_with fail
  refine (HP.out _).mono ?_; rintro e w1' ⟨rfl, rfl⟩
  go_wp2_with fail
  refine (HLS.out _ hb1).mono ?_; rintro e w2 ⟨p, F, rfl, hpat, hb2⟩
  have hb12 := hb1.trans (hb2.mono hb1.size)
  have HALL := Lib.hid (all_s w2 _ p F room _ _ hpat)
  go_wp2_with fail
  refine HALL.out.mono ?_; rintro e w3 ⟨v3, rfl, hrow, hb3⟩
  have hb13 := hb12.trans (hb3.mono hb12.size)
  obtain ⟨l0, lcap, rfl, hrec, -⟩ := hrow.form
  have hpat3 := hpat.below hb3
  have hperm := allF_perm (learnAll room [] ops)
  have hlen := hperm.length_eq
  have hroom := hpat3.room.1
  have hwf := hpat3.wf
  have hhits := learnAll_hits room ops [] (by simp)
  have hsort := allF_sorted (learnAll room [] ops)
  have hkeys : (allF (learnAll room [] ops)).Pairwise fun x y => ¬ sameKey x y := (hperm.symm.pairwise_iff (fun {a b} h k => h ⟨k.1.symm, k.2.symm⟩)).1 hwf.2
  have HSZ := Lib.hid (fun W (h : PatS W w1'.heap.size p F room (learnAll room [] ops) (ops.length : Int)) => size_s W _ p F room (learnAll room [] ops) _ h)
  have HGU := Lib.hid (fun W (h : PatS W w1'.heap.size p F room (learnAll room [] ops) (ops.length : Int)) r s hr hs => guess_s W _ p F room (learnAll room [] ops) _ r s h hr hs)
  have hgo : ∀ x ∈ allF (learnAll room [] ops), guessF (learnAll room [] ops) x.route x.name = (x.place, true) := fun x hx => guess_own hwf.2 (hperm.mem_iff.1 hx)
  have hxw : ∀ x ∈ allF (learnAll room [] ops), rWf x ∧ 1 ≤ x.hits ∧ 0 ≤ x.place := fun x hx => ⟨(hwf.1 x (hperm.mem_iff.1 hx)).2, hhits x (hperm.mem_iff.1 hx), (hwf.1 x (hperm.mem_iff.1 hx)).1.1⟩
  have hlast := fun i hi h0 hl hr => bounds_last (room := room) (ops := ops) (i := i) hi h0 hl hr
  have hnone := fun hl => bounds_none (room := room) (ops := ops) hl
  have hzero := fun h => learnAll_zero (room := room) h ops
  have hlen4 := hpat3.len
  have HPAT := Lib.hid hpat3
  have HREC := Lib.hid hrec
  have HGO := Lib.hid hgo
  have HXW := Lib.hid hxw
  have HSRT := Lib.hid hsort
  have HKEY := Lib.hid hkeys
  have HLAST := Lib.hid hlast
  have HNONE := Lib.hid hnone
  have HZERO := Lib.hid hzero
  have HLEN := Lib.hid hlen
  clear hpat hrow hrec hpat3 hperm hwf hhits hsort hkeys hgo hxw hlast hnone hzero
  generalize learnAll room [] ops = R at *
  generalize allF R = l at *
  have tl : decide (room < (l.length : Int)) = false := decide_eq_false (by omega)
  have tl2 : ((R.length : Int) != (l.length : Int)) = false := by simp; omega
  obtain ⟨N, hN⟩ : ∃ N, N = l.length := ⟨_, rfl⟩
  have HNL := Lib.hid hN
  rw [← hN] at tl tl2
  have hN4 : N ≤ 4096 := by omega
  rw [← hN]
  clear hN hlen hroom hlen4
  go_wp2_with fail
  refine (HSZ.out w3 HPAT.out).mono ?_; rintro e w3' ⟨rfl, rfl⟩
  go_wp2_with fail
  clear tl tl2 hb3
  go_loopw [7] (fun i wr => ∃ k : Nat, k ≤ N ∧ i = .int .i64 k ∧ ∃ q, Hid (wr = w3'.drewN q)) (fun i _ => N - (intOf i).toNat)
  case atStart => exact ⟨0, Nat.zero_le _, rfl, 0, Lib.hid rfl⟩
  case round =>
    obtain ⟨k, hk, rfl, q, hq⟩ := hrel
    have hrw : RecsAt wr l0 l := by rw [hq.out]; exact HREC.out.drewN q
    have hpw : PatS wr w1'.heap.size p F room R (ops.length : Int) := by rw [hq.out]; exact HPAT.out.drewN q
    have HRW := Lib.hid hrw
    have HPW := Lib.hid hpw
    clear hrw hpw
    by_cases hkn : k < N
    · have hkl : k < l.length := by rw [← HNL.out]; exact hkn
      obtain ⟨b, off, rfl, -, c0, c1, c2, c3⟩ := HRW.out.at_ k hkl
      have hxw := HXW.out _ (ra_mem hkl)
      have hgx := HGO.out _ (ra_mem hkl)
      obtain ⟨x, hx⟩ : ∃ x, ra l k = x := ⟨_, rfl⟩
      rw [hx] at c0 c1 c2 c3 hxw hgx
      have HX := Lib.hid hx
      obtain ⟨⟨s1, s2, -⟩, x1, x2⟩ := hxw
      have HG := Lib.hid (fun W h => HGU.out W h x.route x.name s1 s2)
      rw [hgx] at HG
      have tk : decide ((k : Int) < (N : Int)) = true := by simp; omega
      have hr0 : (0 : Int) ≤ (k : Int) := by omega
      have hr1 : (k : Int) < (N : Int) := by omega
      have tp : (x.place != x.place) = false := by simp
      have th : decide (x.hits < 1) = false := decide_eq_false (by omega)
      have tpl : decide (x.place < 0) = false := decide_eq_false (by omega)
      have HKL := Lib.hid hkl
      clear hx hgx hkl s1 s2 x1 x2
      go_wp2_with fail
      go_quiet ((go_at_call 18; exact Calls.quiet_of_same (HG.out _ (HPW.out.drewN _))))
      go_wp2_with fail
      by_cases hk0 : 0 < k
      · have t0 : decide ((0 : Int) < (k : Int)) = true := by simp; omega
        have hpl : k - 1 < l.length := by rw [← HNL.out]; omega
        obtain ⟨b', off', hbb, -, e0, e1, e2, e3⟩ := HRW.out.at_ (k - 1) hpl
        cases hbb
        have hs := pw_ra HSRT.out (j := k - 1) (k := k) (by omega) HKL.out
        rw [HX.out] at hs
        obtain ⟨k', rfl⟩ : ∃ k', k = k' + 1 := ⟨k - 1, by omega⟩
        have e3' : wr.cell? ⟨b, off + k' * 4 + 3, none⟩ = some (.int .i64 (ra l k').hits) := e3
        have th2 : decide ((ra l k').hits < x.hits) = false := decide_eq_false (by have := hs; simp at this; omega)
        have hki : ((k' + 1 : Nat) : Int) - 1 = (k' : Int) := by omega
        have hwi : IntKind.i64.wrap (((k' + 1 : Nat) : Int) - 1) = (k' : Int) := by rw [IntWalk.i64_in _ (by omega)]; exact hki
        have hwi2 : IntKind.i64.wrap ((k' : Int) + 1 - 1) = (k' : Int) := by rw [IntWalk.i64_in _ (by omega)]; omega
        have hq0 : (0 : Int) ≤ (k' : Int) := by omega
        have hq1 : (k' : Int) < (N : Int) := by omega
        clear e0 e1 e2 e3 hs hpl
        go_quiet (fail)
        clear c2 c3 e3' th th2 tp tpl hwi hwi2 hki hq0 hq1
        go_wp2_with fail
        have cc0 : Hid (ra l (k' + 1) = x) := HX
        clear c0 c1
        go_loopw [10] (fun i2 wr2 => ∃ j : Nat, j ≤ k' + 1 ∧ i2 = .int .i64 j ∧ ∃ q, Hid (wr2 = w3'.drewN q)) (fun i2 _ => k' + 1 - (intOf i2).toNat)
        case atStart => exact ⟨0, Nat.zero_le _, rfl, _, Lib.hid (drawn2 hq.out)⟩
        case round =>
          obtain ⟨j, hj, rfl, q2, hq2⟩ := hrel
          by_cases hjk : j < k' + 1
          · have hjl : j < l.length := by have := HKL.out; omega
            have hrj : RecsAt wr (some ⟨b, off, none⟩) l := by rw [hq2.out]; exact HREC.out.drewN q2
            obtain ⟨b1, off1, hb1', -, c0, c1, c2, c3⟩ := hrj.at_ (k' + 1) HKL.out
            cases hb1'
            obtain ⟨b2, off2, hb2', -, d0, d1, d2, d3⟩ := hrj.at_ j hjl
            cases hb2'
            rw [HX.out] at c0 c1
            have hne := pw_ra HKEY.out hjk HKL.out
            rw [HX.out] at hne
            obtain ⟨y, hy⟩ : ∃ y, ra l j = y := ⟨_, rfl⟩
            rw [hy] at d0 d1 hne
            have tj : decide ((j : Int) < ((k' + 1 : Nat) : Int)) = true := by simp; omega
            have g0 : (0 : Int) ≤ (j : Int) := by omega
            have g1 : (j : Int) < (N : Int) := by omega
            clear hy c2 c3 d2 d3 hrj hjl
            by_cases hr : x.route = y.route
            · have t1 : (x.route.toList == y.route.toList) = true := by rw [hr]; simp
              have t2 := str_ne (keys_str (fun h => hne ⟨h.1.symm, h.2.symm⟩) hr)
              clear hr hne
              go_wp2_with fail
              go_quiet (fail)
              go_wp2_with fail
              go_roundw
              case rel => exact ⟨j + 1, by omega, by go_num, _, Lib.hid (drawn1 hq2.out)⟩
              case measure => simp [intOf]; omega
            · have t1 := str_ne hr
              clear hr hne
              go_wp2_with fail
              go_quiet (fail)
              go_wp2_with fail
              go_roundw
              case rel => exact ⟨j + 1, by omega, by go_num, _, Lib.hid (drawn1 hq2.out)⟩
              case measure => simp [intOf]; omega
          · obtain rfl : j = k' + 1 := by omega
            have tj : decide (((k' + 1 : Nat) : Int) < ((k' + 1 : Nat) : Int)) = false := by simp
            go_wp2_with fail
            go_roundw
            case rel => exact ⟨k' + 1 + 1, by omega, by go_num, _, hq2⟩
            case measure => simp [intOf]; omega
      · obtain rfl : k = 0 := by omega
        have t0 : decide ((0 : Int) < ((0 : Nat) : Int)) = false := rfl
        go_quiet (fail)
        clear c2 c3 th tp tpl
        go_wp2_with fail
        refine wp_loop_rounds 1 ?_
        rw [rounds_succ]
        go_wp2_with fail
        go_roundw
        case rel => exact ⟨1, by omega, by go_num, _, Lib.hid (drawn1 hq.out)⟩
        case measure => simp [intOf]; omega
    · obtain rfl : N = k := by omega
      have tk : decide ((N : Int) < (N : Int)) = false := by simp
      go_wp2_with fail
      clear tk hk hkn HRW HPW
      go_loopw [11] (fun i wr2 => ∃ j : Nat, j ≤ n ∧ i = .int .i64 ((j : Int) - 1) ∧ (∃ q, Hid (wr2 = w3'.drewN q)) ∧ Hid (∀ t, j ≤ t → t < ops.length → (oa ops t).place < 0)) (fun i _ => (intOf i + 1).toNat)
      case atStart => exact ⟨n, Nat.le_refl _, rfl, ⟨_, hq⟩, Lib.hid (fun t h1 h2 => by have := HNN.out; omega)⟩
      case round =>
        obtain ⟨j, hj, rfl, ⟨q2, hq2⟩, hneg⟩ := hrel
        by_cases hj0 : j = 0
        · subst hj0
          have hR := HNONE.out (fun t ht => hneg.out t (Nat.zero_le _) ht)
          have hN0 : N = 0 := by rw [HNL.out, HLEN.out, hR]; rfl
          subst hN0
          have tj : decide ((0 : Int) ≤ ((0 : Nat) : Int) - 1) = false := rfl
          clear hR
          go_wp2_with fail
          go_ret
          refine ⟨rfl, ?_⟩
          rw [hq2.out]; exact bdrewN hb13 _
        · obtain ⟨j, rfl⟩ : ∃ j', j = j' + 1 := ⟨j - 1, by omega⟩
          have hji : ((j + 1 : Nat) : Int) - 1 = (j : Int) := by omega
          rw [hji]
          have hjl : j < ops.length := by have := HNN.out; omega
          obtain ⟨b1, off1, rfl, hblt, c0, c1, c2, c3, c4⟩ := HO.out.at_ j hjl
          have hbw : Below w.heap.size w wr := by rw [hq2.out]; exact bdrewN hb13 _
          have hpw : PatS wr w1'.heap.size p F room R (ops.length : Int) := by rw [hq2.out]; exact HPAT.out.drewN q2
          have e2 := (hbw.cell (p := ⟨b1, off1 + j * 5 + 2, none⟩) hblt).trans c2
          have e3 := (hbw.cell (p := ⟨b1, off1 + j * 5 + 3, none⟩) hblt).trans c3
          have e4 := (hbw.cell (p := ⟨b1, off1 + j * 5 + 4, none⟩) hblt).trans c4
          have hwf := HW.out _ (oa_mem hjl)
          have hlst := fun a b c => HLAST.out j hjl a b c
          have hngo := hneg.out
          obtain ⟨o, ho⟩ : ∃ o, oa ops j = o := ⟨_, rfl⟩
          rw [ho] at e2 e3 e4 hwf hlst
          have HOO := Lib.hid ho
          have HHL := Lib.hid hlst
          have HPW := Lib.hid hpw
          have HBW := Lib.hid hbw
          have HGG := Lib.hid (fun W h => HGU.out W h o.route o.name hwf.1 hwf.2.1)
          have tj : decide ((0 : Int) ≤ (j : Int)) = true := by simp
          have g0 : (0 : Int) ≤ (j : Int) := by omega
          have g1 : (j : Int) < (n : Int) := by omega
          clear hji ho hlst hngo hpw hbw c0 c1 c2 c3 c4 hjl
          by_cases hpl : 0 ≤ o.place
          · have tp : decide (0 ≤ o.place) = true := decide_eq_true hpl
            by_cases hroom : 0 < room
            · have tr : decide (0 < room) = true := decide_eq_true hroom
              have hg := HHL.out hpl (fun t h1 h2 => hneg.out t (by omega) h2) hroom
              rw [hg] at HGG
              have tpp : (o.place == o.place) = true := by simp
              clear hg
              go_wp2_with fail
              go_quiet ((go_at_call 18; exact Calls.quiet_of_same (HGG.out _ (HPW.out.drewN _))))
              go_wp2_with fail
              go_ret
              exact ⟨rfl, bdrewN HBW.out _⟩
            · have tr : decide (0 < room) = false := decide_eq_false hroom
              have hR := HZERO.out (by omega)
              have hg : guessF R o.route o.name = (0, false) := by rw [hR]; rfl
              rw [hg] at HGG
              clear hg hR
              go_wp2_with fail
              go_quiet ((go_at_call 18; exact Calls.quiet_of_same (HGG.out _ (HPW.out.drewN _))))
              go_wp2_with fail
              go_ret
              exact ⟨rfl, bdrewN HBW.out _⟩
          · have tp : decide (0 ≤ o.place) = false := decide_eq_false hpl
            go_wp2_with fail
            go_roundw
            case rel =>
              refine ⟨j, by omega, rfl, ⟨_, hq2⟩, Lib.hid (fun t h1 h2 => ?_)⟩
              by_cases e : t = j
              · subst e; rw [HOO.out]; omega
              · exact hneg.out t (by omega) h2
            case measure => simp [intOf]
end Go.Proofs.Ytcgfkmjlgblkcaa.Pat
