/- The walk of PatternCounts. -/
import Derived.Test.YtcgfkmjlgblkcaaPatT
import Derived.Test.YtcgfkmjlgblkcaaBounds
namespace Go.Proofs.Ytcgfkmjlgblkcaa.Pat
set_option linter.unusedVariables false
set_option linter.unusedSimpArgs false
open Go.RowKit Go.Proofs.Ytcgfkmjlgblkcaa.Mem Go.Proofs.Ytcgfkmjlgblkcaa.Own

/-- What the inner loop has found of a key. -/
def CI (ops : List OpR) (i j : Nat) (o : OpR) (b : Bool) (c d : Int) : Prop := (c, d) = cnt o (ops.take j) ∧ (b = true ↔ ¬ seen o (ops.take (min i j)))
theorem ci_zero (ops : List OpR) (i : Nat) (o : OpR) : CI ops i 0 o true 0 0 := ⟨rfl, by simp [seen]⟩
theorem ci_skip {ops : List OpR} {i j : Nat} {o : OpR} {b : Bool} {c d : Int} (hj : j < ops.length) (hm : ¬ (0 ≤ (oa ops j).place ∧ keyO o (oa ops j))) (h : CI ops i j o b c d) : CI ops i (j + 1) o b c d := by
  obtain ⟨h1, h2⟩ := h
  constructor
  · rw [take_snoc_o ops j hj, cnt_snoc, ← h1]
    unfold cntS
    rw [if_neg hm]
  · by_cases hji : j < i
    · rw [Nat.min_eq_right (by omega)] at h2 ⊢
      rw [take_snoc_o ops j hj, seen_snoc, h2]
      simp only [hm, or_false]
    · rw [Nat.min_eq_left (by omega)] at h2 ⊢
      exact h2
theorem ci_hit {ops : List OpR} {i j : Nat} {o : OpR} {b b' : Bool} {c d c' d' : Int} (hj : j < ops.length) (hm : 0 ≤ (oa ops j).place ∧ keyO o (oa ops j)) (hb : b' = if j < i then false else b) (hc : (c', d') = if (oa ops j).place = c then (c, d + 1) else ((oa ops j).place, 1)) (h : CI ops i j o b c d) : CI ops i (j + 1) o b' c' d' := by
  obtain ⟨h1, h2⟩ := h
  constructor
  · rw [take_snoc_o ops j hj, cnt_snoc, ← h1, hc]
    unfold cntS
    rw [if_pos hm]
  · by_cases hji : j < i
    · rw [Nat.min_eq_right (by omega)] at h2 ⊢
      rw [take_snoc_o ops j hj, seen_snoc, hb, if_pos hji]
      simp only [hm, and_self, or_true, not_true, Bool.false_eq_true]
    · rw [Nat.min_eq_left (by omega)] at h2 ⊢
      rw [hb, if_neg hji]
      exact h2
theorem ci_end {ops : List OpR} {i n : Nat} {o : OpR} {b : Bool} {c d : Int} (hn : n = ops.length) (hi : i ≤ n) (h : CI ops i n o b c d) : (c, d) = cnt o ops ∧ (b = true ↔ ¬ seen o (ops.take i)) := by
  obtain ⟨h1, h2⟩ := h
  rw [Nat.min_eq_left hi] at h2
  rw [hn, List.take_length] at h1
  exact ⟨h1, h2⟩
theorem ci_bound {ops : List OpR} {i j : Nat} {o : OpR} {b : Bool} {c d : Int} (hw : ∀ x ∈ ops, oWf x) (h : CI ops i j o b c d) : 0 ≤ d ∧ d ≤ (ops.length : Int) ∧ -9223372036854775808 ≤ c ∧ c ≤ 9223372036854775807 := by
  have h1 := cnt_le o (ops.take j)
  have h2 := cnt_place (o := o) (ops := ops.take j) (lo := -9223372036854775808) (hi := 9223372036854775807) (by omega) (fun q hq => (hw q (List.mem_of_mem_take hq)).2.2)
  rw [← h.1] at h1 h2
  rw [List.length_take] at h1
  simp at h1 h2
  omega
set_option maxHeartbeats 8000000 in
set_option maxRecDepth 100000 in
theorem counts (a0 : Option Addr) (n cap : Nat) (ops : List OpR) (w : World) (hn : n = ops.length) (hm : n < 17592186044400) (ho : OpsAt w a0 ops) (hw : ∀ x ∈ ops, oWf x) :
    Calls Try.prog 3 #[.slice a0 n cap] w (LawPost w) := by
  have HA := Lib.hid awake_w
  have HO := Lib.hid ho; clear ho
  have HW := Lib.hid hw; clear hw
  have HNN := Lib.hid hn; clear hn
  have HLS := Lib.hid (fun W hb => learns_w 4096 a0 n cap ops W (by omega) (by omega) HNN.out hm (HO.out.below hb) HW.out)
  go_enter Try.func3, Try.ntmps3
  go_wp2_with fail
  refine (HA.out _).mono ?_; rintro e w1 ⟨rfl, hb1⟩
  by_cases hbig : 4000 < n
  · have tb : decide ((4000 : Int) < (n : Int)) = true := by simp; omega
    go_wp2_with fail
    go_ret
    exact ⟨rfl, hb1⟩
  have tb : decide ((4000 : Int) < (n : Int)) = false := by simp; omega
  go_wp2_with fail
  refine (HLS.out _ hb1).mono ?_; rintro e w2 ⟨p, F, rfl, hpat, hb2⟩
  have hb12 := hb1.trans (hb2.mono hb1.size)
  have HALL := Lib.hid (all_s w2 _ p F 4096 _ _ hpat)
  go_wp2_with fail
  refine HALL.out.mono ?_; rintro e w3 ⟨v3, rfl, hrow, hb3⟩
  have hb13 := hb12.trans (hb3.mono hb12.size)
  obtain ⟨l0, lcap, rfl, hrec, -⟩ := hrow.form
  have hpat3 := hpat.below hb3
  have hperm := allF_perm (learnAll 4096 [] ops)
  have hlen := hperm.length_eq
  have hlt : ops.length < 4096 := by have := HNN.out; omega
  rw [counts_len hlt] at hlen
  have hin : ∀ i, i < ops.length → 0 ≤ (oa ops i).place → ¬ seen (oa ops i) (ops.take i) → ∃ t, t < (allF (learnAll 4096 [] ops)).length ∧ ra (allF (learnAll 4096 [] ops)) t = recOf ops (oa ops i) := fun i hi h0 hs => by
    have h1 := hperm.mem_iff.2 (counts_in hlt hi h0 hs)
    obtain ⟨t, ht, e⟩ := List.getElem_of_mem h1
    refine ⟨t, ht, ?_⟩
    have := ra_get (allF (learnAll 4096 [] ops)) t ht
    rw [List.getElem?_eq_getElem ht] at this
    rw [← Option.some.inj this, e]
  have HREC := Lib.hid hrec
  have HIN := Lib.hid hin
  have HLEN := Lib.hid hlen
  clear hpat hrow hrec hpat3 hperm hin
  generalize allF (learnAll 4096 [] ops) = l at *
  obtain ⟨N, hN⟩ : ∃ N, N = l.length := ⟨_, rfl⟩
  have HNL := Lib.hid hN
  have hN4 : N ≤ 4096 := by have := fst_length ops; omega
  rw [← hN]
  clear hN hlen hb3 tb
  go_wp2_with fail
  go_loopw [5, 6] (fun m i wr => ∃ k : Nat, k ≤ n ∧ i = .int .i64 k ∧ m = .int .i64 ((fst (ops.take k)).length : Int) ∧ ∃ q, Hid (wr = w3.drewN q)) (fun _ i _ => n - (intOf i).toNat)
  case atStart => exact ⟨0, Nat.zero_le _, rfl, rfl, 0, Lib.hid rfl⟩
  case round =>
    obtain ⟨k, hk, rfl, rfl, q, hq⟩ := hrel
    by_cases hkn : k < n
    · have hkl : k < ops.length := by rw [← HNN.out]; exact hkn
      have hbw : Below w.heap.size w wr := by rw [hq.out]; exact bdrewN hb13 _
      obtain ⟨b, off, rfl, hblt, c0, c1, o2, o3, o4⟩ := HO.out.at_ k hkl
      have c4 := (hbw.cell (p := ⟨b, off + k * 5 + 4, none⟩) hblt).trans o4
      have hft := fst_take hkl
      have hmt : ((fst (ops.take k)).length) ≤ k := by have := fst_length (ops.take k); simp at this; omega
      obtain ⟨o, ho⟩ : ∃ o, oa ops k = o := ⟨_, rfl⟩
      rw [ho] at c4 hft o2 o3 o4
      have HOO := Lib.hid ho
      have tk : decide ((k : Int) < (n : Int)) = true := by simp; omega
      have g0 : (0 : Int) ≤ (k : Int) := by omega
      have g1 : (k : Int) < (n : Int) := by omega
      have HFT := Lib.hid hft
      generalize hM : (fst (ops.take k)).length = M at hmt ⊢
      have HM := Lib.hid hM
      clear ho hft hM c0 c1 hbw
      by_cases hp0 : o.place < 0
      · have tp : decide (o.place < 0) = true := decide_eq_true hp0
        go_wp2_with fail
        go_roundw
        case rel =>
          refine ⟨k + 1, by omega, by go_num, ?_, _, hq⟩
          rw [HFT.out, if_neg (by omega), HM.out]
        case measure => simp [intOf]; omega
      · have tp : decide (o.place < 0) = false := decide_eq_false hp0
        go_wp2_with fail
        clear c4 tp
        go_loopw [7, 8, 9, 10] (fun fi pl hi i2 wr2 => ∃ (j : Nat) (b : Bool) (c d : Int), j ≤ n ∧ i2 = .int .i64 j ∧ fi = .bool b ∧ pl = .int .i64 c ∧ hi = .int .i64 d ∧ Hid (CI ops k j o b c d) ∧ ∃ q, Hid (wr2 = w3.drewN q)) (fun _ _ _ i2 _ => n - (intOf i2).toNat)
        case atStart => exact ⟨0, true, 0, 0, Nat.zero_le _, rfl, rfl, rfl, rfl, Lib.hid (ci_zero _ _ _), _, hq⟩
        case round =>
          obtain ⟨j, b2, c, d, hj, rfl, rfl, rfl, rfl, hci, q2, hq2⟩ := hrel
          by_cases hjn : j < n
          · have hjl : j < ops.length := by rw [← HNN.out]; exact hjn
            have hbw : Below w.heap.size w wr := by rw [hq2.out]; exact bdrewN hb13 _
            obtain ⟨b', off', hbb, -, d0, d1, d2, d3, d4⟩ := HO.out.at_ j hjl
            cases hbb
            have c2 := (hbw.cell (p := ⟨b, off + k * 5 + 2, none⟩) hblt).trans o2
            have c3 := (hbw.cell (p := ⟨b, off + k * 5 + 3, none⟩) hblt).trans o3
            have e2 := (hbw.cell (p := ⟨b, off + j * 5 + 2, none⟩) hblt).trans d2
            have e3 := (hbw.cell (p := ⟨b, off + j * 5 + 3, none⟩) hblt).trans d3
            have e4 := (hbw.cell (p := ⟨b, off + j * 5 + 4, none⟩) hblt).trans d4
            have hskip := fun h => ci_skip hjl h hci.out
            have hhit := fun b' c' d' h1 h2 h3 => ci_hit (b' := b') (c' := c') (d' := d') hjl h1 h2 h3 hci.out
            obtain ⟨hd0, hd1, -, -⟩ := ci_bound HW.out hci.out
            obtain ⟨x, hx⟩ : ∃ x, oa ops j = x := ⟨_, rfl⟩
            rw [hx] at e2 e3 e4 hskip hhit
            have HSK := Lib.hid hskip
            have HHT := Lib.hid hhit
            have tj : decide ((j : Int) < (n : Int)) = true := by simp; omega
            have g2 : (0 : Int) ≤ (j : Int) := by omega
            have g3 : (j : Int) < (n : Int) := by omega
            have hwi : IntKind.i64.wrap (d + 1) = d + 1 := IntWalk.i64_in _ (by have := HNN.out; omega)
            have hdle : ops.length ≤ n := by have := HNN.out; omega
            clear hskip hhit hx d0 d1 d2 d3 d4 hbw hci hjl
            by_cases hxp : x.place < 0
            · have t0 : decide (x.place < 0) = true := decide_eq_true hxp
              clear hd0 hd1 hdle c2 c3 e2 e3
              go_wp2_with fail
              go_quiet (fail)
              go_wp2_with fail
              go_roundw
              case rel => exact ⟨j + 1, _, _, _, by omega, by go_num, rfl, rfl, rfl, Lib.hid (HSK.out (fun h => by omega)), _, Lib.hid (drawn1 hq2.out)⟩
              case measure => simp [intOf]; omega
            · have t0 : decide (x.place < 0) = false := decide_eq_false hxp
              by_cases hr : x.route = o.route
              · have t1 : (x.route.toList == o.route.toList) = true := by rw [hr]; simp
                by_cases hs : x.name = o.name
                · have t2 : (x.name.toList == o.name.toList) = true := by rw [hs]; simp
                  by_cases hji : j < k
                  · have t3 : decide ((j : Int) < (k : Int)) = true := by simp; omega
                    by_cases hpc : x.place = c
                    · have t4 : (x.place != c) = false := by simp [hpc]
                      have hci2 := HHT.out false c (d + 1) ⟨by omega, hr, hs⟩ (by rw [if_pos hji]) (by rw [if_pos hpc])
                      clear hpc
                      go_wp2_with fail
                      go_quiet (fail)
                      go_wp2_with fail
                      go_roundw
                      case rel => exact ⟨j + 1, _, _, _, by omega, by go_num, rfl, rfl, rfl, Lib.hid hci2, _, Lib.hid (drawn1 hq2.out)⟩
                      case measure => simp [intOf]; omega
                    · have t4 : (x.place != c) = true := by simp [hpc]
                      have hci2 := HHT.out false x.place 1 ⟨by omega, hr, hs⟩ (by rw [if_pos hji]) (by rw [if_neg hpc])
                      clear hpc
                      go_wp2_with fail
                      go_quiet (fail)
                      go_wp2_with fail
                      go_roundw
                      case rel => exact ⟨j + 1, _, _, _, by omega, by go_num, rfl, rfl, rfl, Lib.hid hci2, _, Lib.hid (drawn1 hq2.out)⟩
                      case measure => simp [intOf]; omega
                  · have t3 : decide ((j : Int) < (k : Int)) = false := by simp; omega
                    by_cases hpc : x.place = c
                    · have t4 : (x.place != c) = false := by simp [hpc]
                      have hci2 := HHT.out b2 c (d + 1) ⟨by omega, hr, hs⟩ (by rw [if_neg hji]) (by rw [if_pos hpc])
                      clear hpc
                      go_wp2_with fail
                      go_quiet (fail)
                      go_wp2_with fail
                      go_roundw
                      case rel => exact ⟨j + 1, _, _, _, by omega, by go_num, rfl, rfl, rfl, Lib.hid hci2, _, Lib.hid (drawn1 hq2.out)⟩
                      case measure => simp [intOf]; omega
                    · have t4 : (x.place != c) = true := by simp [hpc]
                      have hci2 := HHT.out b2 x.place 1 ⟨by omega, hr, hs⟩ (by rw [if_neg hji]) (by rw [if_neg hpc])
                      clear hpc
                      go_wp2_with fail
                      go_quiet (fail)
                      go_wp2_with fail
                      go_roundw
                      case rel => exact ⟨j + 1, _, _, _, by omega, by go_num, rfl, rfl, rfl, Lib.hid hci2, _, Lib.hid (drawn1 hq2.out)⟩
                      case measure => simp [intOf]; omega
                · have t2 := str_ne hs
                  go_wp2_with fail
                  go_quiet (fail)
                  go_wp2_with fail
                  go_roundw
                  case rel => exact ⟨j + 1, _, _, _, by omega, by go_num, rfl, rfl, rfl, Lib.hid (HSK.out (fun h => hs h.2.2)), _, Lib.hid (drawn1 hq2.out)⟩
                  case measure => simp [intOf]; omega
              · have t1 := str_ne hr
                go_wp2_with fail
                go_quiet (fail)
                go_wp2_with fail
                go_roundw
                case rel => exact ⟨j + 1, _, _, _, by omega, by go_num, rfl, rfl, rfl, Lib.hid (HSK.out (fun h => hr h.2.1)), _, Lib.hid (drawn1 hq2.out)⟩
                case measure => simp [intOf]; omega
          · obtain rfl : j = n := by omega
            have tj : decide ((j : Int) < (j : Int)) = false := by simp
            obtain ⟨hcd, hbs⟩ := ci_end HNN.out (Nat.le_of_lt hkn) hci.out
            have hdm := (ci_bound HW.out hci.out).2.1
            cases b2 with
            | false =>
              go_wp2_with fail
              go_roundw
              case rel =>
                refine ⟨k + 1, by omega, by go_num, ?_, _, hq2⟩
                have hs : seen o (ops.take k) := Classical.byContradiction fun h => absurd (hbs.2 h) (by simp)
                rw [HFT.out, if_neg (fun h => h.2 hs), HM.out]
              case measure => simp [intOf]; omega
            | true =>
              have hns : ¬ seen o (ops.take k) := hbs.1 rfl
              have hmm : (fst (ops.take (k + 1))).length = M + 1 := by rw [HFT.out, if_pos ⟨by omega, hns⟩, List.length_append, HM.out]; rfl
              have HMM := Lib.hid hmm
              obtain ⟨t, ht, htr⟩ := HIN.out k hkl (by rw [HOO.out]; omega) (by rw [HOO.out]; exact hns)
              rw [HOO.out] at htr
              have hrec : recOf ops o = ⟨o.route, o.name, c, d⟩ := by unfold recOf; rw [← hcd]
              rw [hrec] at htr
              have HTR := Lib.hid htr
              have hwm : IntKind.i64.wrap ((M : Int) + 1) = (M : Int) + 1 := IntWalk.i64_in _ (by omega)
              clear hbs hcd hns hmm htr hrec hci
              go_wp2_with fail
              go_loopw [11, 12] (fun fo i3 wr3 => ∃ (s : Nat) (fb : Bool), s ≤ N ∧ i3 = .int .i64 s ∧ fo = .bool fb ∧ Hid (fb = true ↔ ∃ t, t < s ∧ ra l t = ⟨o.route, o.name, c, d⟩) ∧ ∃ q, Hid (wr3 = w3.drewN q)) (fun _ i3 _ => N - (intOf i3).toNat)
              case atStart => exact ⟨0, false, Nat.zero_le _, rfl, rfl, Lib.hid (by simp), _, hq2⟩
              case round =>
                obtain ⟨s, fb, hs, rfl, rfl, hfb, q3, hq3⟩ := hrel
                by_cases hsN : s < N
                · have hsl : s < l.length := by rw [← HNL.out]; exact hsN
                  have hrw : RecsAt wr l0 l := by rw [hq3.out]; exact HREC.out.drewN q3
                  have hbw : Below w.heap.size w wr := by rw [hq3.out]; exact bdrewN hb13 _
                  obtain ⟨b1, off1, rfl, -, f0, f1, f2, f3⟩ := hrw.at_ s hsl
                  have c2 := (hbw.cell (p := ⟨b, off + k * 5 + 2, none⟩) hblt).trans o2
                  have c3 := (hbw.cell (p := ⟨b, off + k * 5 + 3, none⟩) hblt).trans o3
                  obtain ⟨x, hx⟩ : ∃ x, ra l s = x := ⟨_, rfl⟩
                  rw [hx] at f0 f1 f2 f3
                  have hne := fun W => rec_eql x ⟨o.route, o.name, c, d⟩ W
                  have ts : decide ((s : Int) < (N : Int)) = true := by simp; omega
                  have g2 : (0 : Int) ≤ (s : Int) := by omega
                  have g3 : (s : Int) < (N : Int) := by omega
                  have HX := Lib.hid hx
                  clear hx hsl hrw hbw
                  cases hbx : recB x ⟨o.route, o.name, c, d⟩ with
                  | true =>
                    rw [hbx] at hne
                    go_wp2_with fail
                    go_quiet (fail)
                    go_wp2_with fail
                    go_roundw
                    case rel => exact ⟨s + 1, true, by omega, by go_num, rfl, Lib.hid ⟨fun _ => ⟨s, by omega, HX.out.trans (recB_eq hbx)⟩, fun _ => rfl⟩, _, Lib.hid (drawn1 hq3.out)⟩
                    case measure => simp [intOf]; omega
                  | false =>
                    rw [hbx] at hne
                    go_wp2_with fail
                    go_quiet (fail)
                    go_wp2_with fail
                    go_roundw
                    case rel =>
                      refine ⟨s + 1, fb, by omega, by go_num, rfl, Lib.hid (hfb.out.trans ⟨fun ⟨t, ht, e⟩ => ⟨t, by omega, e⟩, fun ⟨t, ht, e⟩ => ?_⟩), _, Lib.hid (drawn1 hq3.out)⟩
                      by_cases ets : t = s
                      · subst ets
                        rw [HX.out] at e
                        rw [e, recB_self] at hbx
                        exact absurd hbx (by simp)
                      · exact ⟨t, by omega, e⟩
                    case measure => simp [intOf]; omega
                · obtain rfl : s = N := by omega
                  have ts : decide ((s : Int) < (s : Int)) = false := by simp
                  have hft : fb = true := hfb.out.2 ⟨t, by rw [HNL.out]; exact ht, HTR.out⟩
                  subst hft
                  go_wp2_with fail
                  go_roundw
                  case rel => exact ⟨k + 1, by omega, by go_num, by rw [HMM.out]; rfl, _, hq3⟩
                  case measure => simp [intOf]; omega
    · obtain rfl : n = k := by omega
      have tk : decide ((n : Int) < (n : Int)) = false := by simp
      have e : ops.take n = ops := by rw [HNN.out, List.take_length]
      have tl : (((fst (ops.take n)).length : Int) == (N : Int)) = true := by rw [e, HNL.out, HLEN.out]; simp
      clear e
      go_wp2_with fail
      go_ret
      refine ⟨rfl, ?_⟩
      rw [hq.out]; exact bdrewN hb13 _
end Go.Proofs.Ytcgfkmjlgblkcaa.Pat
