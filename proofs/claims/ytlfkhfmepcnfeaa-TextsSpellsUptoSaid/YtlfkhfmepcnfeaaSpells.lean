/- The walk of the law TextsSpells. -/
import Derived.Test.YtlfkhfmepcnfeaaSpN
import Derived.Laws.Cover4
import Derived.Stop.RegionWithIn
import Derived.Deep.RegionHeld3
import Derived.Deep.MidRow
namespace Go.Proofs.Ytlfkhfmepcnfeaa.Txt
set_option linter.unusedVariables false
set_option linter.unusedSimpArgs false
open Go.RowKit Go.Proofs.Ytlfkhfmepcnfeaa.Mem Go.Proofs.Ytlfkhfmepcnfeaa.Own Go.Proofs.Ytlfkhfmepcnfeaa.Utf Go.Proofs.Ytlfkhfmepcnfeaa.Bld Go.Proofs.Ytlfkhfmepcnfeaa.Iter

attribute [local go_sem] Oper.semAt_some
def SpAt (w : World) (g3 g4 : Nat) (wa : Option Addr) (wl wc : Nat) (pre : List (Nat × Int)) (W : World) : Prop :=
  Below w.heap.size w W ∧ Blk W w.heap.size 31 #[.slice wa wl wc] ∧ (∃ R : ByteArray, Blk W g3 9 #[.string R] ∧ SpellsAll pre R) ∧ Blk W g4 3 #[.int .i64 (pre.length : Int)]
theorem spAt_below {w : World} {g3 g4 B : Nat} {wa : Option Addr} {wl wc : Nat} {pre : List (Nat × Int)} {W W' : World} (h : SpAt w g3 g4 wa wl wc pre W) (hB : w.heap.size ≤ B) (h0 : w.heap.size < B) (h3 : g3 < B) (h4 : g4 < B) (hb : Below B W W') : SpAt w g3 g4 wa wl wc pre W' := by
  obtain ⟨a, b, ⟨A, c, d⟩, e⟩ := h
  exact ⟨a.trans (hb.mono hB), b.below hb h0, ⟨A, c.below hb h3, d⟩, e.below hb h4⟩
theorem sp_next {w : World} {g3 g4 kb B : Nat} {wa : Option Addr} {wl wc : Nat} {pre : List (Nat × Int)} {x : Nat × Int} {R X : ByteArray} {W W2 : World} {n : Int} (hbel : Below w.heap.size w W) (q0 : Blk W w.heap.size 31 #[.slice wa wl wc]) (q3 : Blk W g3 9 #[.string R]) (hR : SpellsAll pre R)
    (q4 : Blk W g4 3 #[.int .i64 (pre.length : Int)]) (hx : Spells x.2 X) (hn : n = (pre.length : Int) + 1) (hb : Below W.heap.size W W2)
    (h03 : w.heap.size < g3) (h34 : g3 < g4) (h4k : g4 < kb) (hkB : kb < B) (hBW : B ≤ W.heap.size) :
    Stays kb B W ((W2.setCell ⟨g3, 0, none⟩ (.string (R ++ X))).setCell ⟨g4, 0, none⟩ (.int .i64 n)) ∧ SpAt w g3 g4 wa wl wc (pre ++ [x]) ((W2.setCell ⟨g3, 0, none⟩ (.string (R ++ X))).setCell ⟨g4, 0, none⟩ (.int .i64 n)) := by
  refine ⟨((Stays.of_below hb).trans (Stays.setCell W2 ⟨g3, 0, none⟩ _ (by show g3 < B; omega) (by show g3 ≠ kb; omega))).trans (Stays.setCell _ ⟨g4, 0, none⟩ _ (by show g4 < B; omega) (by show g4 ≠ kb; omega)), ?_, ?_, ⟨R ++ X, ?_, spells_snoc hR hx⟩, ?_⟩
  · exact ((bthen hbel hb).setCell (p := ⟨g3, 0, none⟩) (by show w.heap.size ≤ g3; omega) _).setCell (p := ⟨g4, 0, none⟩) (by show w.heap.size ≤ g4; omega) _
  · exact ((q0.below hb q0.lt).far (by show w.heap.size ≠ g3; omega) _).far (by show w.heap.size ≠ g4; omega) _
  · exact ((q3.below hb q3.lt).set_ 0 _).far (by show g3 ≠ g4; omega) _
  · rw [show (((pre ++ [x]).length : Nat) : Int) = n by rw [hn]; simp]
    exact ((q4.below hb q4.lt).far (by show g4 ≠ g3; omega) _).set_ 0 _
set_option maxHeartbeats 4000000 in
set_option maxRecDepth 100000 in
theorem spells (s : ByteArray) (hs : s.size ≤ 1048576) (wv : Value) (wl wc : Nat) (wa : Option Addr) (hwv : wv = .slice wa wl wc) (w : World) (hways : ∀ i, i < wl → ∃ (b off : Nat) (y : UInt8), wa = some ⟨b, off, none⟩ ∧ b < w.heap.size ∧ w.cell? ⟨b, off + i, none⟩ = some (.int .u8 (y.toNat : Int))) : Calls Try.prog 7 #[.string s, .slice wa wl wc] w fun e w' => e = .returned (.bool true) ∧ Below w.heap.size w w' := by
  have HWY := Lib.hid hways; clear hways
  have hnf := fn_nil (.func 39) #[]
  have HB := Lib.hid (bad_w s (by omega))
  have HA := Lib.hid awake_w
  by_cases hb : badF s = -1
  · have tb : decide (0 ≤ badF s) = false := by rw [hb]; decide
    refine (callsIn_wide (n := 9)).1 ?_
    refine callsIn_of_wp_marks Try.func7 rfl trivial ?_ rfl
    simp only [Try.ntmps7, List.size_toArray, List.length_cons, List.length_nil, Nat.reduceAdd, Nat.reduceSub, Array.replicate_succ, Array.replicate_zero, List.push_toArray, List.append_toArray, List.nil_append, List.cons_append]
    gi_wp2_with fail
    refine ⟨trivial, ?_⟩
    refine (callsIn_wide.2 (HB.out _)).mono ?_; rintro e w1 ⟨rfl, hb1⟩
    gi_wp2_with fail
    refine ⟨trivial, ?_⟩
    have q0 : Blk w1 w.heap.size 31 #[.slice wa wl wc] := (Blk.new w _ _).below hb1 (by simp)
    have hbel : Below w.heap.size w w1 := bthen ((Below.refl _ w).alloc (Nat.le_refl _) _) hb1
    have hsz1 : w.heap.size < w1.heap.size := Blk.lt q0
    clear hb1
    have k3 : Blk ((w1.alloc (.cells #[.string ⟨#[]⟩] 9)).alloc (.cells #[.int .i64 0] 3)) w1.heap.size 9 #[.string ⟨#[]⟩] := (Blk.new w1 _ _).alloc _
    have k4 : Blk ((w1.alloc (.cells #[.string ⟨#[]⟩] 9)).alloc (.cells #[.int .i64 0] 3)) (w1.heap.size + 1) 3 #[.int .i64 0] := by
      have := Blk.new (w1.alloc (.cells #[.string ⟨#[]⟩] 9)) 3 #[.int .i64 0]
      simpa using this
    have k0 : Blk ((w1.alloc (.cells #[.string ⟨#[]⟩] 9)).alloc (.cells #[.int .i64 0] 3)) w.heap.size 31 #[.slice wa wl wc] := (q0.alloc _).alloc _
    have kb : Below w.heap.size w ((w1.alloc (.cells #[.string ⟨#[]⟩] 9)).alloc (.cells #[.int .i64 0] 3)) := (hbel.alloc hbel.size _).alloc (by have := hbel.size; simp; omega) _
    have kz : ((w1.alloc (.cells #[.string ⟨#[]⟩] 9)).alloc (.cells #[.int .i64 0] 3)).heap.size = w1.heap.size + 2 := by simp
    have kz1 : w1.heap.size + 1 < ((w1.alloc (.cells #[.string ⟨#[]⟩] 9)).alloc (.cells #[.int .i64 0] 3)).heap.size := by omega
    clear kz q0 hbel
    generalize (w1.alloc (.cells #[.string ⟨#[]⟩] 9)).alloc (.cells #[.int .i64 0] 3) = w3 at *
    refine (callsIn_wide.2 (runes_w s w3)).mono ?_; rintro e w4 ⟨rfl, hk, hb4, hz4⟩
    have h0 : SpAt w w1.heap.size (w1.heap.size + 1) wa wl wc [] w4 := ⟨bthen kb hb4, k0.below hb4 (by omega), ⟨⟨#[]⟩, k3.below hb4 (by omega), spells_nil⟩, k4.below hb4 (by omega)⟩
    have hz4' : w3.heap.size < w4.heap.size := by omega
    clear k0 k3 k4 kb hz4
    gi_wp2_with fail
    obtain ⟨hrow, -⟩ := runes_all s.data.toList
    have HROW := Lib.hid hrow
    clear hrow
    refine wpIn_rangeFunc_C rfl (by omega) (gf := 39) (lb := #[.pointer (some ⟨w3.heap.size, 0, none⟩)]) rfl trivial (enters_of Try.func39 (by kernel_rfl) rfl)
      (runes_seq s (by omega) w3.heap.size w4 hk _) (by omega) (Below.refl _ _) (fun _ => rfl)
      (fun pre W => SpAt w w1.heap.size (w1.heap.size + 1) wa wl wc pre W)
      (fun c pre W => False)
      (fun pre W W' h hb => spAt_below h (by omega) (by omega) (by omega) (by omega) hb)
      (fun c pre W W' h hb => h)
      h0
      (fun x => { tmps := #[.string s, .slice wa wl wc, undef, .pointer (some ⟨w.heap.size, 0, none⟩), .bool false, .pointer (some ⟨w1.heap.size, 0, none⟩), .pointer (some ⟨w1.heap.size + 1, 0, none⟩), (.func (.func 39) #[] #[.pointer (some ⟨w3.heap.size, 0, none⟩)]), undef, .int .i32 x.2, undef, undef, undef, .string s, .int .i64 (-1), .bool false, undef, .string s, (.func (.func 39) #[] #[.pointer (some ⟨w3.heap.size, 0, none⟩)]), (.func (.func 39) #[] #[.pointer (some ⟨w3.heap.size, 0, none⟩)]), .bool false, (.func (.func 39) #[] #[.pointer (some ⟨w3.heap.size, 0, none⟩)]), .int .i64 (x.1 : Int), .int .i32 x.2, undef, undef, undef, undef, undef, undef, undef, undef, undef, undef, undef, undef, undef, undef, undef, undef, undef, undef, undef, undef, undef, undef, undef, undef, undef, undef, undef, undef, undef, undef, undef, undef, undef, undef, undef, undef, undef, undef], defers := [] }) ?assign ?body ?done ?stop
    case assign =>
      intro l x W K hK
      simp only [encR]
      gi_wp2
      exact hK
    case body =>
      intro l pre x post W hxs hT hlW
      obtain ⟨hbel, q0, ⟨R, q3, hR⟩, q4⟩ := hT
      have hr := HROW.out
      have hpl : pre.length ≤ 1048576 := by
        have h := congrArg List.length hxs
        have h2 : (runesL s.data.toList).length ≤ s.data.toList.length := runesF_len s.data.toList st0 0 0
        have h3 : s.data.toList.length = s.size := by simp
        rw [h, List.length_append, h3] at h2
        omega
      rw [hxs] at hr
      obtain ⟨-, -, hx3⟩ := inRow_at pre 0 x post hr
      obtain ⟨v0, v1, v2⟩ := valid_of hx3
      clear hr hxs hx3
      have hRs : R.size ≤ 12582912 := by have := hR.2.2; omega
      have c0 : W.cell? ⟨w.heap.size, 0, none⟩ = some (.slice wa wl wc) := Blk.cell q0 0
      have c3 : W.cell? ⟨w1.heap.size, 0, none⟩ = some (.string R) := Blk.cell q3 0
      have c4 : W.cell? ⟨w1.heap.size + 1, 0, none⟩ = some (.int .i64 (pre.length : Int)) := Blk.cell q4 0
      have f3 := Blk.frozen q3 0
      have f4 := Blk.frozen q4 0
      have hl3 : w1.heap.size < W.heap.size := Blk.lt q3
      have hl4 : w1.heap.size + 1 < W.heap.size := Blk.lt q4
      have HR := Lib.hid hR; clear hR
      by_cases hkw : pre.length < wl
      · obtain ⟨b, off, y, rfl, hblt, hcy⟩ := HWY.out pre.length hkw
        have cy : W.cell? ⟨b, off + pre.length, none⟩ = some (.int .u8 (y.toNat : Int)) := (hbel.cell (p := ⟨b, off + pre.length, none⟩) hblt).trans hcy
        have tk : decide ((pre.length : Int) < (wl : Int)) = true := by simp; omega
        have hlowg : w1.heap.size ≠ b := by have := hblt; omega
        have hy := y.toNat_lt
        have HSW := Lib.hid (fun w5 => spelled_w x.2 v0 v1 (y.toNat : Int) (by omega) (by omega) w5)
        have hsp := spell_spells x.2 ((y.toNat : Int) % 4) v0 v1 v2
        have HSP := Lib.hid hsp
        have hsz : (spellB x.2 ((y.toNat : Int) % 4)).size ≤ 12 := hsp.2.2
        clear hsp
        have hzz : ¬ (9223372036854775807 < R.size + (spellB x.2 ((y.toNat : Int) % 4)).size) := by omega
        generalize spellB x.2 ((y.toNat : Int) % 4) = X at *
        gi_wp2_with fail
        gi_region_with (refine ⟨trivial, ?_⟩; gi_at_call 21; refine (CallsIn.inRound l (callsIn_wide.2 (HSW.out _))).mono ?_; rintro e W2 ⟨rfl, hb2⟩; obtain ⟨hc2, hf2⟩ := bcell hb2; have d3 : W2.cell? ⟨w1.heap.size, 0, none⟩ = some (.string R) := (hb2.cell (p := ⟨w1.heap.size, 0, none⟩) hl3).trans c3; have e3 : W2.frozen? ⟨w1.heap.size, 0, none⟩ = false := (hb2.frozen (p := ⟨w1.heap.size, 0, none⟩) hl3).trans f3; have d4 : W2.cell? ⟨w1.heap.size + 1, 0, none⟩ = some (.int .i64 (pre.length : Int)) := (hb2.cell (p := ⟨w1.heap.size + 1, 0, none⟩) hl4).trans c4; have e4 : W2.frozen? ⟨w1.heap.size + 1, 0, none⟩ = false := (hb2.frozen (p := ⟨w1.heap.size + 1, 0, none⟩) hl4).trans f4)
        all_goals gi_wp2_with fail
        all_goals exact sp_next hbel q0 q3 HR.out q4 HSP.out rfl (undrew hb2) hsz1 (by omega) kz1 hz4' (Nat.le_of_lt_succ (by omega))
      · have tk : decide ((pre.length : Int) < (wl : Int)) = false := by simp; omega
        have HSW := Lib.hid (fun w5 => spelled_w x.2 v0 v1 0 (by omega) (by omega) w5)
        have hsp := spell_spells x.2 ((0 : Int) % 4) v0 v1 v2
        have HSP := Lib.hid hsp
        have hsz : (spellB x.2 ((0 : Int) % 4)).size ≤ 12 := hsp.2.2
        clear hsp
        have hzz : ¬ (9223372036854775807 < R.size + (spellB x.2 ((0 : Int) % 4)).size) := by omega
        generalize spellB x.2 ((0 : Int) % 4) = X at *
        gi_wp2_with fail
        gi_region_with (refine ⟨trivial, ?_⟩; gi_at_call 21; refine (CallsIn.inRound l (callsIn_wide.2 (HSW.out _))).mono ?_; rintro e W2 ⟨rfl, hb2⟩; obtain ⟨hc2, hf2⟩ := bcell hb2; have d3 : W2.cell? ⟨w1.heap.size, 0, none⟩ = some (.string R) := (hb2.cell (p := ⟨w1.heap.size, 0, none⟩) hl3).trans c3; have e3 : W2.frozen? ⟨w1.heap.size, 0, none⟩ = false := (hb2.frozen (p := ⟨w1.heap.size, 0, none⟩) hl3).trans f3; have d4 : W2.cell? ⟨w1.heap.size + 1, 0, none⟩ = some (.int .i64 (pre.length : Int)) := (hb2.cell (p := ⟨w1.heap.size + 1, 0, none⟩) hl4).trans c4; have e4 : W2.frozen? ⟨w1.heap.size + 1, 0, none⟩ = false := (hb2.frozen (p := ⟨w1.heap.size + 1, 0, none⟩) hl4).trans f4)
        all_goals gi_wp2_with fail
        all_goals exact sp_next hbel q0 q3 HR.out q4 HSP.out rfl (undrew hb2) hsz1 (by omega) kz1 hz4' (Nat.le_of_lt_succ (by omega))
    case done =>
      intro D W hD hT hK
      obtain ⟨hbel, q0, ⟨R, q3, hR⟩, q4⟩ := id hT
      obtain ⟨j1, j2⟩ := spells_end hb hR
      have hRs : R.size ≤ 12582912 := by
        have h1 := hR.2.2
        have h2 : (runesL s.data.toList).length ≤ s.data.toList.length := runesF_len s.data.toList st0 0 0
        have h3 : s.data.toList.length = s.size := by simp
        omega
      have HU := Lib.hid (un_as j1 j2 (by omega))
      clear j1 j2 hR
      have c3 : W.cell? ⟨w1.heap.size, 0, none⟩ = some (.string R) := Blk.cell q3 0
      have c4 : W.cell? ⟨w1.heap.size + 1, 0, none⟩ = some (.int .i64 ((runesL s.data.toList).length : Int)) := Blk.cell q4 0
      have hl3 : w1.heap.size < W.heap.size := Blk.lt q3
      have hl4 : w1.heap.size + 1 < W.heap.size := Blk.lt q4
      gi_wp2_with fail
      refine ⟨trivial, ?_⟩
      refine (callsIn_wide.2 (HU.out _)).mono ?_; rintro e W1 ⟨rfl, hb1⟩
      have d4 : W1.cell? ⟨w1.heap.size + 1, 0, none⟩ = some (.int .i64 ((runesL s.data.toList).length : Int)) := (hb1.cell (p := ⟨w1.heap.size + 1, 0, none⟩) hl4).trans c4
      have hq : (0 < (runesL s.data.toList).length ∧ (!s.toList.isEmpty) = true) ∨ ((runesL s.data.toList).length = 0 ∧ (!s.toList.isEmpty) = false) := by
        by_cases h0 : s.size = 0
        · right
          refine ⟨?_, is_empty h0⟩
          rw [list_nil h0]; rfl
        · left
          refine ⟨?_, ne_empty h0⟩
          obtain ⟨-, rest, hr, hc⟩ := runes_all s.data.toList
          have : (runesL s.data.toList).length ≠ 0 := by
            intro e
            rw [List.length_eq_zero_iff.1 e] at hr hc
            rcases hc with ⟨-, h⟩ | ⟨k, hk', -⟩
            · rw [h] at hr
              have h5 := congrArg List.length hr
              rw [Array.length_toList] at h5
              exact h0 h5
            · rw [badF_run, hk'] at hb; omega
          omega
      clear hb hRs
      have hK1 : W1.heap[D]? = some (.deferred (some [])) := (hb1.block D (Array.getElem?_eq_some_iff.1 hK).1).trans hK
      have hbelW := bthen hbel hb1
      generalize (runesL s.data.toList).length = L at *
      clear hT q4 c4
      rcases hq with ⟨t1, t2⟩ | ⟨rfl, t2⟩
      · gi_wp2_with fail
        refine ⟨trivial, ?_⟩
        refine (callsIn_wide.2 (HA.out _)).mono ?_; rintro e W2 ⟨rfl, hb2⟩
        have hK2 : W2.heap[D]? = some (.deferred (some [])) := (hb2.block D (Array.getElem?_eq_some_iff.1 hK1).1).trans hK1
        have hbel2 := bthen hbelW hb2
        gi_wp2_with fail
        refine ⟨by simp, .inl ⟨_, _, rfl, run_takeDeferred hK2, ?_⟩⟩
        refine ⟨.bool true, by simp [results, Try.results7, go_sem], rfl, ?_⟩
        exact hbel2.trans (below_putObj _ (by omega) hK2)
      · gi_wp2_with fail
        refine ⟨trivial, ?_⟩
        refine (callsIn_wide.2 (HA.out _)).mono ?_; rintro e W2 ⟨rfl, hb2⟩
        have hK2 : W2.heap[D]? = some (.deferred (some [])) := (hb2.block D (Array.getElem?_eq_some_iff.1 hK1).1).trans hK1
        have hbel2 := bthen hbelW hb2
        gi_wp2_with fail
        refine ⟨by simp, .inl ⟨_, _, rfl, run_takeDeferred hK2, ?_⟩⟩
        refine ⟨.bool true, by simp [results, Try.results7, go_sem], rfl, ?_⟩
        exact hbel2.trans (below_putObj _ (by omega) hK2)
    case stop =>
      rintro D c pre x post W hD hxs h hK
      exact h.elim
  · have hbn := badF_nonneg s hb
    have tb : decide (0 ≤ badF s) = true := by simpa using hbn
    go_enter Try.func7, Try.ntmps7
    go_wp2_with fail
    refine (HB.out _).mono ?_; rintro e w1 ⟨rfl, hb1⟩
    go_wp2_with fail
    refine (HA.out _).mono ?_; rintro e w2 ⟨rfl, hb2⟩
    go_wp2_with fail
    go_ret
    exact ⟨rfl, bthen (bthen ((Below.refl _ w).alloc (Nat.le_refl _) _) hb1) hb2⟩
end Go.Proofs.Ytlfkhfmepcnfeaa.Txt
