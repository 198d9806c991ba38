/- The walk of quarrylaw05.told. -/
import Derived.Test.YtpdglihihpopeaaUtfR
namespace Go.Proofs.Ytpdglihihpopeaa.Utf
set_option linter.unusedVariables false
set_option linter.unusedSimpArgs false
open Go.RowKit Go.Proofs.Ytpdglihihpopeaa.Mem Go.Proofs.Ytpdglihihpopeaa.Iter

attribute [local go_sem] Oper.semAt_some
/-- told's own blocks, from block b on: its arguments, its result, its count. -/
def Told (w : World) (v0 v1 v2 : Value) (left deep : Int) (r : Bool) (n : Int) (W : World) : Prop :=
  Below w.heap.size w W ∧ Blk W (w.heap.size) 23 #[v0] ∧ Blk W (w.heap.size + 1) 26 #[v1] ∧ Blk W (w.heap.size + 1 + 1) 27 #[v2] ∧ Blk W (w.heap.size + 1 + 1 + 1) 3 #[.int .i64 left] ∧ Blk W (w.heap.size + 1 + 1 + 1 + 1) 3 #[.int .i64 deep] ∧
    Blk W (w.heap.size + 1 + 1 + 1 + 1 + 1) 4 #[.bool r] ∧ Blk W (w.heap.size + 1 + 1 + 1 + 1 + 1 + 1) 3 #[.int .i64 n]
theorem told_below {w : World} {v0 v1 v2 : Value} {left deep : Int} {r : Bool} {n : Int} {W W' : World} {B : Nat} (h : Told w v0 v1 v2 left deep r n W) (hB : w.heap.size + 7 ≤ B) (hb : Below B W W') : Told w v0 v1 v2 left deep r n W' := by
  obtain ⟨h, h0, h1, h2, h3, h4, h5, h6⟩ := h
  exact ⟨h.trans (hb.mono (by omega)), h0.below hb (by omega), h1.below hb (by omega), h2.below hb (by omega), h3.below hb (by omega), h4.below hb (by omega), h5.below hb (by omega), h6.below hb (by omega)⟩
theorem blk_new {w : World} {b : Nat} {T : TypeId} {cs : Array Value} (h : w.heap.size = b) : Blk (w.alloc (.cells cs T)) b T cs := h ▸ Blk.new w T cs
theorem told_start (w : World) (v0 v1 v2 : Value) (left deep : Int) : Told w v0 v1 v2 left deep false 0 (((((((w.alloc (.cells #[v0] 23)).alloc (.cells #[v1] 26)).alloc (.cells #[v2] 27)).alloc (.cells #[.int .i64 left] 3)).alloc (.cells #[.int .i64 deep] 3)).alloc (.cells #[.bool false] 4)).alloc (.cells #[.int .i64 0] 3)) ∧ (World.heap (((((((w.alloc (.cells #[v0] 23)).alloc (.cells #[v1] 26)).alloc (.cells #[v2] 27)).alloc (.cells #[.int .i64 left] 3)).alloc (.cells #[.int .i64 deep] 3)).alloc (.cells #[.bool false] 4)).alloc (.cells #[.int .i64 0] 3))).size = w.heap.size + 7 :=
  ⟨⟨(((((((Below.refl _ w).alloc (Nat.le_refl _) _).alloc (by simp) _).alloc (by simp; omega) _).alloc (by simp; omega) _).alloc (by simp; omega) _).alloc (by simp; omega) _).alloc (by simp; omega) _,
    (((((((blk_new rfl).alloc _).alloc _).alloc _).alloc _).alloc _).alloc _), ((((((blk_new (by simp)).alloc _).alloc _).alloc _).alloc _).alloc _), (((((blk_new (by simp)).alloc _).alloc _).alloc _).alloc _), ((((blk_new (by simp)).alloc _).alloc _).alloc _), (((blk_new (by simp)).alloc _).alloc _), ((blk_new (by simp)).alloc _), (blk_new (by simp))⟩, by simp⟩
theorem told_count {w : World} {v0 v1 v2 : Value} {left deep : Int} {r : Bool} {n : Int} {W : World} (h : Told w v0 v1 v2 left deep r n W) (n' : Int) : Told w v0 v1 v2 left deep r n' (W.setCell ⟨w.heap.size + 1 + 1 + 1 + 1 + 1 + 1, 0, none⟩ (.int .i64 n')) := by
  obtain ⟨h, h0, h1, h2, h3, h4, h5, h6⟩ := h
  exact ⟨h.setCell (p := ⟨w.heap.size + 1 + 1 + 1 + 1 + 1 + 1, 0, none⟩) (by show w.heap.size ≤ w.heap.size + 1 + 1 + 1 + 1 + 1 + 1; omega) _, h0.far (by show w.heap.size ≠ w.heap.size + 1 + 1 + 1 + 1 + 1 + 1; omega) _, h1.far (by show _ ≠ w.heap.size + 1 + 1 + 1 + 1 + 1 + 1; omega) _, h2.far (by show _ ≠ w.heap.size + 1 + 1 + 1 + 1 + 1 + 1; omega) _, h3.far (by show _ ≠ w.heap.size + 1 + 1 + 1 + 1 + 1 + 1; omega) _, h4.far (by show _ ≠ w.heap.size + 1 + 1 + 1 + 1 + 1 + 1; omega) _, h5.far (by show _ ≠ w.heap.size + 1 + 1 + 1 + 1 + 1 + 1; omega) _, h6.set_ 0 _⟩
theorem told_res {w : World} {v0 v1 v2 : Value} {left deep : Int} {r : Bool} {n : Int} {W : World} (h : Told w v0 v1 v2 left deep r n W) (r' : Bool) : Told w v0 v1 v2 left deep r' n (W.setCell ⟨w.heap.size + 1 + 1 + 1 + 1 + 1, 0, none⟩ (.bool r')) := by
  obtain ⟨h, h0, h1, h2, h3, h4, h5, h6⟩ := h
  exact ⟨h.setCell (p := ⟨w.heap.size + 1 + 1 + 1 + 1 + 1, 0, none⟩) (by show w.heap.size ≤ w.heap.size + 1 + 1 + 1 + 1 + 1; omega) _, h0.far (by show w.heap.size ≠ w.heap.size + 1 + 1 + 1 + 1 + 1; omega) _, h1.far (by show _ ≠ w.heap.size + 1 + 1 + 1 + 1 + 1; omega) _, h2.far (by show _ ≠ w.heap.size + 1 + 1 + 1 + 1 + 1; omega) _, h3.far (by show _ ≠ w.heap.size + 1 + 1 + 1 + 1 + 1; omega) _, h4.far (by show _ ≠ w.heap.size + 1 + 1 + 1 + 1 + 1; omega) _, h5.set_ 0 _, h6.far (by show _ ≠ w.heap.size + 1 + 1 + 1 + 1 + 1; omega) _⟩
set_option maxHeartbeats 4000000 in
set_option maxRecDepth 100000 in
theorem told_w (s : ByteArray) (hs : s.size ≤ 140737488351232) (kb ca cl : Nat) (pa pl : Option Addr) : ∀ (deep : Nat), deep ≤ 1000 → ∀ (left : Int) (w : World), w.cell? ⟨kb, 0, none⟩ = some (.string s) →
    Hid (∀ j x, (runesL s.data.toList)[j]? = some x → ∃ ga gl, pa = some ⟨ga, 0, none⟩ ∧ pl = some ⟨gl, 0, none⟩ ∧ w.cell? ⟨ga, j, none⟩ = some (.int .i64 (x.1 : Int)) ∧ w.cell? ⟨gl, j, none⟩ = some (.int .i32 x.2)) →
    Calls Try.prog 10 #[.func (.func 23) #[] #[.pointer (some ⟨kb, 0, none⟩)], .slice pa (runesL s.data.toList).length ca, .slice pl (runesL s.data.toList).length cl, .int .i64 left, .int .i64 (deep : Int)] w
      fun e w' => e = .returned (.bool true) ∧ Below w.heap.size w w' := by
  intro deep
  induction deep using Nat.strongRecOn with
  | _ deep ih =>
  intro hd left w hk hc
  refine (callsIn_wide (n := 9)).1 ?_
  refine callsIn_of_wp_marks Try.func10 rfl trivial ?_ rfl
  simp only [Try.ntmps10, List.size_toArray, List.length_cons, List.length_nil, Nat.reduceAdd, Nat.reduceSub, Array.replicate_succ, Array.replicate_zero, List.push_toArray, List.append_toArray, List.nil_append, List.cons_append]
  gi_wp2_with fail
  obtain ⟨h0, hz⟩ := told_start w (.func (.func 23) #[] #[.pointer (some ⟨kb, 0, none⟩)]) (.slice pa (runesL s.data.toList).length ca) (.slice pl (runesL s.data.toList).length cl) left deep
  revert h0 hz
  generalize (((((((w.alloc (.cells #[.func (.func 23) #[] #[.pointer (some ⟨kb, 0, none⟩)]] 23)).alloc (.cells #[.slice pa (runesL s.data.toList).length ca] 26)).alloc (.cells #[.slice pl (runesL s.data.toList).length cl] 27)).alloc (.cells #[.int .i64 left] 3)).alloc (.cells #[.int .i64 (deep : Int)] 3)).alloc (.cells #[.bool false] 4)).alloc (.cells #[.int .i64 0] 3)) = W0
  intro h0 hz
  have hkb : kb < w.heap.size := World.block_lt_of_cell? _ _ hk
  have hbw : Below w.heap.size w W0 := h0.1
  have hkW : W0.cell? ⟨kb, 0, none⟩ = some (.string s) := (hbw.cell (p := ⟨kb, 0, none⟩) hkb).trans hk
  refine wpIn_rangeFunc_C rfl (by omega) (gf := 23) (lb := #[.pointer (some ⟨kb, 0, none⟩)]) rfl trivial (enters_of Try.func23 (by kernel_rfl) rfl)
    (runes_seq s hs kb W0 hkW _) (by omega) (Below.refl _ _) (fun _ => rfl)
    (fun pre W => Told w (.func (.func 23) #[] #[.pointer (some ⟨kb, 0, none⟩)]) (.slice pa (runesL s.data.toList).length ca) (.slice pl (runesL s.data.toList).length cl) left deep false (pre.length : Int) W)
    (fun c pre W => c = .ret ∧ Told w (.func (.func 23) #[] #[.pointer (some ⟨kb, 0, none⟩)]) (.slice pa (runesL s.data.toList).length ca) (.slice pl (runesL s.data.toList).length cl) left deep true (pre.length : Int) W)
    (fun pre W W' h hb => told_below h (by omega) hb)
    (fun c pre W W' h hb => ⟨h.1, told_below h.2 (by omega) hb⟩)
    h0
    (fun x => { tmps := #[.func (.func 23) #[] #[.pointer (some ⟨kb, 0, none⟩)], .slice pa (runesL s.data.toList).length ca, .slice pl (runesL s.data.toList).length cl, .int .i64 left, .int .i64 (deep : Int), .pointer (some ⟨w.heap.size, 0, none⟩), .pointer (some ⟨w.heap.size + 1, 0, none⟩), .pointer (some ⟨w.heap.size + 1 + 1, 0, none⟩), .pointer (some ⟨w.heap.size + 1 + 1 + 1, 0, none⟩), .pointer (some ⟨w.heap.size + 1 + 1 + 1 + 1, 0, none⟩), .pointer (some ⟨w.heap.size + 1 + 1 + 1 + 1 + 1, 0, none⟩), .pointer (some ⟨w.heap.size + 1 + 1 + 1 + 1 + 1 + 1, 0, none⟩), .int .i64 (x.1 : Int), .int .i32 x.2, .func (.func 23) #[] #[.pointer (some ⟨kb, 0, none⟩)], .int .i64 (x.1 : Int), .int .i32 x.2, undef, undef, undef, undef, undef, undef, undef, undef, undef, undef, undef, undef, undef, undef, undef, undef, undef, undef, undef, undef, undef, undef, undef, undef, undef, undef, undef, undef, undef, undef, undef, undef, undef, undef, undef, undef, undef, undef, undef, undef, undef, undef, undef, undef, undef, undef], defers := [] }) ?assign ?body ?done ?stop
  case assign =>
    intro l x W K hK
    simp only [encR]
    gi_wp2
    exact hK
  case body =>
    intro l pre x post W hxs hT hlW
    obtain ⟨hbel, q0, q1, q2, q3, q4, q5, q6⟩ := hT
    have c0 : W.cell? ⟨w.heap.size, 0, none⟩ = some (.func (.func 23) #[] #[.pointer (some ⟨kb, 0, none⟩)]) := Blk.cell q0 0
    have f0 := Blk.frozen q0 0
    have c1 : W.cell? ⟨w.heap.size + 1, 0, none⟩ = some (.slice pa (runesL s.data.toList).length ca) := Blk.cell q1 0
    have f1 := Blk.frozen q1 0
    have c2 : W.cell? ⟨w.heap.size + 1 + 1, 0, none⟩ = some (.slice pl (runesL s.data.toList).length cl) := Blk.cell q2 0
    have f2 := Blk.frozen q2 0
    have c3 : W.cell? ⟨w.heap.size + 1 + 1 + 1, 0, none⟩ = some (.int .i64 left) := Blk.cell q3 0
    have f3 := Blk.frozen q3 0
    have c4 : W.cell? ⟨w.heap.size + 1 + 1 + 1 + 1, 0, none⟩ = some (.int .i64 (deep : Int)) := Blk.cell q4 0
    have f4 := Blk.frozen q4 0
    have c5 : W.cell? ⟨w.heap.size + 1 + 1 + 1 + 1 + 1, 0, none⟩ = some (.bool false) := Blk.cell q5 0
    have f5 := Blk.frozen q5 0
    have c6 : W.cell? ⟨w.heap.size + 1 + 1 + 1 + 1 + 1 + 1, 0, none⟩ = some (.int .i64 (pre.length : Int)) := Blk.cell q6 0
    have f6 := Blk.frozen q6 0
    have hlen : pre.length < (runesL s.data.toList).length := by rw [hxs]; simp
    obtain ⟨ga, gl, rfl, rfl, d1, d2⟩ := hc.out pre.length x (by rw [hxs]; simp)
    have e1 : W.cell? ⟨ga, pre.length, none⟩ = some (.int .i64 (x.1 : Int)) := (hbel.cell (p := ⟨ga, pre.length, none⟩) (World.block_lt_of_cell? _ _ d1)).trans d1
    have e2 : W.cell? ⟨gl, pre.length, none⟩ = some (.int .i32 x.2) := (hbel.cell (p := ⟨gl, pre.length, none⟩) (World.block_lt_of_cell? _ _ d2)).trans d2
    have t0 : decide ((pre.length : Int) ≥ ((runesL s.data.toList).length : Int)) = false := by simp; omega
    have t1 : decide ((runesL s.data.toList).length ≤ pre.length) = false := by simp; omega
    clear d1 d2
    have HXS := Lib.hid hxs; clear hxs
    generalize hN : (runesL s.data.toList).length = N at *
    have hN50 : N ≤ 140737488351232 := by rw [← hN]; exact Nat.le_trans (runesF_len _ _ _ _) (by simpa using hs)
    have hkb6 : kb < W0.heap.size := by omega
    have HT : Told w (.func (.func 23) #[] #[.pointer (some ⟨kb, 0, none⟩)]) (.slice (some ⟨ga, 0, none⟩) N ca) (.slice (some ⟨gl, 0, none⟩) N cl) left deep false (pre.length : Int) W := ⟨hbel, q0, q1, q2, q3, q4, q5, q6⟩
    have HP : (((pre ++ [x]).length : Nat) : Int) = (pre.length : Int) + 1 := by simp
    have HT1 : Told w (.func (.func 23) #[] #[.pointer (some ⟨kb, 0, none⟩)]) (.slice (some ⟨ga, 0, none⟩) N ca) (.slice (some ⟨gl, 0, none⟩) N cl) left deep false (((pre ++ [x]).length : Nat) : Int) (W.setCell ⟨w.heap.size + 1 + 1 + 1 + 1 + 1 + 1, 0, none⟩ (.int .i64 ((pre.length : Int) + 1))) := by rw [HP]; exact told_count HT ((pre.length : Int) + 1)
    have hst1 : Stays kb W0.heap.size W (W.setCell ⟨w.heap.size + 1 + 1 + 1 + 1 + 1 + 1, 0, none⟩ (.int .i64 ((pre.length : Int) + 1))) := Stays.setCell W _ _ (by show w.heap.size + 1 + 1 + 1 + 1 + 1 + 1 < _; omega) (by show w.heap.size + 1 + 1 + 1 + 1 + 1 + 1 ≠ kb; omega)
    have HHT := Lib.hid (And.intro HT1 hst1)
    have HPP := Lib.hid HP
    clear HT HT1 hst1 HP
    by_cases hleft : (pre.length : Int) + 1 = left
    · have tl : ((pre.length : Int) + 1 == left) = true := by simpa using hleft
      have HL := Lib.hid hleft; clear hleft
      by_cases hn1 : pre.length = 1
      · have ta : ((pre.length : Int) + 1 == 2) = true := by simp; omega
        have HN1 := Lib.hid hn1; clear hn1
        by_cases hd0 : 0 < deep
        · obtain ⟨d, rfl⟩ : ∃ d, deep = d + 1 := ⟨deep - 1, by omega⟩
          have hz6 : W.heap.size ≤ (W.setCell ⟨w.heap.size + 1 + 1 + 1 + 1 + 1 + 1, 0, none⟩ (.int .i64 ((pre.length : Int) + 1))).heap.size := by simp [World.setCell]
          have hq : Below w.heap.size w (W.setCell ⟨w.heap.size + 1 + 1 + 1 + 1 + 1 + 1, 0, none⟩ (.int .i64 ((pre.length : Int) + 1))) := HHT.out.1.1
          have HI := Lib.hid (ih d (by omega) (by omega) (wrap64 (left + 1)) (W.setCell ⟨w.heap.size + 1 + 1 + 1 + 1 + 1 + 1, 0, none⟩ (.int .i64 ((pre.length : Int) + 1))) ((hq.cell (p := ⟨kb, 0, none⟩) hkb).trans hk)
            (fun j y hj => by
              obtain ⟨g1, g2, z1, z2, a1, a2⟩ := hc.out j y hj
              exact ⟨g1, g2, z1, z2, (hq.cell (p := ⟨g1, j, none⟩) (World.block_lt_of_cell? _ _ a1)).trans a1, (hq.cell (p := ⟨g2, j, none⟩) (World.block_lt_of_cell? _ _ a2)).trans a2⟩))
          clear hq ih
          gi_wp2_with fail
          refine ⟨trivial, ?_⟩
          refine (CallsIn.inRound l (callsIn_wide.2 HI.out)).mono ?_; rintro e W3 ⟨rfl, hb3⟩
          have HT3 := told_below HHT.out.1 (by simp [World.setCell]; omega) hb3
          have hst3 := HHT.out.2.trans (Stays.of_below hb3)
          clear c0 c1 c2 c3 c4 c5 c6 f0 f1 f2 f3 f4 f5 f6 HHT
          have HT3' := HT3
          obtain ⟨-, q0, q1, q2, q3, q4, q5, q6⟩ := HT3'
          rw [HPP.out] at q6
          have c3 : W3.cell? ⟨w.heap.size + 1 + 1 + 1, 0, none⟩ = some (.int .i64 left) := Blk.cell q3 0
          have c6 : W3.cell? ⟨w.heap.size + 1 + 1 + 1 + 1 + 1 + 1, 0, none⟩ = some (.int .i64 ((pre.length : Int) + 1)) := Blk.cell q6 0
          have c5 : W3.cell? ⟨w.heap.size + 1 + 1 + 1 + 1 + 1, 0, none⟩ = some (.bool false) := Blk.cell q5 0
          have f5 := Blk.frozen q5 0
          have HT4 := Lib.hid HT3
          have HST := Lib.hid hst3
          clear q0 q1 q2 q3 q4 q5 q6 hb3 HT3 hst3
          gi_wp2_with fail
          exact ⟨HST.out.trans (Stays.setCell _ _ _ (by show w.heap.size + 1 + 1 + 1 + 1 + 1 < _; omega) (by show w.heap.size + 1 + 1 + 1 + 1 + 1 ≠ kb; omega)), rfl, told_res HT4.out true⟩
        · have tb : decide ((deep : Int) > 0) = false := by simp; omega
          have tb' : decide (0 < deep) = false := by simp; omega
          gi_wp2_with fail
          refine ⟨trivial, ?_⟩
          gi_wp2_with fail
          exact ⟨HHT.out.2.trans (Stays.setCell _ _ _ (by show w.heap.size + 1 + 1 + 1 + 1 + 1 < _; omega) (by show w.heap.size + 1 + 1 + 1 + 1 + 1 ≠ kb; omega)), rfl, told_res HHT.out.1 true⟩
      · have ta : ((pre.length : Int) + 1 == 2) = false := by simp; omega
        have HN1 := Lib.hid hn1; clear hn1
        gi_wp2_with fail
        refine ⟨trivial, ?_⟩
        gi_wp2_with fail
        exact ⟨HHT.out.2.trans (Stays.setCell _ _ _ (by show w.heap.size + 1 + 1 + 1 + 1 + 1 < _; omega) (by show w.heap.size + 1 + 1 + 1 + 1 + 1 ≠ kb; omega)), rfl, told_res HHT.out.1 true⟩
    · have tl : ((pre.length : Int) + 1 == left) = false := by simpa using hleft
      have HL := Lib.hid hleft; clear hleft
      by_cases hn1 : pre.length = 1
      · have ta : ((pre.length : Int) + 1 == 2) = true := by simp; omega
        have HN1 := Lib.hid hn1; clear hn1
        by_cases hd0 : 0 < deep
        · obtain ⟨d, rfl⟩ : ∃ d, deep = d + 1 := ⟨deep - 1, by omega⟩
          have hz6 : W.heap.size ≤ (W.setCell ⟨w.heap.size + 1 + 1 + 1 + 1 + 1 + 1, 0, none⟩ (.int .i64 ((pre.length : Int) + 1))).heap.size := by simp [World.setCell]
          have hq : Below w.heap.size w (W.setCell ⟨w.heap.size + 1 + 1 + 1 + 1 + 1 + 1, 0, none⟩ (.int .i64 ((pre.length : Int) + 1))) := HHT.out.1.1
          have HI := Lib.hid (ih d (by omega) (by omega) (wrap64 (left + 1)) (W.setCell ⟨w.heap.size + 1 + 1 + 1 + 1 + 1 + 1, 0, none⟩ (.int .i64 ((pre.length : Int) + 1))) ((hq.cell (p := ⟨kb, 0, none⟩) hkb).trans hk)
            (fun j y hj => by
              obtain ⟨g1, g2, z1, z2, a1, a2⟩ := hc.out j y hj
              exact ⟨g1, g2, z1, z2, (hq.cell (p := ⟨g1, j, none⟩) (World.block_lt_of_cell? _ _ a1)).trans a1, (hq.cell (p := ⟨g2, j, none⟩) (World.block_lt_of_cell? _ _ a2)).trans a2⟩))
          clear hq ih
          gi_wp2_with fail
          refine ⟨trivial, ?_⟩
          refine (CallsIn.inRound l (callsIn_wide.2 HI.out)).mono ?_; rintro e W3 ⟨rfl, hb3⟩
          have HT3 := told_below HHT.out.1 (by simp [World.setCell]; omega) hb3
          have hst3 := HHT.out.2.trans (Stays.of_below hb3)
          clear c0 c1 c2 c3 c4 c5 c6 f0 f1 f2 f3 f4 f5 f6 HHT
          have HT3' := HT3
          obtain ⟨-, q0, q1, q2, q3, q4, q5, q6⟩ := HT3'
          rw [HPP.out] at q6
          have c3 : W3.cell? ⟨w.heap.size + 1 + 1 + 1, 0, none⟩ = some (.int .i64 left) := Blk.cell q3 0
          have c6 : W3.cell? ⟨w.heap.size + 1 + 1 + 1 + 1 + 1 + 1, 0, none⟩ = some (.int .i64 ((pre.length : Int) + 1)) := Blk.cell q6 0
          have c5 : W3.cell? ⟨w.heap.size + 1 + 1 + 1 + 1 + 1, 0, none⟩ = some (.bool false) := Blk.cell q5 0
          have f5 := Blk.frozen q5 0
          have HT4 := Lib.hid HT3
          have HST := Lib.hid hst3
          clear q0 q1 q2 q3 q4 q5 q6 hb3 HT3 hst3
          gi_wp2_with fail
          exact ⟨HST.out, HT4.out⟩
        · have tb : decide ((deep : Int) > 0) = false := by simp; omega
          have tb' : decide (0 < deep) = false := by simp; omega
          gi_wp2_with fail
          refine ⟨trivial, ?_⟩
          gi_wp2_with fail
          exact ⟨HHT.out.2, HHT.out.1⟩
      · have ta : ((pre.length : Int) + 1 == 2) = false := by simp; omega
        have HN1 := Lib.hid hn1; clear hn1
        gi_wp2_with fail
        refine ⟨trivial, ?_⟩
        gi_wp2_with fail
        exact ⟨HHT.out.2, HHT.out.1⟩
  case done =>
    intro D W hD hT hK
    obtain ⟨hbel, q0, q1, q2, q3, q4, q5, q6⟩ := hT
    have c1 : W.cell? ⟨w.heap.size + 1, 0, none⟩ = some (.slice pa (runesL s.data.toList).length ca) := Blk.cell q1 0
    have c6 : W.cell? ⟨w.heap.size + 1 + 1 + 1 + 1 + 1 + 1, 0, none⟩ = some (.int .i64 ((runesL s.data.toList).length : Int)) := Blk.cell q6 0
    have c5 : W.cell? ⟨w.heap.size + 1 + 1 + 1 + 1 + 1, 0, none⟩ = some (.bool false) := Blk.cell q5 0
    have f5 := Blk.frozen q5 0
    gi_wp2_with fail
    have hK2 : (W.setCell ⟨w.heap.size + 1 + 1 + 1 + 1 + 1, 0, none⟩ (.bool true)).heap[D]? = some (.deferred (some [])) := (Below.heap_setCell W _ _ D (by show D ≠ w.heap.size + 1 + 1 + 1 + 1 + 1; omega)).trans hK
    refine ⟨by simp, .inl ⟨_, _, rfl, run_takeDeferred hK2, ?_⟩⟩
    have hr : ((W.setCell ⟨w.heap.size + 1 + 1 + 1 + 1 + 1, 0, none⟩ (.bool true)).putObj D (Obj.deferred none)).cell? ⟨w.heap.size + 1 + 1 + 1 + 1 + 1, 0, none⟩ = some (.bool true) := by
      refine (World.cell?_of_block (World.putObj_heap_other (by show w.heap.size + 1 + 1 + 1 + 1 + 1 ≠ D; omega))).trans ?_
      exact Blk.cell (q5.set_ 0 (.bool true)) 0
    refine ⟨.bool true, by simp [results, Try.results10, go_sem, hr], rfl, ?_⟩
    exact (hbel.setCell (p := ⟨w.heap.size + 1 + 1 + 1 + 1 + 1, 0, none⟩) (by show w.heap.size ≤ w.heap.size + 1 + 1 + 1 + 1 + 1; omega) _).trans (below_putObj _ (by omega) hK2)
  case stop =>
    rintro D c pre x post W hD hxs ⟨rfl, hT⟩ hK
    gi_wp2_with fail
    obtain ⟨hbel, q0, q1, q2, q3, q4, q5, q6⟩ := hT
    refine ⟨by simp, .inl ⟨_, _, rfl, run_takeDeferred hK, ?_⟩⟩
    have hr : (W.putObj D (Obj.deferred none)).cell? ⟨w.heap.size + 1 + 1 + 1 + 1 + 1, 0, none⟩ = some (.bool true) := by
      refine (World.cell?_of_block (World.putObj_heap_other (by show w.heap.size + 1 + 1 + 1 + 1 + 1 ≠ D; omega))).trans ?_
      exact Blk.cell q5 0
    refine ⟨.bool true, by simp [results, Try.results10, go_sem, hr], rfl, ?_⟩
    exact hbel.trans (below_putObj _ (by omega) hK)
end Go.Proofs.Ytpdglihihpopeaa.Utf
