/- Chapters 13 and 14 (floats, shortest): contracts of the methods of Int. No conditions beside those that each contract names. -/
import Derived.Test.YtabmalnandbocaaGreatDoorMC
import Derived.RegionTactic
import Derived.Deep.RegionWith
import Derived.Deep.RegionHeld3
import Derived.Deep.LoopGhost
import Derived.Laws.IdiomStrings
namespace Go.Proofs.YtabmalnandbocaaGreatDoor.Num
set_option exponentiation.threshold 3000
set_option linter.unusedVariables false
set_option linter.unusedSimpArgs false
open Go.RowKit Go.Proofs.YtabmalnandbocaaGreatDoor.Mem Go.Proofs.YtabmalnandbocaaGreatDoor.Own Go.Proofs.YtabmalnandbocaaGreatDoor.Big

/-- A whole number's block. -/
def IBlk (w : World) (p : Nat) (A : Option Addr) (n c : Nat) : Prop := Blk w p 127 #[.bool false, .slice A n c]
/-- A whole number, not below nought, behind a pointer. -/
def IntAt (w : World) (p x : Nat) : Prop := ∃ A n c, IBlk w p A n c ∧ NumAt w A n x
theorem NumAt.far {w : World} {A : Option Addr} {n x p : Nat} {b : Bool} {A' : Option Addr} {n' c' : Nat} (h : NumAt w A n x) (hb : Blk w p 127 #[.bool b, .slice A' n' c']) {w' : World} (ho : Only p w w') : NumAt w' A n x := by
  refine ⟨h.1, ?_⟩
  rcases h.2 with h2 | ⟨g, off, rfl, hlt, hc⟩
  · exact .inl h2
  · by_cases h0 : (digs B x).length = 0
    · exact .inl (List.eq_nil_of_length_eq_zero h0)
    · have hne : g ≠ p := by
        rintro rfl
        have h1 := hc 0 (by omega)
        have h3 := Blk.cell hb off
        rw [Nat.add_zero, h3] at h1
        match off, h1 with
        | 0, h1 => simp at h1
        | 1, h1 => simp at h1
        | off + 2, h1 => simp at h1
      refine .inr ⟨g, off, rfl, Nat.lt_of_lt_of_le hlt ho.size, fun j hj => ?_⟩
      rw [ho.cell (p := ⟨g, off + j, none⟩) hlt hne]
      exact hc j hj
theorem IntAt.below {w w' : World} {p x : Nat} (h : IntAt w p x) (hb : Below w.heap.size w w') : IntAt w' p x := by
  obtain ⟨A, n, c, h1, h2⟩ := h
  exact ⟨A, n, c, Blk.below h1 hb (Blk.lt h1), h2.below hb⟩
theorem IntAt.drewN {w : World} {p x : Nat} (h : IntAt w p x) (q : Nat) : IntAt (w.drewN q) p x := h.below (bdrewN (Below.refl _ _) q)
/-- Another number has been written. -/
theorem IntAt.only {w w' : World} {p q x y : Nat} (h : IntAt w p x) (hq : IntAt w q y) (hne : p ≠ q) (ho : Only q w w') : IntAt w' p x := by
  obtain ⟨A, n, c, h1, h2⟩ := h
  obtain ⟨A', n', c', h3, h4⟩ := hq
  exact ⟨A, n, c, ho.blk h1 hne, h2.far h3 ho⟩
theorem IntAt.lt {w : World} {p x : Nat} (h : IntAt w p x) : p < w.heap.size := by obtain ⟨A, n, c, h1, h2⟩ := h; exact Blk.lt h1
theorem IntAt.new (w : World) : IntAt (w.alloc (.cells #[.bool false, .slice none 0 0] 127)) w.heap.size 0 := ⟨none, 0, 0, Blk.new w _ _, NumAt.nil _ _⟩
/-- A number that a call has set. -/
def SetPost (w : World) (p x : Nat) (e : Ending) (w' : World) : Prop := e = .returned (.pointer (some ⟨p, 0, none⟩)) ∧ IntAt w' p x ∧ Only p w w'
set_option maxHeartbeats 1000000 in
theorem give_w (p : Nat) (A0 : Option Addr) (n0 c0 : Nat) (b0 : Bool) (A : Option Addr) (n c x : Nat) (w : World) (hp : Blk w p 127 #[.bool b0, .slice A0 n0 c0]) (hx : NumAt w A n x) :
    Calls Tryz.prog 94 #[.pointer (some ⟨p, 0, none⟩), .bool false, .slice A n c] w (SetPost w p x) := by
  have c1 : w.cell? ⟨p, 1, none⟩ = some (.slice A0 n0 c0) := Blk.cell hp 1
  have f1 := Blk.frozen hp 1
  have hp1 := Blk.set_ hp 1 (.slice A n c)
  have c0' : (w.setCell ⟨p, 1, none⟩ (.slice A n c)).cell? ⟨p, 0, none⟩ = some (.bool b0) := Blk.cell hp1 0
  have f0' := Blk.frozen hp1 0
  have c0w : w.cell? ⟨p, 0, none⟩ = some (.bool b0) := Blk.cell hp 0
  have f0w := Blk.frozen hp 0
  have hp2 := Blk.set_ hp1 0 (.bool false)
  have HP := Lib.hid hp
  have HP2 := Lib.hid hp2
  have HX := Lib.hid hx
  clear hp hp1 hp2 hx
  go_enter Tryz.func94, Tryz.ntmps94
  go_wp2_with fail
  go_ret
  have ho : Only p w ((w.setCell ⟨p, 1, none⟩ (.slice A n c)).setCell ⟨p, 0, none⟩ (.bool false)) := ((Only.refl p w).setCell 1 _).setCell 0 _
  exact ⟨rfl, ⟨A, n, c, HP2.out, HX.out.far HP.out ho⟩, ho⟩
set_option maxHeartbeats 1000000 in
theorem setint_w (p : Nat) (A0 : Option Addr) (n0 c0 : Nat) (b0 : Bool) (x : Nat) (w : World) (hp : Blk w p 127 #[.bool b0, .slice A0 n0 c0]) (hx : x < 9223372036854775808) :
    Calls Tryz.prog 109 #[.pointer (some ⟨p, 0, none⟩), .int .i64 (x : Nat)] w (SetPost w p x) := by
  have HW := Lib.hid (words_w x w (by omega))
  have HP := Lib.hid hp
  have t0 : decide ((x : Int) < 0) = false := by simp
  clear hp
  go_enter Tryz.func109, Tryz.ntmps109
  go_wp2_with fail
  refine HW.out.mono ?_
  rintro e w1 ⟨A, n, c, rfl, h1, b1⟩
  have HG := Lib.hid (give_w p A0 n0 c0 b0 A n c x w1 (Blk.below HP.out b1 (Blk.lt HP.out)) h1)
  clear h1
  go_wp2_with fail
  refine HG.out.mono ?_
  rintro e w2 ⟨rfl, h2, o2⟩
  have H2 := Lib.hid h2
  have O2 := Lib.hid o2
  clear h2 o2
  go_wp2_with fail
  go_ret
  exact ⟨rfl, H2.out, (Only.of_below b1).trans O2.out⟩
/-- A new number. -/
def NewPost (w : World) (x : Nat) (e : Ending) (w' : World) : Prop := ∃ p, e = .returned (.pointer (some ⟨p, 0, none⟩)) ∧ w.heap.size ≤ p ∧ IntAt w' p x ∧ Below w.heap.size w w'
theorem only_new {w w1 w2 : World} (hb : Below w.heap.size w w1) {p : Nat} (hp : w.heap.size ≤ p) (ho : Only p w1 w2) : Below w.heap.size w w2 := hb.trans (ho.below hp hb.size)
set_option maxHeartbeats 1000000 in
theorem newint_w (x : Nat) (w : World) (hx : x < 9223372036854775808) :
    Calls Tryz.prog 77 #[.int .i64 (x : Nat)] w (NewPost w x) := by
  have HS := Lib.hid (setint_w w.heap.size none 0 0 false x _ (Blk.new w _ _) hx)
  go_enter Tryz.func77, Tryz.ntmps77
  go_wp2_with fail
  refine HS.out.mono ?_
  rintro e w2 ⟨rfl, h2, o2⟩
  have H2 := Lib.hid h2
  have O2 := Lib.hid o2
  clear h2 o2
  go_wp2_with fail
  go_ret
  exact ⟨w.heap.size, rfl, Nat.le_refl _, H2.out, only_new ((Below.refl _ w).alloc (Nat.le_refl _) _) (Nat.le_refl _) O2.out⟩
end Go.Proofs.YtabmalnandbocaaGreatDoor.Num
namespace Go.Proofs.YtabmalnandbocaaGreatDoor.Num
set_option exponentiation.threshold 3000
set_option linter.unusedVariables false
set_option linter.unusedSimpArgs false
open Go.RowKit Go.Proofs.YtabmalnandbocaaGreatDoor.Mem Go.Proofs.YtabmalnandbocaaGreatDoor.Own Go.Proofs.YtabmalnandbocaaGreatDoor.Big

/-- Any block of a whole number. -/
def IAny (w : World) (p : Nat) : Prop := ∃ b A n c, Blk w p 127 #[.bool b, .slice A n c]
theorem IntAt.any {w : World} {p x : Nat} (h : IntAt w p x) : IAny w p := by obtain ⟨A, n, c, h, -⟩ := h; exact ⟨_, _, _, _, h⟩
theorem IAny.below {w w' : World} {p : Nat} (h : IAny w p) (hb : Below w.heap.size w w') : IAny w' p := by
  obtain ⟨b, A, n, c, h⟩ := h; exact ⟨b, A, n, c, Blk.below h hb (Blk.lt h)⟩
theorem IAny.drewN {w : World} {p : Nat} (h : IAny w p) (q : Nat) : IAny (w.drewN q) p := h.below (bdrewN (Below.refl _ _) q)
theorem give_any (p : Nat) (A : Option Addr) (n c x : Nat) (w : World) (hp : IAny w p) (hx : NumAt w A n x) :
    Calls Tryz.prog 94 #[.pointer (some ⟨p, 0, none⟩), .bool false, .slice A n c] w (SetPost w p x) := by
  obtain ⟨b0, A0, n0, c0, h⟩ := hp
  exact give_w p A0 n0 c0 b0 A n c x w h hx
theorem IntAt.open_ {w : World} {p x : Nat} (h : IntAt w p x) : ∃ A n c, w.cell? ⟨p, 0, none⟩ = some (.bool false) ∧ w.cell? ⟨p, 1, none⟩ = some (.slice A n c) ∧ NumAt w A n x ∧ p < w.heap.size := by
  obtain ⟨A, n, c, h1, h2⟩ := h
  exact ⟨A, n, c, Blk.cell h1 0, Blk.cell h1 1, h2, Blk.lt h1⟩
theorem num_other {w w' : World} {A : Option Addr} {n x q : Nat} (hq : IAny w q) (h : NumAt w A n x) (ho : Only q w w') : NumAt w' A n x := by
  obtain ⟨b, A', n', c', hb⟩ := hq
  exact h.far hb ho
theorem any_other {w w' : World} {p q : Nat} (h : IAny w p) (hne : q ≠ p) (ho : Only q w w') : IAny w' p := by
  obtain ⟨b, A', n', c', hb⟩ := h
  exact ⟨b, A', n', c', ho.blk hb (fun e => hne e.symm)⟩
theorem int_other {w w' : World} {p q x : Nat} (h : IntAt w p x) (hq : IAny w q) (hne : p ≠ q) (ho : Only q w w') : IntAt w' p x := by
  obtain ⟨A, n, c, h1, h2⟩ := h
  exact ⟨A, n, c, ho.blk h1 hne, num_other hq h2 ho⟩
theorem neg_kept {w1 w2 : World} {p z x y : Nat} (h : IntAt w1 p x) (h2 : IntAt w2 z y) (ho : Only z w1 w2) : w2.cell? ⟨p, 0, none⟩ = some (.bool false) := by
  by_cases e : p = z
  · subst e
    obtain ⟨A, n, c, c0, -⟩ := h2.open_
    exact c0
  · obtain ⟨A, n, c, c0, -, -, hl⟩ := h.open_
    rw [ho.cell (p := ⟨p, 0, none⟩) hl e]; exact c0
theorem cmp_quiet {w : World} {args : Array Value} {f : Nat} {x y : Nat} (h : Calls Tryz.prog f args w (CmpPost w x y)) : Calls Tryz.prog f args w fun e w' => e = .returned (.int .i64 (cmpI x y)) ∧ ∃ q, w' = w.drewN q := h
set_option maxHeartbeats 2000000 in
theorem imul_w (z p q x y : Nat) (w : World) (hz : IAny w z) (hx : IntAt w p x) (hy : IntAt w q y) (hm : (digs B x).length < 100000000) (hm' : (digs B y).length < 100000000) :
    Calls Tryz.prog 78 #[.pointer (some ⟨z, 0, none⟩), .pointer (some ⟨p, 0, none⟩), .pointer (some ⟨q, 0, none⟩)] w (SetPost w z (x * y)) := by
  obtain ⟨A, n, c, p0, p1, hN, hpl⟩ := hx.open_
  obtain ⟨A', n', c', q0, q1, hN', hql⟩ := hy.open_
  have HM := Lib.hid (fun k => mul_w A n c x A' n' c' y (w.drewN k) (hN.drewN k) (hN'.drewN k) (by rw [hN.1]; omega) (by rw [hN'.1]; omega))
  have HZ := Lib.hid hz
  have HX := Lib.hid hx
  have HY := Lib.hid hy
  clear hx hy hN hN' hz
  go_enter Tryz.func78, Tryz.ntmps78
  go_wp2_with fail
  refine wp_region_held_drew (S := fun w' => w'.cell? ⟨p, 0, none⟩ = some (.bool false) ∧ w'.cell? ⟨q, 0, none⟩ = some (.bool false)) (by kernel_rfl) ?_ (fun hHeld => ?_)
  · exact ⟨p0, q0⟩
  refine wpAnyH_take (i := 0) (oi := _) (v := ?_) rfl (by kernel_rfl) (by kernel_rfl) (by kernel_rfl) (fun _ _ _ h => h) (Or.inl ⟨by rfl, ?_⟩) (by assumption) ?_
  rotate_left 1
  · (intro w hSw; (try dsimp only at hSw); (go_simp <;> with_reducible rfl))
  (try simp only [Act.put, List.setIfInBounds_toArray, List.set_cons_zero, List.set_cons_succ])
  refine wpAnyH_take (i := 1) (oi := _) (v := ?_) rfl (by kernel_rfl) (by kernel_rfl) (by kernel_rfl) (fun _ _ _ h => h) (Or.inl ⟨by rfl, ?_⟩) (by assumption) ?_
  rotate_left 1
  · (intro w hSw; (try dsimp only at hSw); (go_simp <;> with_reducible rfl))
  (try simp only [Act.put, List.setIfInBounds_toArray, List.set_cons_zero, List.set_cons_succ])
  refine wpAnyH_take (i := 2) (oi := _) (v := ?_) rfl (by kernel_rfl) (by kernel_rfl) (by kernel_rfl) (fun _ _ _ h => h) (Or.inl ⟨by rfl, ?_⟩) (by assumption) ?_
  rotate_left 1
  · (intro w hSw; (try dsimp only at hSw); (go_simp <;> with_reducible rfl))
  (try simp only [Act.put, List.setIfInBounds_toArray, List.set_cons_zero, List.set_cons_succ])
  refine wpAnyH_take (i := 3) (oi := _) (v := ?_) rfl (by kernel_rfl) (by kernel_rfl) (by kernel_rfl) (fun _ _ _ h => h) (Or.inl ⟨by rfl, ?_⟩) (by assumption) ?_
  rotate_left 1
  · (intro w hSw; (try dsimp only at hSw); (go_simp <;> with_reducible rfl))
  (try simp only [Act.put, List.setIfInBounds_toArray, List.set_cons_zero, List.set_cons_succ])
  refine wpAnyH_take (i := 4) (oi := _) (v := ?_) rfl (by kernel_rfl) (by kernel_rfl) (by kernel_rfl) (fun _ _ _ h => h) (Or.inl ⟨by rfl, ?_⟩) (by assumption) ?_
  rotate_left 1
  · (intro w hSw; (try dsimp only at hSw); (go_simp <;> with_reducible rfl))
  (try simp only [Act.put, List.setIfInBounds_toArray, List.set_cons_zero, List.set_cons_succ])
  refine wpAnyH_take (i := 5) (oi := _) (v := ?_) rfl (by kernel_rfl) (by kernel_rfl) (by kernel_rfl) (fun _ _ _ h => h) (Or.inl ⟨by rfl, ?_⟩) (by assumption) ?_
  rotate_left 1
  · (intro w hSw; (try dsimp only at hSw); (go_simp <;> with_reducible rfl))
  (try simp only [Act.put, List.setIfInBounds_toArray, List.set_cons_zero, List.set_cons_succ])
  refine wpAnyH_take (i := 6) (oi := _) (v := ?_) rfl (by kernel_rfl) (by kernel_rfl) (by kernel_rfl) (fun _ _ _ h => h) (Or.inl ⟨by rfl, ?_⟩) (by assumption) ?_
  rotate_left 1
  · (intro w hSw; (try dsimp only at hSw); (go_simp <;> with_reducible rfl))
  (try simp only [Act.put, List.setIfInBounds_toArray, List.set_cons_zero, List.set_cons_succ])
  refine wpAnyH_take (i := 7) (oi := _) (v := ?_) rfl (by kernel_rfl) (by kernel_rfl) (by kernel_rfl) (fun _ _ _ h => h) (Or.inl ⟨by rfl, ?_⟩) (by assumption) ?_
  rotate_left 1
  · (intro w hSw; (try dsimp only at hSw); (go_simp <;> with_reducible rfl))
  (try simp only [Act.put, List.setIfInBounds_toArray, List.set_cons_zero, List.set_cons_succ])
  refine wpAnyH_take (i := 8) (oi := _) (v := ?_) rfl (by kernel_rfl) (by kernel_rfl) (by kernel_rfl) (fun _ _ _ h => h) (Or.inl ⟨by rfl, ?_⟩) (by assumption) ?_
  rotate_left 1
  · (intro w hSw; (try dsimp only at hSw); (go_simp <;> with_reducible rfl))
  (try simp only [Act.put, List.setIfInBounds_toArray, List.set_cons_zero, List.set_cons_succ])
  refine wpAnyH_take (i := 9) (oi := _) (v := ?_) rfl (by kernel_rfl) (by kernel_rfl) (by kernel_rfl) (fun _ _ _ h => h) (Or.inl ⟨by rfl, ?_⟩) (by assumption) ?_
  rotate_left 1
  · (intro w hSw; (try dsimp only at hSw); (go_simp <;> with_reducible rfl))
  (try simp only [Act.put, List.setIfInBounds_toArray, List.set_cons_zero, List.set_cons_succ])
  refine wpAnyH_take (i := 10) (oi := _) (v := ?_) rfl (by kernel_rfl) (by kernel_rfl) (by kernel_rfl) (fun _ _ _ h => h) (Or.inl ⟨by rfl, ?_⟩) (by assumption) ?_
  rotate_left 1
  · (intro w hSw; (try dsimp only at hSw); (go_simp <;> with_reducible rfl))
  (try simp only [Act.put, List.setIfInBounds_toArray, List.set_cons_zero, List.set_cons_succ])
  refine wpAnyH_take (i := 11) (oi := _) (v := ?_) rfl (by kernel_rfl) (by kernel_rfl) (by kernel_rfl) (fun _ _ _ h => h) (Or.inl ⟨by rfl, ?_⟩) (by assumption) ?_
  rotate_left 1
  · (intro w hSw; (try dsimp only at hSw); (go_simp <;> with_reducible rfl))
  (try simp only [Act.put, List.setIfInBounds_toArray, List.set_cons_zero, List.set_cons_succ])
  refine wpAnyH_take (i := 12) (oi := _) (v := ?_) rfl (by kernel_rfl) (by kernel_rfl) (by kernel_rfl) (fun _ _ _ h => h) (Or.inl ⟨by rfl, ?_⟩) (by assumption) ?_
  rotate_left 1
  · (intro w hSw; (try dsimp only at hSw); (go_simp <;> with_reducible rfl))
  (try simp only [Act.put, List.setIfInBounds_toArray, List.set_cons_zero, List.set_cons_succ])
  refine wpAnyH_take (i := 14) (oi := _) (v := ?_) rfl (by kernel_rfl) (by kernel_rfl) (by kernel_rfl) (fun _ _ _ h => h) (Or.inl ⟨by rfl, ?_⟩) (by assumption) ?_
  rotate_left 1
  · (intro w hSw; (try dsimp only at hSw); (go_simp <;> with_reducible rfl))
  (try simp only [Act.put, List.setIfInBounds_toArray, List.set_cons_zero, List.set_cons_succ])
  refine wpAnyH_take (i := 15) (oi := _) (v := ?_) rfl (by kernel_rfl) (by kernel_rfl) (by kernel_rfl) (fun _ _ _ h => h) (Or.inl ⟨by rfl, ?_⟩) (by assumption) ?_
  rotate_left 1
  · (intro w hSw; (try dsimp only at hSw); (go_simp <;> with_reducible rfl))
  (try simp only [Act.put, List.setIfInBounds_toArray, List.set_cons_zero, List.set_cons_succ])
  refine wpAnyH_take (i := 16) (oi := _) (v := ?_) rfl (by kernel_rfl) (by kernel_rfl) (by kernel_rfl) (fun _ _ _ h => h) (Or.inl ⟨by rfl, ?_⟩) (by assumption) ?_
  rotate_left 1
  · (intro w hSw; (try dsimp only at hSw); (go_simp <;> with_reducible rfl))
  (try simp only [Act.put, List.setIfInBounds_toArray, List.set_cons_zero, List.set_cons_succ])
  refine wpAnyH_ready (rs := [13, 17]) (by kernel_rfl) (by simp) ?_
  refine AllReadyH.cons (o := _) rfl (fun K hK => ?_) ?_
  · go_simp
    refine hK.out _ _ ?_ (fun hHeld => ?_)
    · exact ⟨p0, q0⟩
    clear hK K
    (try simp only [Act.put, List.setIfInBounds_toArray, List.set_cons_zero, List.set_cons_succ])
    refine wpAnyH_ready (rs := [17]) (by kernel_rfl) (by simp) ?_
    refine AllReadyH.cons (o := _) rfl (fun K hK => ?_) ?_
    · go_simp
      refine hK.out _ _ ?_ (fun hHeld => ?_)
      · exact ⟨p0, q0⟩
      clear hK K
      (try simp only [Act.put, List.setIfInBounds_toArray, List.set_cons_zero, List.set_cons_succ])
      refine wpAnyH_ready (rs := [18]) (by kernel_rfl) (by simp) ?_
      refine AllReadyH.cons (o := _) rfl (fun K hK => ?_) ?_
      · go_simp
        refine (HM.out _).mono ?_
        rintro e w1 ⟨A1, n1, c1, rfl, h1, b1⟩
        have d0 := (b1.cell (p := ⟨p, 0, none⟩) hpl).trans p0
        have e0 := (b1.cell (p := ⟨q, 0, none⟩) hql).trans q0
        have H1 := Lib.hid h1
        have HZ1 := Lib.hid ((HZ.out.drewN _).below b1)
        have HX1 := Lib.hid ((HX.out.drewN _).below b1)
        have HY1 := Lib.hid ((HY.out.drewN _).below b1)
        have B1 := Lib.hid b1
        clear h1 b1
        go_simp
        refine hK.out _ _ ?_ (fun hHeld => ?_)
        · exact ⟨d0, e0⟩
        clear hK K
        (try simp only [Act.put, List.setIfInBounds_toArray, List.set_cons_zero, List.set_cons_succ])
        refine wpAnyH_ready (rs := [19]) (by kernel_rfl) (by simp) ?_
        refine AllReadyH.cons (o := _) rfl (fun K hK => ?_) ?_
        · go_simp
          refine (give_any z A1 n1 c1 (x * y) _ HZ1.out H1.out).mono ?_
          rintro e w2 ⟨rfl, h2, o2⟩
          have g0 := neg_kept HX1.out h2 o2
          have k0 := neg_kept HY1.out h2 o2
          have H2 := Lib.hid h2
          have O2 := Lib.hid o2
          clear h2 o2
          go_simp
          refine hK.out _ _ ?_ (fun hHeld => ?_)
          · exact ⟨g0, k0⟩
          clear hK K
          (try simp only [Act.put, List.setIfInBounds_toArray, List.set_cons_zero, List.set_cons_succ])
          refine wpAnyH_ready (rs := [20]) (by kernel_rfl) (by simp) ?_
          refine AllReadyH.cons (o := _) rfl (fun K hK => ?_) ?_
          · go_simp
            refine hK.out _ _ ?_ (fun hHeld => ?_)
            · exact ⟨g0, k0⟩
            clear hK K
            (try simp only [Act.put, List.setIfInBounds_toArray, List.set_cons_zero, List.set_cons_succ])
            refine wpAnyH_done (by kernel_rfl) ?_ _
            go_wp2_with fail
            go_ret
            exact ⟨rfl, H2.out, (Only.of_below ((bdrewN (Below.refl _ w) 1).trans B1.out)).trans O2.out⟩
          exact AllReadyH.nil
        exact AllReadyH.nil
      exact AllReadyH.nil
    exact AllReadyH.nil
  refine AllReadyH.cons (o := _) rfl (fun K hK => ?_) ?_
  · go_simp
    refine hK.out _ _ ?_ (fun hHeld => ?_)
    · exact ⟨p0, q0⟩
    clear hK K
    (try simp only [Act.put, List.setIfInBounds_toArray, List.set_cons_zero, List.set_cons_succ])
    refine wpAnyH_ready (rs := [13]) (by kernel_rfl) (by simp) ?_
    refine AllReadyH.cons (o := _) rfl (fun K hK => ?_) ?_
    · go_simp
      refine hK.out _ _ ?_ (fun hHeld => ?_)
      · exact ⟨p0, q0⟩
      clear hK K
      (try simp only [Act.put, List.setIfInBounds_toArray, List.set_cons_zero, List.set_cons_succ])
      refine wpAnyH_ready (rs := [18]) (by kernel_rfl) (by simp) ?_
      refine AllReadyH.cons (o := _) rfl (fun K hK => ?_) ?_
      · go_simp
        refine (HM.out _).mono ?_
        rintro e w1 ⟨A1, n1, c1, rfl, h1, b1⟩
        have d0 := (b1.cell (p := ⟨p, 0, none⟩) hpl).trans p0
        have e0 := (b1.cell (p := ⟨q, 0, none⟩) hql).trans q0
        have H1 := Lib.hid h1
        have HZ1 := Lib.hid ((HZ.out.drewN _).below b1)
        have HX1 := Lib.hid ((HX.out.drewN _).below b1)
        have HY1 := Lib.hid ((HY.out.drewN _).below b1)
        have B1 := Lib.hid b1
        clear h1 b1
        go_simp
        refine hK.out _ _ ?_ (fun hHeld => ?_)
        · exact ⟨d0, e0⟩
        clear hK K
        (try simp only [Act.put, List.setIfInBounds_toArray, List.set_cons_zero, List.set_cons_succ])
        refine wpAnyH_ready (rs := [19]) (by kernel_rfl) (by simp) ?_
        refine AllReadyH.cons (o := _) rfl (fun K hK => ?_) ?_
        · go_simp
          refine (give_any z A1 n1 c1 (x * y) _ HZ1.out H1.out).mono ?_
          rintro e w2 ⟨rfl, h2, o2⟩
          have g0 := neg_kept HX1.out h2 o2
          have k0 := neg_kept HY1.out h2 o2
          have H2 := Lib.hid h2
          have O2 := Lib.hid o2
          clear h2 o2
          go_simp
          refine hK.out _ _ ?_ (fun hHeld => ?_)
          · exact ⟨g0, k0⟩
          clear hK K
          (try simp only [Act.put, List.setIfInBounds_toArray, List.set_cons_zero, List.set_cons_succ])
          refine wpAnyH_ready (rs := [20]) (by kernel_rfl) (by simp) ?_
          refine AllReadyH.cons (o := _) rfl (fun K hK => ?_) ?_
          · go_simp
            refine hK.out _ _ ?_ (fun hHeld => ?_)
            · exact ⟨g0, k0⟩
            clear hK K
            (try simp only [Act.put, List.setIfInBounds_toArray, List.set_cons_zero, List.set_cons_succ])
            refine wpAnyH_done (by kernel_rfl) ?_ _
            go_wp2_with fail
            go_ret
            exact ⟨rfl, H2.out, (Only.of_below ((bdrewN (Below.refl _ w) 1).trans B1.out)).trans O2.out⟩
          exact AllReadyH.nil
        exact AllReadyH.nil
      exact AllReadyH.nil
    exact AllReadyH.nil
  exact AllReadyH.nil
set_option maxHeartbeats 2000000 in
theorem lsh_w (z p x sh : Nat) (w : World) (hz : IAny w z) (hx : IntAt w p x) (hm : (digs B x).length < 10000000000) (hsh : sh < 10000000000) :
    Calls Tryz.prog 60 #[.pointer (some ⟨z, 0, none⟩), .pointer (some ⟨p, 0, none⟩), .int .u64 (sh : Nat)] w (SetPost w z (x * 2 ^ sh)) := by
  obtain ⟨A, n, c, p0, p1, hN, hpl⟩ := hx.open_
  have HM := Lib.hid (fun k => left_w A n c x sh (w.drewN k) (hN.drewN k) (by rw [hN.1]; omega) (by omega))
  have HZ := Lib.hid hz
  have HX := Lib.hid hx
  clear hx hN hz
  go_enter Tryz.func60, Tryz.ntmps60
  go_wp2_with fail
  refine wp_region_held_drew (S := fun w' => w'.cell? ⟨p, 0, none⟩ = some (.bool false)) (by kernel_rfl) ?_ (fun hHeld => ?_)
  · exact p0
  refine wpAnyH_take (i := 0) (oi := _) (v := ?_) rfl (by kernel_rfl) (by kernel_rfl) (by kernel_rfl) (fun _ _ _ h => h) (Or.inl ⟨by rfl, ?_⟩) (by assumption) ?_
  rotate_left 1
  · (intro w hSw; (try dsimp only at hSw); (go_simp <;> with_reducible rfl))
  (try simp only [Act.put, List.setIfInBounds_toArray, List.set_cons_zero, List.set_cons_succ])
  refine wpAnyH_take (i := 1) (oi := _) (v := ?_) rfl (by kernel_rfl) (by kernel_rfl) (by kernel_rfl) (fun _ _ _ h => h) (Or.inl ⟨by rfl, ?_⟩) (by assumption) ?_
  rotate_left 1
  · (intro w hSw; (try dsimp only at hSw); (go_simp <;> with_reducible rfl))
  (try simp only [Act.put, List.setIfInBounds_toArray, List.set_cons_zero, List.set_cons_succ])
  refine wpAnyH_take (i := 2) (oi := _) (v := ?_) rfl (by kernel_rfl) (by kernel_rfl) (by kernel_rfl) (fun _ _ _ h => h) (Or.inl ⟨by rfl, ?_⟩) (by assumption) ?_
  rotate_left 1
  · (intro w hSw; (try dsimp only at hSw); (go_simp <;> with_reducible rfl))
  (try simp only [Act.put, List.setIfInBounds_toArray, List.set_cons_zero, List.set_cons_succ])
  refine wpAnyH_take (i := 3) (oi := _) (v := ?_) rfl (by kernel_rfl) (by kernel_rfl) (by kernel_rfl) (fun _ _ _ h => h) (Or.inl ⟨by rfl, ?_⟩) (by assumption) ?_
  rotate_left 1
  · (intro w hSw; (try dsimp only at hSw); (go_simp <;> with_reducible rfl))
  (try simp only [Act.put, List.setIfInBounds_toArray, List.set_cons_zero, List.set_cons_succ])
  refine wpAnyH_take (i := 4) (oi := _) (v := ?_) rfl (by kernel_rfl) (by kernel_rfl) (by kernel_rfl) (fun _ _ _ h => h) (Or.inl ⟨by rfl, ?_⟩) (by assumption) ?_
  rotate_left 1
  · (intro w hSw; (try dsimp only at hSw); (go_simp <;> with_reducible rfl))
  (try simp only [Act.put, List.setIfInBounds_toArray, List.set_cons_zero, List.set_cons_succ])
  refine wpAnyH_take (i := 5) (oi := _) (v := ?_) rfl (by kernel_rfl) (by kernel_rfl) (by kernel_rfl) (fun _ _ _ h => h) (Or.inl ⟨by rfl, ?_⟩) (by assumption) ?_
  rotate_left 1
  · (intro w hSw; (try dsimp only at hSw); (go_simp <;> with_reducible rfl))
  (try simp only [Act.put, List.setIfInBounds_toArray, List.set_cons_zero, List.set_cons_succ])
  refine wpAnyH_take (i := 6) (oi := _) (v := ?_) rfl (by kernel_rfl) (by kernel_rfl) (by kernel_rfl) (fun _ _ _ h => h) (Or.inl ⟨by rfl, ?_⟩) (by assumption) ?_
  rotate_left 1
  · (intro w hSw; (try dsimp only at hSw); (go_simp <;> with_reducible rfl))
  (try simp only [Act.put, List.setIfInBounds_toArray, List.set_cons_zero, List.set_cons_succ])
  refine wpAnyH_take (i := 7) (oi := _) (v := ?_) rfl (by kernel_rfl) (by kernel_rfl) (by kernel_rfl) (fun _ _ _ h => h) (Or.inl ⟨by rfl, ?_⟩) (by assumption) ?_
  rotate_left 1
  · (intro w hSw; (try dsimp only at hSw); (go_simp <;> with_reducible rfl))
  (try simp only [Act.put, List.setIfInBounds_toArray, List.set_cons_zero, List.set_cons_succ])
  refine wpAnyH_take (i := 9) (oi := _) (v := ?_) rfl (by kernel_rfl) (by kernel_rfl) (by kernel_rfl) (fun _ _ _ h => h) (Or.inl ⟨by rfl, ?_⟩) (by assumption) ?_
  rotate_left 1
  · (intro w hSw; (try dsimp only at hSw); (go_simp <;> with_reducible rfl))
  (try simp only [Act.put, List.setIfInBounds_toArray, List.set_cons_zero, List.set_cons_succ])
  refine wpAnyH_ready (rs := [8]) (by kernel_rfl) (by simp) ?_
  refine AllReadyH.cons (o := _) rfl (fun K hK => ?_) ?_
  · go_simp
    refine hK.out _ _ ?_ (fun hHeld => ?_)
    · exact p0
    clear hK K
    (try simp only [Act.put, List.setIfInBounds_toArray, List.set_cons_zero, List.set_cons_succ])
    refine wpAnyH_ready (rs := [10]) (by kernel_rfl) (by simp) ?_
    refine AllReadyH.cons (o := _) rfl (fun K hK => ?_) ?_
    · go_simp
      refine (HM.out _).mono ?_
      rintro e w1 ⟨A1, n1, c1, rfl, h1, b1⟩
      have d0 := (b1.cell (p := ⟨p, 0, none⟩) hpl).trans p0
      have H1 := Lib.hid h1
      have HZ1 := Lib.hid ((HZ.out.drewN _).below b1)
      have HX1 := Lib.hid ((HX.out.drewN _).below b1)
      have B1 := Lib.hid b1
      clear h1 b1
      go_simp
      refine hK.out _ _ ?_ (fun hHeld => ?_)
      · exact d0
      clear hK K
      (try simp only [Act.put, List.setIfInBounds_toArray, List.set_cons_zero, List.set_cons_succ])
      refine wpAnyH_ready (rs := [11]) (by kernel_rfl) (by simp) ?_
      refine AllReadyH.cons (o := _) rfl (fun K hK => ?_) ?_
      · go_simp
        refine (give_any z A1 n1 c1 (x * 2 ^ sh) _ HZ1.out H1.out).mono ?_
        rintro e w2 ⟨rfl, h2, o2⟩
        have g0 := neg_kept HX1.out h2 o2
        have H2 := Lib.hid h2
        have O2 := Lib.hid o2
        clear h2 o2
        go_simp
        refine hK.out _ _ ?_ (fun hHeld => ?_)
        · exact g0
        clear hK K
        (try simp only [Act.put, List.setIfInBounds_toArray, List.set_cons_zero, List.set_cons_succ])
        refine wpAnyH_ready (rs := [12]) (by kernel_rfl) (by simp) ?_
        refine AllReadyH.cons (o := _) rfl (fun K hK => ?_) ?_
        · go_simp
          refine hK.out _ _ ?_ (fun hHeld => ?_)
          · exact g0
          clear hK K
          (try simp only [Act.put, List.setIfInBounds_toArray, List.set_cons_zero, List.set_cons_succ])
          refine wpAnyH_done (by kernel_rfl) ?_ _
          go_wp2_with fail
          go_ret
          exact ⟨rfl, H2.out, (Only.of_below ((bdrewN (Below.refl _ w) 1).trans B1.out)).trans O2.out⟩
        exact AllReadyH.nil
      exact AllReadyH.nil
    exact AllReadyH.nil
  exact AllReadyH.nil
set_option maxHeartbeats 2000000 in
theorem iset_w (z p x : Nat) (w : World) (hz : IAny w z) (hx : IntAt w p x) (hm : (digs B x).length < 10000000000) :
    Calls Tryz.prog 91 #[.pointer (some ⟨z, 0, none⟩), .pointer (some ⟨p, 0, none⟩)] w (SetPost w z x) := by
  obtain ⟨A, n, c, p0, p1, hN, hpl⟩ := hx.open_
  have HM := Lib.hid (fun k => twin_w A n c x (w.drewN k) (hN.drewN k) (by rw [hN.1]; omega))
  have HZ := Lib.hid hz
  have HX := Lib.hid hx
  clear hx hN hz
  go_enter Tryz.func91, Tryz.ntmps91
  go_wp2_with fail
  refine wp_region_held_drew (S := fun w' => w'.cell? ⟨p, 0, none⟩ = some (.bool false)) (by kernel_rfl) ?_ (fun hHeld => ?_)
  · exact p0
  refine wpAnyH_take (i := 0) (oi := _) (v := ?_) rfl (by kernel_rfl) (by kernel_rfl) (by kernel_rfl) (fun _ _ _ h => h) (Or.inl ⟨by rfl, ?_⟩) (by assumption) ?_
  rotate_left 1
  · (intro w hSw; (try dsimp only at hSw); (go_simp <;> with_reducible rfl))
  (try simp only [Act.put, List.setIfInBounds_toArray, List.set_cons_zero, List.set_cons_succ])
  refine wpAnyH_take (i := 1) (oi := _) (v := ?_) rfl (by kernel_rfl) (by kernel_rfl) (by kernel_rfl) (fun _ _ _ h => h) (Or.inl ⟨by rfl, ?_⟩) (by assumption) ?_
  rotate_left 1
  · (intro w hSw; (try dsimp only at hSw); (go_simp <;> with_reducible rfl))
  (try simp only [Act.put, List.setIfInBounds_toArray, List.set_cons_zero, List.set_cons_succ])
  refine wpAnyH_take (i := 2) (oi := _) (v := ?_) rfl (by kernel_rfl) (by kernel_rfl) (by kernel_rfl) (fun _ _ _ h => h) (Or.inl ⟨by rfl, ?_⟩) (by assumption) ?_
  rotate_left 1
  · (intro w hSw; (try dsimp only at hSw); (go_simp <;> with_reducible rfl))
  (try simp only [Act.put, List.setIfInBounds_toArray, List.set_cons_zero, List.set_cons_succ])
  refine wpAnyH_take (i := 3) (oi := _) (v := ?_) rfl (by kernel_rfl) (by kernel_rfl) (by kernel_rfl) (fun _ _ _ h => h) (Or.inl ⟨by rfl, ?_⟩) (by assumption) ?_
  rotate_left 1
  · (intro w hSw; (try dsimp only at hSw); (go_simp <;> with_reducible rfl))
  (try simp only [Act.put, List.setIfInBounds_toArray, List.set_cons_zero, List.set_cons_succ])
  refine wpAnyH_take (i := 4) (oi := _) (v := ?_) rfl (by kernel_rfl) (by kernel_rfl) (by kernel_rfl) (fun _ _ _ h => h) (Or.inl ⟨by rfl, ?_⟩) (by assumption) ?_
  rotate_left 1
  · (intro w hSw; (try dsimp only at hSw); (go_simp <;> with_reducible rfl))
  (try simp only [Act.put, List.setIfInBounds_toArray, List.set_cons_zero, List.set_cons_succ])
  refine wpAnyH_take (i := 5) (oi := _) (v := ?_) rfl (by kernel_rfl) (by kernel_rfl) (by kernel_rfl) (fun _ _ _ h => h) (Or.inl ⟨by rfl, ?_⟩) (by assumption) ?_
  rotate_left 1
  · (intro w hSw; (try dsimp only at hSw); (go_simp <;> with_reducible rfl))
  (try simp only [Act.put, List.setIfInBounds_toArray, List.set_cons_zero, List.set_cons_succ])
  refine wpAnyH_take (i := 6) (oi := _) (v := ?_) rfl (by kernel_rfl) (by kernel_rfl) (by kernel_rfl) (fun _ _ _ h => h) (Or.inl ⟨by rfl, ?_⟩) (by assumption) ?_
  rotate_left 1
  · (intro w hSw; (try dsimp only at hSw); (go_simp <;> with_reducible rfl))
  (try simp only [Act.put, List.setIfInBounds_toArray, List.set_cons_zero, List.set_cons_succ])
  refine wpAnyH_take (i := 7) (oi := _) (v := ?_) rfl (by kernel_rfl) (by kernel_rfl) (by kernel_rfl) (fun _ _ _ h => h) (Or.inl ⟨by rfl, ?_⟩) (by assumption) ?_
  rotate_left 1
  · (intro w hSw; (try dsimp only at hSw); (go_simp <;> with_reducible rfl))
  (try simp only [Act.put, List.setIfInBounds_toArray, List.set_cons_zero, List.set_cons_succ])
  refine wpAnyH_ready (rs := [8]) (by kernel_rfl) (by simp) ?_
  refine AllReadyH.cons (o := _) rfl (fun K hK => ?_) ?_
  · go_simp
    refine hK.out _ _ ?_ (fun hHeld => ?_)
    · exact p0
    clear hK K
    (try simp only [Act.put, List.setIfInBounds_toArray, List.set_cons_zero, List.set_cons_succ])
    refine wpAnyH_ready (rs := [9]) (by kernel_rfl) (by simp) ?_
    refine AllReadyH.cons (o := _) rfl (fun K hK => ?_) ?_
    · go_simp
      refine (HM.out _).mono ?_
      rintro e w1 ⟨A1, n1, c1, rfl, h1, b1⟩
      have d0 := (b1.cell (p := ⟨p, 0, none⟩) hpl).trans p0
      have H1 := Lib.hid h1
      have HZ1 := Lib.hid ((HZ.out.drewN _).below b1)
      have HX1 := Lib.hid ((HX.out.drewN _).below b1)
      have B1 := Lib.hid b1
      clear h1 b1
      go_simp
      refine hK.out _ _ ?_ (fun hHeld => ?_)
      · exact d0
      clear hK K
      (try simp only [Act.put, List.setIfInBounds_toArray, List.set_cons_zero, List.set_cons_succ])
      refine wpAnyH_ready (rs := [10]) (by kernel_rfl) (by simp) ?_
      refine AllReadyH.cons (o := _) rfl (fun K hK => ?_) ?_
      · go_simp
        refine (give_any z A1 n1 c1 x _ HZ1.out H1.out).mono ?_
        rintro e w2 ⟨rfl, h2, o2⟩
        have g0 := neg_kept HX1.out h2 o2
        have H2 := Lib.hid h2
        have O2 := Lib.hid o2
        clear h2 o2
        go_simp
        refine hK.out _ _ ?_ (fun hHeld => ?_)
        · exact g0
        clear hK K
        (try simp only [Act.put, List.setIfInBounds_toArray, List.set_cons_zero, List.set_cons_succ])
        refine wpAnyH_ready (rs := [11]) (by kernel_rfl) (by simp) ?_
        refine AllReadyH.cons (o := _) rfl (fun K hK => ?_) ?_
        · go_simp
          refine hK.out _ _ ?_ (fun hHeld => ?_)
          · exact g0
          clear hK K
          (try simp only [Act.put, List.setIfInBounds_toArray, List.set_cons_zero, List.set_cons_succ])
          refine wpAnyH_done (by kernel_rfl) ?_ _
          go_wp2_with fail
          go_ret
          exact ⟨rfl, H2.out, (Only.of_below ((bdrewN (Below.refl _ w) 1).trans B1.out)).trans O2.out⟩
        exact AllReadyH.nil
      exact AllReadyH.nil
    exact AllReadyH.nil
  exact AllReadyH.nil
set_option maxHeartbeats 2000000 in
theorem bitlen_w (p x : Nat) (w : World) (hx : IntAt w p x) (hm : (digs B x).length < 10000000000) :
    Calls Tryz.prog 58 #[.pointer (some ⟨p, 0, none⟩)] w (BlenPost w x) := by
  obtain ⟨A, n, c, p0, p1, hN, hpl⟩ := hx.open_
  have HL := Lib.hid (length_w A n c x w hN (by rw [hN.1]; omega))
  clear hx hN
  go_enter Tryz.func58, Tryz.ntmps58
  go_wp2_with fail
  refine HL.out.mono ?_
  rintro e w1 ⟨rfl, rfl⟩
  go_wp2_with fail
  go_ret
  exact blen_post rfl
set_option maxHeartbeats 2000000 in
theorem icmp_w (p q x y : Nat) (w : World) (hx : IntAt w p x) (hy : IntAt w q y) (hm : (digs B x).length < 10000000000) (hm' : (digs B y).length < 10000000000) :
    Calls Tryz.prog 61 #[.pointer (some ⟨p, 0, none⟩), .pointer (some ⟨q, 0, none⟩)] w (CmpPost w x y) := by
  obtain ⟨A, n, c, p0, p1, hN, hpl⟩ := hx.open_
  obtain ⟨A', n', c', q0, q1, hN', hql⟩ := hy.open_
  have HM := Lib.hid (fun W (h : NumAt W A n x) (h' : NumAt W A' n' y) => cmp_w A n c x A' n' c' y W h h' (by rw [hN.1]; omega) (by rw [hN'.1]; omega))
  have HN := Lib.hid hN
  have HN' := Lib.hid hN'
  clear hx hy hN hN'
  go_enter Tryz.func61, Tryz.ntmps61
  go_wp2_with fail
  go_quiet (fail)
  go_wp2_with fail
  go_quiet ((go_at_call 96; exact quiet_add (cmp_quiet (HM.out _ (HN.out.drewN _) (HN'.out.drewN _)))))
  go_wp2_with fail
  go_ret
  exact cmp_post rfl
set_option maxHeartbeats 2000000 in
theorem iu64_w (p x : Nat) (w : World) (hx : IntAt w p x) (hm : (digs B x).length < 10000000000) :
    Calls Tryz.prog 93 #[.pointer (some ⟨p, 0, none⟩)] w (U64Post w (x % 18446744073709551616)) := by
  obtain ⟨A, n, c, p0, p1, ha, hpl⟩ := hx.open_
  have HA := Lib.hid ha
  have hm2 : n < 10000000000 := by rw [ha.1]; exact hm
  have HX := Lib.hid (low_two x)
  rw [← digs_getD hB, ← digs_getD hB] at HX
  clear hx hm
  by_cases h0 : n = 0
  · have HZ := Lib.hid (ha.len_zero.1 h0)
    subst h0
    clear ha
    go_enter Tryz.func93, Tryz.ntmps93
    go_wp2_with fail
    go_ret
    exact u64_post (by rw [HZ.out]; rfl)
  · obtain ⟨b, off, rfl, hblt, hac⟩ := ha.2.cells (by rw [← ha.1]; omega)
    have c0 := hac 0 (by rw [← ha.1]; omega)
    have b0 := (digs_dig hB x).getD B_pos 0
    have t0 : decide ((0 : Int) < (n : Int)) = true := by simp; omega
    by_cases h1 : n = 1
    · have h2 : (digs B x).getD 1 0 = 0 := getD_end (by rw [← ha.1]; omega)
      rw [h2] at HX
      subst h1
      clear ha hac h2
      rw [Nat.add_zero] at c0
      generalize (digs B x).getD 0 0 = p at *
      rw [B_eq] at b0
      go_enter Tryz.func93, Tryz.ntmps93
      go_wp2_with fail
      go_ret
      exact u64_post (by rw [HX.out]; omega)
    · have c1 := hac 1 (by rw [← ha.1]; omega)
      have b1 := (digs_dig hB x).getD B_pos 1
      have t1 : decide ((1 : Int) < (n : Int)) = true := by simp; omega
      clear ha hac
      rw [Nat.add_zero] at c0
      generalize (digs B x).getD 0 0 = p at *
      generalize (digs B x).getD 1 0 = r at *
      rw [B_eq] at b0 b1
      go_enter Tryz.func93, Tryz.ntmps93
      go_wp2_with fail
      go_ret
      exact u64_post (by rw [HX.out, or_lo_hi b1 b0]; omega)
def QrPost (w : World) (z r x y : Nat) (e : Ending) (w' : World) : Prop :=
  ∃ w1, e = .returned (.tuple #[.pointer (some ⟨z, 0, none⟩), .pointer (some ⟨r, 0, none⟩)]) ∧ IntAt w' z (x / y) ∧ IntAt w' r (x % y) ∧ Only z w w1 ∧ Only r w1 w'
set_option maxHeartbeats 4000000 in
theorem quorem_w (z p q r x y : Nat) (w : World) (hz : IAny w z) (hx : IntAt w p x) (hy : IntAt w q y) (hr : IAny w r) (hzr : z ≠ r) (hy0 : y ≠ 0) (hm : (digs B x).length < 100000000) (hm' : (digs B y).length < 100000000) :
    Calls Tryz.prog 92 #[.pointer (some ⟨z, 0, none⟩), .pointer (some ⟨p, 0, none⟩), .pointer (some ⟨q, 0, none⟩), .pointer (some ⟨r, 0, none⟩)] w (QrPost w z r x y) := by
  obtain ⟨A, n, c, p0, p1, hN, hpl⟩ := hx.open_
  obtain ⟨A', n', c', q0, q1, hN', hql⟩ := hy.open_
  have HM := Lib.hid (fun k => div_w A n c x A' n' c' y (w.drewN k) (hN.drewN k) (hN'.drewN k) (by rw [hN.1]; omega) (by rw [hN'.1]; omega) hy0)
  have HZ := Lib.hid hz
  have HR := Lib.hid hr
  clear hx hN hz hy hN' hr
  go_enter Tryz.func92, Tryz.ntmps92
  go_wp2_with fail
  go_quiet (fail)
  go_wp2_with fail
  have p1' : (w.drewN nq).cell? ⟨p, 1, none⟩ = some (.slice A n c) := p1
  have q1' : (w.drewN nq).cell? ⟨q, 1, none⟩ = some (.slice A' n' c') := q1
  go_region_held3 (fun w' => w'.cell? ⟨p, 1, none⟩ = some (.slice A n c) ∧ w'.cell? ⟨q, 1, none⟩ = some (.slice A' n' c')) (first | exact ⟨p1, q1⟩ | exact ⟨d0, e0⟩)
    ((go_at_call 124; refine (HM.out _).mono ?_; rintro e w1 ⟨A1, n1, c1, A2, n2, c2, rfl, h1, h2, b1⟩; have d0 := (b1.cell (p := ⟨p, 1, none⟩) hpl).trans p1; have e0 := (b1.cell (p := ⟨q, 1, none⟩) hql).trans q1; have H1 := Lib.hid h1; have H2 := Lib.hid h2; have HZ1 := Lib.hid ((HZ.out.drewN _).below b1); have HR1 := Lib.hid ((HR.out.drewN _).below b1); have B1 := Lib.hid b1; clear h1 h2 b1))
  all_goals
    go_wp2_with fail
    refine (give_any z A1 n1 c1 (x / y) w1 HZ1.out H1.out).mono ?_
    rintro e w2 ⟨rfl, h3, o3⟩
    have HN2 := Lib.hid (num_other HZ1.out H2.out o3)
    have HR2 := Lib.hid (any_other HR1.out hzr o3)
    have H3 := Lib.hid h3
    have O3 := Lib.hid o3
    clear h3 o3
    go_wp2_with fail
    refine (give_any r A2 n2 c2 (x % y) w2 HR2.out HN2.out).mono ?_
    rintro e w3 ⟨rfl, h4, o4⟩
    have H4 := Lib.hid h4
    have O4 := Lib.hid o4
    clear h4 o4
    go_wp2_with fail
    go_ret2
    exact ⟨w2, rfl, int_other H3.out HR2.out hzr O4.out, H4.out, (Only.of_below ((bdrewN (Below.refl _ w) _).trans B1.out)).trans O3.out, O4.out⟩
end Go.Proofs.YtabmalnandbocaaGreatDoor.Num
namespace Go.Proofs.YtabmalnandbocaaGreatDoor.Num
set_option exponentiation.threshold 3000
set_option linter.unusedVariables false
set_option linter.unusedSimpArgs false
open Go.RowKit Go.Proofs.YtabmalnandbocaaGreatDoor.Mem Go.Proofs.YtabmalnandbocaaGreatDoor.Own Go.Proofs.YtabmalnandbocaaGreatDoor.Big

theorem exp_half (x y k : Nat) : x ^ (y / 2 ^ k) = x ^ (y / 2 ^ (k + 1)) * x ^ (y / 2 ^ (k + 1)) * x ^ (y / 2 ^ k % 2) := by
  rw [← Nat.pow_add, ← Nat.pow_add]
  congr 1
  rw [Nat.pow_succ, ← Nat.div_div_eq_div_mul]
  omega
theorem pow_le_exp {x y k : Nat} (hx : 0 < x) : x ^ (y / 2 ^ k) ≤ x ^ y := Nat.pow_le_pow_right hx (Nat.div_le_self _ _)
theorem len_mono {a b : Nat} (h : a ≤ b) : (digs B a).length ≤ (digs B b).length := digs_len_le hB (Nat.lt_of_le_of_lt h (digs_lt hB b))
theorem setBelow {w w1 w2 : World} {p x : Nat} {e : Ending} (hb : Below w.heap.size w w1) (hp : w.heap.size ≤ p) (h : SetPost w1 p x e w2) : Below w.heap.size w w2 := only_new hb hp h.2.2
/-- At the loop's head. -/
structure ExpI (w wr : World) (r b x : Nat) (Ae : Option Addr) (ne y k : Nat) : Prop where
  ri : IntAt wr r (x ^ (y / 2 ^ k))
  bi : IntAt wr b x
  ei : NumAt wr Ae ne y
  rn : w.heap.size ≤ r
  bn : w.heap.size ≤ b
  ne_ : b ≠ r
  bel : Below w.heap.size w wr
set_option maxHeartbeats 8000000 in
set_option maxRecDepth 100000 in
theorem exp_w (z p q x y : Nat) (w : World) (hz : IAny w z) (hx : IntAt w p x) (hy : IntAt w q y) (hx0 : 0 < x) (hm : (digs B (x ^ y)).length < 1000000) (hxm : (digs B x).length < 1000000) (hym : (digs B y).length < 1000000) :
    Calls Tryz.prog 111 #[.pointer (some ⟨z, 0, none⟩), .pointer (some ⟨p, 0, none⟩), .pointer (some ⟨q, 0, none⟩), .pointer none] w (SetPost w z (x ^ y)) := by
  obtain ⟨A, n, c, q0, q1, hN, hql⟩ := hy.open_
  have hnl := hN.1
  have hb0 := Blk.new w 127 #[.bool false, .slice none 0 0]
  have HSB := Lib.hid (iset_w w.heap.size p x _ ⟨_, _, _, _, hb0⟩ (hx.below ((Below.refl _ w).alloc (Nat.le_refl _) _)) (by omega))
  have HZ := Lib.hid hz
  have HN := Lib.hid hN
  have HNL := Lib.hid hnl
  clear hx hN hz hb0 hnl hy
  go_enter Tryz.func111, Tryz.ntmps111
  go_wp2_with fail
  refine HSB.out.mono ?_
  rintro e w1 ⟨rfl, h1, o1⟩
  have b1 : Below w.heap.size w w1 := only_new ((Below.refl _ w).alloc (Nat.le_refl _) _) (Nat.le_refl _) o1
  have H1 := Lib.hid h1
  have B1 := Lib.hid b1
  have d0 := (b1.cell (p := ⟨q, 0, none⟩) hql).trans q0
  have HI1 := Lib.hid (newint_w 1 w1 (by omega))
  clear h1 o1 b1
  go_wp2_with fail
  refine HI1.out.mono ?_
  rintro e w2 ⟨r, rfl, hrn, h2, b2⟩
  have e1 := (b2.cell (p := ⟨q, 1, none⟩) (Nat.lt_of_lt_of_le hql B1.out.size)).trans ((B1.out.cell (p := ⟨q, 1, none⟩) hql).trans q1)
  have H2 := Lib.hid h2
  have B2 := Lib.hid b2
  have HT := Lib.hid (twin_w A n c y w2 ((HN.out.below B1.out).below b2) (by rw [HNL.out]; omega))
  clear h2 b2
  go_wp2_with fail
  refine HT.out.mono ?_
  rintro e w3 ⟨Ae, ne, ce, rfl, h3, b3⟩
  have HL := Lib.hid (length_w Ae ne ce y w3 h3 (by rw [h3.1]; omega))
  have H3 := Lib.hid h3
  have B3 := Lib.hid b3
  clear h3 b3
  go_wp2_with fail
  refine HL.out.mono ?_
  rintro e w4 ⟨rfl, rfl⟩
  have hbl : Rung.blen y < 40000000 := by
    by_cases h0 : y = 0
    · rw [h0]; decide
    · have := (blen_words (y := y) rfl (digs_pos_len hB h0)).2
      omega
  have hrn0 : w.heap.size ≤ r := Nat.le_trans B1.out.size hrn
  have hI0 : ExpI w w4 r w.heap.size x Ae ne y (Rung.blen y) := by
    have hy2 : y / 2 ^ Rung.blen y = 0 := Nat.div_eq_of_lt (Rung.blen_lt y)
    refine ⟨by rw [hy2, Nat.pow_zero]; exact H2.out.below B3.out, (H1.out.below B2.out).below B3.out, H3.out, hrn0, Nat.le_refl _, ?_, bthen (bthen B1.out B2.out) B3.out⟩
    have := H1.out.lt
    omega
  have HI0 := Lib.hid hI0
  clear hI0
  go_wp2_with fail
  go_loopw [14] (fun i wr => ∃ k : Nat, k ≤ Rung.blen y ∧ i = .int .i64 ((k : Int) - 1) ∧ ExpI w wr r w.heap.size x Ae ne y k) (fun i _ => (intOf i + 1).toNat)
  case atStart => exact ⟨Rung.blen y, Nat.le_refl _, rfl, HI0.out⟩
  case round =>
    obtain ⟨k, hk, rfl, hI⟩ := hrel
    by_cases hk0 : k = 0
    · subst hk0
      have t1 : decide ((0 : Int) ≤ ((0 : Nat) : Int) - 1) = false := by decide
      have hfin := hI.ri
      rw [Nat.pow_zero, Nat.div_one] at hfin
      have HS := Lib.hid (iset_w z r (x ^ y) wr (HZ.out.below ⟨hI.bel.os, hI.bel.tape, hI.bel.output, hI.bel.size, hI.bel.block⟩) hfin (by omega))
      have HB := Lib.hid hI.bel
      clear hI hfin
      go_wp2_with fail
      refine HS.out.mono ?_
      rintro e w5 ⟨rfl, h5, o5⟩
      have H5 := Lib.hid h5
      have O5 := Lib.hid o5
      clear h5 o5
      go_wp2_with fail
      go_ret
      exact ⟨rfl, H5.out, (Only.of_below HB.out).trans O5.out⟩
    · obtain ⟨j, rfl⟩ : ∃ j, k = j + 1 := ⟨k - 1, by omega⟩
      have ej : ((j + 1 : Nat) : Int) - 1 = (j : Int) := by omega
      rw [ej]
      clear ej
      have t1 : decide ((0 : Int) ≤ (j : Int)) = true := by simp
      have hle := pow_le_exp (x := x) (y := y) (k := j + 1) hx0
      have hsq : x ^ (y / 2 ^ (j + 1)) * x ^ (y / 2 ^ (j + 1)) ≤ x ^ y := by
        rw [← Nat.pow_add]
        refine Nat.pow_le_pow_right hx0 ?_
        have : y / 2 ^ (j + 1) ≤ y / 2 := Nat.div_le_div_left (by rw [Nat.pow_succ]; have := Nat.pow_pos (n := j) (show 0 < 2 by decide); omega) (by decide)
        omega
      have HH := Lib.hid (exp_half x y j)
      have HM1 := Lib.hid (imul_w r r r _ _ wr hI.ri.any hI.ri hI.ri (by have := len_mono hle; omega) (by have := len_mono hle; omega))
      have HII := Lib.hid hI
      have HSQ := Lib.hid hsq
      clear hI hle hsq
      go_wp2_with fail
      refine HM1.out.mono ?_
      rintro e w5 ⟨rfl, h5, o5⟩
      have hbi := int_other HII.out.bi HII.out.ri.any HII.out.ne_ o5
      have hei := num_other HII.out.ri.any HII.out.ei o5
      have hb5 := HII.out.bel.trans (o5.below HII.out.rn HII.out.bel.size)
      have HBT := Lib.hid (bit_w Ae ne ce y j w5 hei (by have := H3.out.1; omega) (by omega))
      have H5 := Lib.hid h5
      have HBI := Lib.hid hbi
      have HEI := Lib.hid hei
      have HB5 := Lib.hid hb5
      clear h5 o5 hbi hei hb5
      go_wp2_with fail
      refine HBT.out.mono ?_
      rintro e w6 ⟨rfl, rfl⟩
      rcases (show y / 2 ^ j % 2 = 0 ∨ y / 2 ^ j % 2 = 1 by omega) with hbit | hbit
      · rw [hbit] at HH ⊢
        go_wp2_with fail
        go_roundw
        case rel =>
          refine ⟨j, by omega, rfl, ?_, HBI.out, HEI.out, HII.out.rn, HII.out.bn, HII.out.ne_, HB5.out⟩
          have := HH.out
          rw [Nat.pow_zero, Nat.mul_one] at this
          rw [this]; exact H5.out
        case measure => simp [intOf]
      · rw [hbit] at HH ⊢
        have HM2 := Lib.hid (imul_w r r w.heap.size _ _ w6 H5.out.any H5.out HBI.out (by have := len_mono HSQ.out; omega) (by omega))
        go_wp2_with fail
        refine HM2.out.mono ?_
        rintro e w7 ⟨rfl, h7, o7⟩
        have hbi := int_other HBI.out H5.out.any HII.out.ne_ o7
        have hei := num_other H5.out.any HEI.out o7
        have hb7 := HB5.out.trans (o7.below HII.out.rn HB5.out.size)
        have H7 := Lib.hid h7
        have HBI7 := Lib.hid hbi
        have HEI7 := Lib.hid hei
        have HB7 := Lib.hid hb7
        clear h7 o7 hbi hei hb7
        go_wp2_with fail
        go_roundw
        case rel =>
          refine ⟨j, by omega, rfl, ?_, HBI7.out, HEI7.out, HII.out.rn, HII.out.bn, HII.out.ne_, HB7.out⟩
          have := HH.out
          rw [Nat.pow_one] at this
          rw [this]; exact H7.out
        case measure => simp [intOf]
end Go.Proofs.YtabmalnandbocaaGreatDoor.Num
namespace Go.Proofs.YtabmalnandbocaaGreatDoor.Num
set_option exponentiation.threshold 3000
set_option linter.unusedVariables false
set_option linter.unusedSimpArgs false
open Go.RowKit Go.Proofs.YtabmalnandbocaaGreatDoor.Mem Go.Proofs.YtabmalnandbocaaGreatDoor.Own Go.Proofs.YtabmalnandbocaaGreatDoor.Big

/-- Bytes that are digits. -/
def isDigs (l : List UInt8) : Prop := ∀ c ∈ l, 48 ≤ c.toNat ∧ c.toNat ≤ 57
/-- The number that digits say. -/
def dval (l : List UInt8) : Nat := l.foldl (fun a c => a * 10 + (c.toNat - 48)) 0
theorem dval_snoc (l : List UInt8) (c : UInt8) : dval (l ++ [c]) = dval l * 10 + (c.toNat - 48) := by simp [dval]
theorem dval_go {l : List UInt8} (h : isDigs l) : ∀ a : Nat, l.foldl (fun a c => a * 10 + (c.toNat - 48)) a < (a + 1) * 10 ^ l.length := by
  induction l with
  | nil => intro a; simp
  | cons c l ih =>
    intro a
    have h1 := h c (by simp)
    have h2 := ih (fun d hd => h d (by simp [hd])) (a * 10 + (c.toNat - 48))
    simp only [List.foldl_cons, List.length_cons, Nat.pow_succ]
    refine Nat.lt_of_lt_of_le h2 ?_
    rw [Nat.mul_comm (10 ^ l.length) 10, ← Nat.mul_assoc]
    exact Nat.mul_le_mul_right _ (by omega)
theorem dval_lt {l : List UInt8} (h : isDigs l) : dval l < 10 ^ l.length := by simpa [dval] using dval_go h 0
theorem byte_mem (s : ByteArray) (k : Nat) (h : k < s.size) : s[k] ∈ s.data.toList := List.getElem_mem (l := s.data.toList) (n := k) (by simpa using h)
theorem isDigs.take {l : List UInt8} (h : isDigs l) (k : Nat) : isDigs (l.take k) := fun c hc => h c (List.mem_of_mem_take hc)
theorem take_snoc_b (s : ByteArray) (k : Nat) (h : k < s.size) : s.data.toList.take (k + 1) = s.data.toList.take k ++ [s[k]] := by
  rw [List.take_succ_eq_append_getElem (by simpa using h)]; rfl
theorem dval_len {l : List UInt8} (h : isDigs l) : (digs B (dval l)).length ≤ l.length :=
  digs_len_le hB (Nat.lt_of_lt_of_le (dval_lt h) (Nat.pow_le_pow_left (by rw [B_eq]; decide) _))
def SetSPost (w : World) (p x : Nat) (e : Ending) (w' : World) : Prop := e = .returned (.tuple #[.pointer (some ⟨p, 0, none⟩), .bool true]) ∧ IntAt w' p x ∧ Only p w w'
theorem byte_eq {a b : Nat} (h : a ≠ b) : ((a : Int) == (b : Int)) = false := by rw [beq_eq_false_iff_ne]; omega
set_option maxHeartbeats 8000000 in
set_option maxRecDepth 100000 in
theorem setstr_w (p : Nat) (s : ByteArray) (w : World) (hz : IAny w p) (hs : isDigs s.data.toList) (h0 : 0 < s.size) (hm : s.size < 100000) :
    Calls Tryz.prog 89 #[.pointer (some ⟨p, 0, none⟩), .string s, .int .i64 10] w (SetSPost w p (dval s.data.toList)) := by
  have HZ := Lib.hid hz
  have hd0 := hs s[0] (byte_mem s 0 h0)
  have HS := Lib.hid (fun k (h : k < s.size) => hs s[k] (byte_mem s k h))
  have HSD := Lib.hid hs
  have t0 : ((s[0].toNat : Int) == 45) = false := byte_eq (b := 45) (by omega)
  have t1 : ((s[0].toNat : Int) == 43) = false := byte_eq (b := 43) (by omega)
  have t2 : decide ((0 : Int) < (s.size : Int)) = true := by simp; omega
  have t3 : ((s.size : Int) == 0) = false := byte_eq (b := 0) (by omega)
  clear hz hs hd0
  go_enter Tryz.func89, Tryz.ntmps89
  go_wp2_with fail
  go_loopw [9, 10] (fun r i wr => ∃ (k : Nat) (A : Option Addr) (n c : Nat), k ≤ s.size ∧ r = .slice A n c ∧ i = .int .i64 (k : Nat) ∧ NumAt wr A n (dval (s.data.toList.take k)) ∧ Below w.heap.size w wr) (fun _ i _ => s.size - (intOf i).toNat)
  case atStart => exact ⟨0, none, 0, 0, Nat.zero_le _, rfl, rfl, NumAt.nil _ _, Below.refl _ _⟩
  case round =>
    obtain ⟨k, A, n, c, hk, rfl, rfl, hN, hbel⟩ := hrel
    have hlen := dval_len (HSD.out.take k)
    rw [List.length_take] at hlen
    have hn : n < 200000 := by rw [hN.1]; omega
    clear hlen
    by_cases hkn : k < s.size
    · obtain ⟨c0, c1⟩ := HS.out k hkn
      have hts := dval_snoc (s.data.toList.take k) s[k]
      rw [← take_snoc_b s k hkn] at hts
      have HTS := Lib.hid hts
      have u1 : decide ((k : Int) < (s.size : Int)) = true := by simp; omega
      have u2 : decide ((48 : Int) ≤ (s[k].toNat : Int)) = true := decide_eq_true (by omega)
      have u3 : decide ((s[k].toNat : Int) ≤ 57) = true := decide_eq_true (by omega)
      have u4 : decide ((10 : Int) ≤ (s[k].toNat : Int) - 48) = false := decide_eq_false (by omega)
      have HN := Lib.hid hN
      have HB := Lib.hid hbel
      have HW10 := Lib.hid (words_w 10 wr (by omega))
      clear hts hN hbel
      go_wp2_with fail
      refine HW10.out.mono ?_
      rintro e w1 ⟨A1, n1, c1', rfl, h1, b1⟩
      have hn1 : n1 ≤ 1 := by rw [h1.1]; exact digs_len_le hB (by rw [B_eq]; decide)
      have HM := Lib.hid (mul_w A n c _ A1 n1 c1' 10 w1 (HN.out.below b1) h1 (by omega) (by omega))
      have B1 := Lib.hid b1
      clear h1 b1
      go_wp2_with fail
      refine HM.out.mono ?_
      rintro e w2 ⟨A2, n2, c2, rfl, h2, b2⟩
      have hn2 : n2 ≤ n + 1 := by
        rw [h2.1]
        refine digs_len_le hB ?_
        have := digs_lt hB (dval (s.data.toList.take k))
        rw [← HN.out.1] at this
        rw [Nat.pow_succ]
        exact Nat.lt_of_lt_of_le (Nat.mul_lt_mul_of_pos_right this (by decide)) (Nat.mul_le_mul_left _ (by rw [B_eq]; decide))
      have H2 := Lib.hid h2
      have B2 := Lib.hid b2
      clear h2 b2
      go_wp2_with fail
      refine (words_any w2 _ ⟨by omega, by omega⟩).mono ?_
      rintro e w3 ⟨A3, n3, c3, rfl, h3, b3⟩
      rw [show ((s[k].toNat : Int) - 48).toNat = s[k].toNat - 48 by omega] at h3
      have hn3 : n3 ≤ 1 := by rw [h3.1]; exact digs_len_le hB (by rw [B_eq]; omega)
      have HA := Lib.hid (add_w A2 n2 c2 _ A3 n3 c3 _ w3 (H2.out.below b3) h3 (by omega) (by omega))
      have B3 := Lib.hid b3
      clear h3 b3
      go_wp2_with fail
      refine HA.out.mono ?_
      rintro e w4 ⟨A4, n4, c4, rfl, h4, b4⟩
      have H4 := Lib.hid h4
      have B4 := Lib.hid b4
      clear h4 b4
      go_wp2_with fail
      go_roundw
      case rel => exact ⟨k + 1, A4, n4, c4, by omega, rfl, by go_num, by rw [HTS.out]; exact H4.out, bthen (bthen (bthen (bthen HB.out B1.out) B2.out) B3.out) B4.out⟩
      case measure => simp [intOf]; omega
    · obtain rfl : k = s.size := by omega
      have u1 : decide ((s.size : Int) < (s.size : Int)) = false := by simp
      have e : s.data.toList.take s.size = s.data.toList := List.take_of_length_le (by simp)
      rw [e] at hN
      clear e
      have HG := Lib.hid (give_any p A n c _ wr (HZ.out.below ⟨hbel.os, hbel.tape, hbel.output, hbel.size, hbel.block⟩) hN)
      have HB := Lib.hid hbel
      clear hN hbel
      go_wp2_with fail
      refine HG.out.mono ?_
      rintro e w5 ⟨rfl, h5, o5⟩
      have H5 := Lib.hid h5
      have O5 := Lib.hid o5
      clear h5 o5
      go_wp2_with fail
      go_ret2
      exact ⟨rfl, H5.out, (Only.of_below HB.out).trans O5.out⟩
end Go.Proofs.YtabmalnandbocaaGreatDoor.Num
namespace Go.Proofs.YtabmalnandbocaaGreatDoor.Num
set_option exponentiation.threshold 3000
set_option linter.unusedVariables false
set_option linter.unusedSimpArgs false
open Go.RowKit Go.Proofs.YtabmalnandbocaaGreatDoor.Mem Go.Proofs.YtabmalnandbocaaGreatDoor.Own Go.Proofs.YtabmalnandbocaaGreatDoor.Big

/-- A list whose first and last k are turned round. -/
structure RevI (l : List Nat) (k : Nat) (m : List Nat) : Prop where
  len : m.length = l.length
  at_ : ∀ i, i < l.length → m.getD i 0 = if i < k ∨ l.length - k ≤ i then l.getD (l.length - 1 - i) 0 else l.getD i 0
theorem RevI.start (l : List Nat) : RevI l 0 l := ⟨rfl, fun i hi => by rw [if_neg (by omega)]⟩
theorem RevI.step {l m : List Nat} {k : Nat} (h : RevI l k m) (hk : k < l.length - 1 - k) : RevI l (k + 1) ((m.set k (m.getD (l.length - 1 - k) 0)).set (l.length - 1 - k) (m.getD k 0)) := by
  have h1 := h.at_ k (by omega)
  have h2 := h.at_ (l.length - 1 - k) (by omega)
  rw [if_neg (by omega)] at h1 h2
  refine ⟨by rw [List.length_set, List.length_set]; exact h.len, fun i hi => ?_⟩
  rw [getD_set, List.length_set, h.len, getD_set, h.len, h1, h2]
  by_cases e1 : l.length - 1 - k = i
  · rw [if_pos ⟨e1, by omega⟩, if_pos (by omega)]
    congr 1
    omega
  · rw [if_neg (by omega)]
    by_cases e2 : k = i
    · rw [if_pos ⟨e2, by omega⟩, if_pos (by omega), e2]
    · rw [if_neg (by omega), h.at_ i hi]
      by_cases e3 : i < k ∨ l.length - k ≤ i
      · rw [if_pos e3, if_pos (by omega)]
      · rw [if_neg e3, if_neg (by omega)]
theorem RevI.end_ {l m : List Nat} {k : Nat} (h : RevI l k m) (hk : l.length ≤ 2 * k + 1) : m = l.reverse := by
  refine ext_getD (by rw [List.length_reverse]; exact h.len) (fun i hi => ?_)
  rw [h.len] at hi
  rw [h.at_ i hi, List.getD_eq_getElem?_getD (l := l.reverse), List.getElem?_reverse hi, ← List.getD_eq_getElem?_getD]
  by_cases e : i < k ∨ l.length - k ≤ i
  · rw [if_pos e]
  · rw [if_neg e]
    congr 1
    omega
/-- A number's digits as bytes. -/
def decN (x : Nat) : List Nat := (digs 10 x).map (48 + ·)
theorem decN_small (x : Nat) : ∀ d ∈ decN x, d < 256 := by
  intro d hd
  obtain ⟨c, hc, rfl⟩ := List.mem_map.1 hd
  have := digs_dig (b := 10) (by decide) x c hc
  omega
theorem decN_pos {x : Nat} (h : x ≠ 0) : decN x = (48 + x % 10) :: decN (x / 10) := by unfold decN; rw [digs_pos (by decide) h]; rfl
/-- A number's text. -/
def decL (x : Nat) : List UInt8 := if x = 0 then [48] else (decN x).reverse.map UInt8.ofNat
def TextPost (w : World) (x : Nat) (e : Ending) (w' : World) : Prop := e = .returned (.string ⟨(decL x).toArray⟩) ∧ Below w.heap.size w w'
theorem u8_info : (Tryz.prog.info? 5).map (fun i => (i.zero, i.size, i.bytes)) = some (some (.int .u8 0), 1, 1) := by kernel_rfl
theorem below_row {w w1 w2 : World} {k : IntKind} {e : TypeId} {v : Value} {l : List Nat} (hb : Below w.heap.size w w1) (h : NRow k e w1 w.heap.size v l) (hg : w1.grownBy w2 v.ownBlock) : Below w.heap.size w w2 :=
  hb.grown hg hb.size (fun k hk => (h.low k hk).1)
theorem one_at (w : World) (x : Nat) : LAt (w.alloc (.cells #[.int .u8 (x : Nat)] 5)) .u8 (some ⟨w.heap.size, 0, none⟩) [x] := LAt.of_blk (t := 5) (Blk.new w _ _)
theorem NRow.set' {k : IntKind} {e : TypeId} {w : World} {base g cap n : Nat} {l : List Nat} (h : NRow k e w base (.slice (some ⟨g, 0, none⟩) n cap) l) (i x : Nat) :
    NRow k e (w.setCell ⟨g, i, none⟩ (.int k (x : Nat))) base (.slice (some ⟨g, 0, none⟩) n cap) (l.set i x) := by
  have hn : n = l.length := by
    obtain ⟨A, c, hv, -, -⟩ := h.form
    injection hv
  subst hn
  exact h.set i x
theorem num_row {w w' : World} {A : Option Addr} {n x b : Nat} {v : Value} (h : NumAt w A n x) (hA : A = some ⟨b, 0, none⟩) (hg : w.grownBy w' v.ownBlock) (hv : ∀ g, v.ownBlock = some g → g < b) : NumAt w' A n x := by
  refine ⟨h.1, ?_⟩
  rcases h.2 with h2 | ⟨g, off, hA2, hlt, hc⟩
  · exact .inl h2
  · rw [hA] at hA2
    injection hA2 with hA2
    injection hA2 with h1 h2 h3
    subst h1 h2
    refine .inr ⟨b, 0, hA, Nat.lt_of_lt_of_le hlt hg.size, fun j hj => ?_⟩
    rw [World.cell?_of_block (hg.block b hlt (fun e => by have := hv b e.symm; omega))]
    exact hc j hj
theorem rev_string {wl : World} {base g cap ln x : Nat} {m : List Nat} (hx : x ≠ 0) (hln : ln = (decN x).length) (hrow : NRow .u8 5 wl base (.slice (some ⟨g, 0, none⟩) ln cap) m) (hml : m.length = ln) (hme : m = (decN x).reverse) :
    (convert 60 9 (.slice (some ⟨g, 0, none⟩) ln cap)).run Tryz.prog wl = .ok (.string ⟨(decL x).toArray⟩) wl := by
  have hlen : (decL x).length = ln := by
    unfold decL
    rw [if_neg hx, List.length_map, List.length_reverse, hln]
  have := run_convert_bytes_back (P := Tryz.prog) wl 60 9 5 ⟨g, 0, none⟩ cap (decL x) Tryz.underlying60 Tryz.underlying5 Tryz.underlying9 (fun j hj => by
    rw [show (⟨g, 0, none⟩ : Addr).add j = ⟨g, j, none⟩ by unfold Addr.add; split <;> simp_all]
    have h1 := hrow.cell j (by omega)
    rw [h1]
    have h2 : m.getD j 0 = ((decL x)[j]).toNat := by
      have hj2 : j < m.length := by omega
      rw [List.getD_eq_getElem?_getD, List.getElem?_eq_getElem hj2, Option.getD_some]
      have h4 : ∀ d ∈ m, d < 256 := by
        rw [hme]
        intro d hd
        exact decN_small x d (List.mem_reverse.1 hd)
      have h3 : m[j] < 256 := h4 _ (List.getElem_mem _)
      have h5 : (decL x)[j] = UInt8.ofNat m[j] := by
        subst hme
        simp [decL, hx]
      rw [h5]
      simp
      omega
    rw [h2])
  rw [hlen] at this
  exact this
set_option maxHeartbeats 8000000 in
set_option maxRecDepth 100000 in
theorem text_w (p x : Nat) (w : World) (hx : IntAt w p x) (hm : (digs B x).length < 100000) (hm2 : (digs 10 x).length < 1000000) :
    Calls Tryz.prog 112 #[.pointer (some ⟨p, 0, none⟩), .int .i64 10] w (TextPost w x) := by
  obtain ⟨A, n, c, p0, p1, hN, hpl⟩ := hx.open_
  have hnl := hN.1
  by_cases h0 : n = 0
  · have hx0 := hN.len_zero.1 h0
    have HX := Lib.hid hx0
    subst h0
    clear hx hN hx0 hnl
    go_enter Tryz.func112, Tryz.ntmps112
    go_wp2_with fail
    go_ret
    exact ⟨by rw [HX.out]; rfl, Below.refl _ _⟩
  · have hx0 : x ≠ 0 := fun h => h0 (hN.len_zero.2 h)
    obtain ⟨i8, hi8, hz8, hs8, hb8⟩ := info_of u8_info
    have HX := Lib.hid hx0
    have HT := Lib.hid (twin_w A n c x w hN (by rw [hnl]; omega))
    have t0 : ((n : Int) == 0) = false := byte_eq (b := 0) (by omega)
    have hn : n < 100000 := by rw [hnl]; exact hm
    clear hx hN hx0 hnl
    go_enter Tryz.func112, Tryz.ntmps112
    go_wp2_with fail
    refine HT.out.mono ?_
    rintro e w1 ⟨A1, n1, c1, rfl, h1, b1⟩
    have H1 := Lib.hid h1
    have B1 := Lib.hid b1
    clear h1 b1
    go_wp2_with fail
    go_loopg [5, 6] x (fun y b a wr => ∃ (l : List Nat) (A : Option Addr) (n c : Nat), y ≤ x ∧ a = .slice A n c ∧ NumAt wr A n y ∧ NRow .u8 5 wr w.heap.size b l ∧ l ++ decN y = decN x ∧ Below w.heap.size w wr)
    case atStart => exact ⟨[], A1, n1, c1, Nat.le_refl _, rfl, H1.out, NRow.nil _ _ _ _, rfl, B1.out⟩
    case round =>
      obtain ⟨l, A2, n2, c2, hyx, rfl, h2, hrow, hl, hbel⟩ := hrel
      have hnn : n2 ≤ n1 := by rw [h2.1, H1.out.1]; exact len_mono hyx
      have hn1 : n1 < 100000 := by rw [H1.out.1]; exact hm
      have hlen : l.length + (decN gk).length = (digs 10 x).length := by
        have := congrArg List.length hl
        rw [List.length_append] at this
        rw [this]; simp [decN]
      by_cases hg0 : gk = 0
      · have hn0 := h2.len_zero.2 hg0
        subst hg0
        obtain rfl : l = decN x := by rw [← hl]; simp [decN, digs_zero]
        have hl0 : 0 < (decN x).length := by
          have := digs_pos_len (b := 10) (by decide) HX.out
          simpa [decN] using this
        obtain ⟨g, cap, hu5, hgb, hgl⟩ := hrow.slice hl0
        subst hu5
        obtain ⟨ln, hln⟩ : ∃ ln, ln = (decN x).length := ⟨_, rfl⟩
        have hROW := Lib.hid hrow
        have HB := Lib.hid hbel
        have pc := (hbel.cell (p := ⟨p, 0, none⟩) hpl).trans p0
        have HSM := Lib.hid (decN_small x)
        have hlnm : ln < 1000000 := by rw [hln]; omega
        have HLN := Lib.hid hln
        rw [← hln] at hl0 ⊢
        subst hn0
        clear h2 hrow hbel hl hlen hnn
        go_wp2_with fail
        rw [HLN.out.symm]
        go_loopw [8, 9] (fun i j wl => ∃ (k : Nat) (m : List Nat), k ≤ ln ∧ i = .int .i64 (k : Nat) ∧ j = .int .i64 ((ln : Int) - 1 - (k : Int)) ∧ NRow .u8 5 wl w.heap.size (.slice (some ⟨g, 0, none⟩) ln cap) m ∧ Hid (RevI (decN x) k m) ∧ Below w.heap.size w wl) (fun i _ _ => ln - (intOf i).toNat)
        case atStart => exact ⟨0, decN x, Nat.zero_le _, rfl, by go_num, (by have h := hROW.out; rw [← HLN.out] at h; exact h), Lib.hid (RevI.start _), HB.out⟩
        case round =>
          obtain ⟨k, m, hk, rfl, rfl, hrow, hR, hbel⟩ := hrel
          have hml : m.length = ln := by rw [hR.out.len, ← HLN.out]
          by_cases hkj : 2 * k + 1 < ln
          · obtain ⟨jn, hjn⟩ : ∃ jn, jn = ln - 1 - k := ⟨_, rfl⟩
            have ejn : (ln : Int) - 1 - (k : Int) = (jn : Int) := by omega
            rw [ejn]
            have c1 := hrow.cell k (by omega)
            have c2 := hrow.cell jn (by omega)
            have f1 := hrow.froz k
            have f2 := hrow.froz jn
            have hst := hR.out.step (by rw [← HLN.out]; omega)
            rw [← HLN.out, ← hjn] at hst
            have HST := Lib.hid hst
            rw [← hml] at hrow
            have HSR := Lib.hid (fun a b => (hrow.set k a).set' jn b)
            rw [hml] at HSR
            have HBL := Lib.hid hbel
            have t1 : decide ((k : Int) < (jn : Int)) = true := by simp; omega
            have HEJ := Lib.hid (show (jn : Int) - 1 = (ln : Int) - 1 - ((k + 1 : Nat) : Int) by omega)
            have hjl : jn < ln := by omega
            have hkl : k < ln := by omega
            have hnkj : k ≠ jn := by omega
            have hkj2 : k < jn := by omega
            generalize m.getD k 0 = a at *
            generalize m.getD jn 0 = b at *
            clear hst hrow hbel ejn hjn hln
            go_wp2_with fail
            go_roundw
            case rel => exact ⟨k + 1, _, by omega, by go_num, vint HEJ.out, HSR.out b a, HST, (HBL.out.setCell (p := ⟨g, k, none⟩) hgb _).setCell (p := ⟨g, jn, none⟩) hgb _⟩
            case measure => simp [intOf]; omega
          · have ek : decide ((k : Int) < (ln : Int) - 1 - (k : Int)) = false := by simp; omega
            have hme := hR.out.end_ (by rw [← HLN.out]; omega)
            have hconv := rev_string HX.out HLN.out hrow hml hme
            have HBL := Lib.hid hbel
            clear hrow hR hbel hme
            go_wp2_with fail
            first
              | rw [hconv]
              | rw [← HLN.out, hconv]
            simp only [Result.andThen]
            rw [Oper.upon_value]
            go_wp2_with fail
            go_ret
            exact ⟨rfl, HBL.out⟩
      · have hn0 : n2 ≠ 0 := fun h => hg0 (h2.len_zero.1 h)
        have tn : decide ((0 : Int) < (n2 : Int)) = true := by simp; omega
        have HS := Lib.hid (small_w A2 n2 c2 gk 10 wr h2 (by omega) (by decide) (by decide))
        have HROW := Lib.hid hrow
        have HL := Lib.hid hl
        have HB := Lib.hid hbel
        have hlm : l.length < 1000000 := by omega
        clear h2 hrow hl hbel hlen
        go_wp2_with fail
        refine HS.out.mono ?_
        rintro e w2 ⟨A3, n3, c3, rfl, h3, b3, hA3⟩
        have HA3 := Lib.hid hA3
        have H3 := Lib.hid h3
        have B3 := Lib.hid b3
        have HROW3 := HROW.out.below b3
        have hb2 := bthen HB.out b3
        have hz2 := hb2.size
        clear h3 b3 hA3
        have hd : gk % 10 < 10 := Nat.mod_lt _ (by decide)
        have HD := Lib.hid (decN_pos hg0)
        obtain ⟨d, hdd⟩ : ∃ d, d = gk % 10 := ⟨_, rfl⟩
        rw [← hdd] at hd HD ⊢
        clear hdd
        have hone := one_at w2 (48 + d)
        have ed : ((48 + d : Nat) : Int) = 48 + (d : Int) := by omega
        rw [ed] at hone
        have HONE := Lib.hid hone
        have ROWA := Lib.hid (HROW3.below ((Below.refl _ w2).alloc (Nat.le_refl _) (.cells #[.int .u8 (48 + (d : Int))] 5)))
        clear hone ed HROW3
        have hb3 := hb2.alloc hz2 (.cells #[.int .u8 (48 + (d : Int))] 5)
        go_wp2_with (at_builtin; refine wpList_append_num _ rfl _ _ 60 rfl .u8 w.heap.size 5 (.int .u8 0) 1 i8 Tryz.underlying60 hi8 hz8 hs8 hb8 rfl _ l rfl ROWA.out (some ⟨w2.heap.size, 0, none⟩) 1 1 [48 + d] rfl rfl HONE.out ?c3 ?c4 ?c5 ?_)
        case c3 => unfold maxLen; simp; omega
        case c4 => simp; omega
        case c5 => simp; omega
        intro v' w' hown hg
        have hbw := below_row hb3 ROWA.out hg
        have hN3 := (H3.out.below ((Below.refl _ w2).alloc (Nat.le_refl _) (.cells #[.int .u8 (48 + (d : Int))] 5)))
        have hN4 := num_row hN3 HA3.out hg (fun g hgo => (HROW.out.low g hgo).2)
        have HOWN := Lib.hid hown
        have HN4 := Lib.hid hN4
        have HBW := Lib.hid hbw
        clear hown hg hN3 hN4 hbw hb3
        go_wp2_with fail
        go_roundg (gk / 10)
        case measure => exact Nat.div_lt_self (by omega) (by decide)
        case rel => exact ⟨l ++ [48 + d], A3, n3, c3, Nat.le_trans (Nat.div_le_self _ _) hyx, rfl, HN4.out, HOWN.out, by rw [← HL.out, HD.out]; simp, HBW.out⟩
set_option maxHeartbeats 1000000 in
theorem string_w (p x : Nat) (w : World) (hx : IntAt w p x) (hm : (digs B x).length < 100000) (hm2 : (digs 10 x).length < 1000000) :
    Calls Tryz.prog 80 #[.pointer (some ⟨p, 0, none⟩)] w (TextPost w x) := by
  have HT := Lib.hid (text_w p x w hx hm hm2)
  clear hx
  go_enter Tryz.func80, Tryz.ntmps80
  go_wp2_with fail
  refine HT.out.mono ?_
  rintro e w1 ⟨rfl, b1⟩
  have B1 := Lib.hid b1
  clear b1
  go_wp2_with fail
  go_ret
  exact ⟨rfl, B1.out⟩
end Go.Proofs.YtabmalnandbocaaGreatDoor.Num
