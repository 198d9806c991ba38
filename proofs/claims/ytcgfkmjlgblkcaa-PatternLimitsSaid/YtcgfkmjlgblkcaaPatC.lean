/- The walks of cmp.Compare, cmp.Or and the comparison of All. -/
import Derived.Test.YtcgfkmjlgblkcaaPatE
import Derived.Deep.RegionHeld3
import Derived.Sort.Grow
namespace Go.Proofs.Ytcgfkmjlgblkcaa.Pat
set_option linter.unusedVariables false
set_option linter.unusedSimpArgs false
open Go.RowKit Go.Proofs.Ytcgfkmjlgblkcaa.Mem Go.Proofs.Ytcgfkmjlgblkcaa.Own

def cmpI (x y : Int) : Int := if x < y then -1 else if y < x then 1 else 0
theorem isNaN_w (x : Int) (w : World) : Calls Try.prog 44 #[.int .i64 x] w fun e w' => e = .returned (.bool false) ∧ w' = w := by
  have t : (x != x) = false := by simp
  go_enter Try.func44, Try.ntmps44
  go_wp2_with fail
  go_ret
  exact ⟨rfl, rfl⟩
set_option maxHeartbeats 1000000 in
theorem compare_w (x y : Int) (w : World) : Calls Try.prog 26 #[.int .i64 x, .int .i64 y] w fun e w' => e = .returned (.int .i64 (cmpI x y)) ∧ w' = w := by
  have HN := Lib.hid (fun z w => isNaN_w z w)
  by_cases h1 : x < y
  · have e : cmpI x y = -1 := by unfold cmpI; rw [if_pos h1]
    have E := Lib.hid e; clear e
    have t1 : decide (x < y) = true := decide_eq_true h1
    go_enter Try.func26, Try.ntmps26
    go_wp2_with fail
    refine (HN.out _ _).mono ?_; rintro e w1 ⟨rfl, rfl⟩
    go_wp2_with fail
    refine (HN.out _ _).mono ?_; rintro e w1 ⟨rfl, rfl⟩
    go_wp2_with fail
    go_ret
    rw [E.out]; exact ⟨rfl, rfl⟩
  · have t1 : decide (x < y) = false := decide_eq_false h1
    by_cases h2 : y < x
    · have e : cmpI x y = 1 := by unfold cmpI; rw [if_neg h1, if_pos h2]
      have E := Lib.hid e; clear e
      have t2 : decide (y < x) = true := decide_eq_true h2
      go_enter Try.func26, Try.ntmps26
      go_wp2_with fail
      refine (HN.out _ _).mono ?_; rintro e w1 ⟨rfl, rfl⟩
      go_wp2_with fail
      refine (HN.out _ _).mono ?_; rintro e w1 ⟨rfl, rfl⟩
      go_wp2_with fail
      go_ret
      rw [E.out]; exact ⟨rfl, rfl⟩
    · have e : cmpI x y = 0 := by unfold cmpI; rw [if_neg h1, if_neg h2]
      have E := Lib.hid e; clear e
      have t2 : decide (y < x) = false := decide_eq_false h2
      go_enter Try.func26, Try.ntmps26
      go_wp2_with fail
      refine (HN.out _ _).mono ?_; rintro e w1 ⟨rfl, rfl⟩
      go_wp2_with fail
      refine (HN.out _ _).mono ?_; rintro e w1 ⟨rfl, rfl⟩
      go_wp2_with fail
      go_ret
      rw [E.out]; exact ⟨rfl, rfl⟩
def orI (a b : Int) : Int := if a = 0 then b else a
set_option maxHeartbeats 1000000 in
theorem or_w (a b : Int) (g : Nat) (w : World) (h0 : w.cell? ⟨g, 0, none⟩ = some (.int .i64 a)) (h1 : w.cell? ⟨g, 1, none⟩ = some (.int .i64 b)) :
    Calls Try.prog 25 #[.slice (some ⟨g, 0, none⟩) 2 2] w fun e w' => e = .returned (.int .i64 (orI a b)) ∧ w' = w := by
  by_cases ha : a = 0
  · have e : orI a b = b := by unfold orI; rw [if_pos ha]
    have E := Lib.hid e; clear e
    subst ha
    by_cases hb : b = 0
    · subst hb
      go_enter Try.func25, Try.ntmps25
      go_wp2_with fail
      refine wp_loop_rounds 3 ?_
      rw [rounds_succ]
      go_wp2_with fail
      rw [rounds_succ]
      go_wp2_with fail
      rw [rounds_succ]
      go_wp2_with fail
      go_ret
      exact ⟨rfl, rfl⟩
    · have t : (b != 0) = true := by simpa using hb
      go_enter Try.func25, Try.ntmps25
      go_wp2_with fail
      refine wp_loop_rounds 3 ?_
      rw [rounds_succ]
      go_wp2_with fail
      rw [rounds_succ]
      go_wp2_with fail
      go_ret
      rw [E.out]; exact ⟨rfl, rfl⟩
  · have e : orI a b = a := by unfold orI; rw [if_neg ha]
    have E := Lib.hid e; clear e
    have t : (a != 0) = true := by simpa using ha
    go_enter Try.func25, Try.ntmps25
    go_wp2_with fail
    refine wp_loop_rounds 3 ?_
    rw [rounds_succ]
    go_wp2_with fail
    go_ret
    rw [E.out]; exact ⟨rfl, rfl⟩
theorem grow_one (w : World) (o : Obj) : (w.alloc o).drew = Sort.grow (w.drewN 1) #[o] := by
  unfold Sort.grow World.drewN World.drew World.alloc
  simp
/-- The order in which All tells. -/
def cfE (x y : Ent) : Int := orI (cmpI y.hits x.hits) (cmpI x.age y.age)
set_option maxHeartbeats 4000000 in
set_option maxRecDepth 100000 in
theorem less2_w (x y : Ent) (i j : Int) (w : World) (hx : EntAt w x i) (hy : EntAt w y j) :
    Calls Try.prog 24 #[.pointer (some ⟨x.b, 0, none⟩), .pointer (some ⟨y.b, 0, none⟩)] w fun e w' => e = .returned (.int .i64 (cfE x y)) ∧ ∃ (q : Nat) (os' : Array Obj), w' = Sort.grow (w.drewN q) os' := by
  have a3 : w.cell? ⟨x.b, 3, none⟩ = some (.int .i64 x.hits) := Blk.cell hx 3
  have a4 : w.cell? ⟨x.b, 4, none⟩ = some (.int .i64 x.age) := Blk.cell hx 4
  have b3 : w.cell? ⟨y.b, 3, none⟩ = some (.int .i64 y.hits) := Blk.cell hy 3
  have b4 : w.cell? ⟨y.b, 4, none⟩ = some (.int .i64 y.age) := Blk.cell hy 4
  have HC := Lib.hid (fun a b w => compare_w a b w)
  have hnb := Blk.new w 3 #[.int .i64 (cmpI y.hits x.hits), .int .i64 (cmpI x.age y.age)]
  have HO := Lib.hid (or_w (cmpI y.hits x.hits) (cmpI x.age y.age) w.heap.size (w.alloc (Obj.cells #[.int .i64 (cmpI y.hits x.hits), .int .i64 (cmpI x.age y.age)] 3)).drew (Blk.cell hnb 0) (Blk.cell hnb 1))
  clear hnb
  have hE : Hid (cfE x y = orI (cmpI y.hits x.hits) (cmpI x.age y.age)) := Lib.hid rfl
  go_enter Try.func24, Try.ntmps24
  go_wp2_with fail
  go_region_held3 (fun w' => w'.cell? ⟨x.b, 3, none⟩ = some (.int .i64 x.hits) ∧ w'.cell? ⟨x.b, 4, none⟩ = some (.int .i64 x.age) ∧ w'.cell? ⟨y.b, 3, none⟩ = some (.int .i64 y.hits) ∧ w'.cell? ⟨y.b, 4, none⟩ = some (.int .i64 y.age)) (first | exact ⟨a3, a4, b3, b4⟩ | go_keep)
    (first | (go_at_call 26; refine (HC.out _ _ _).mono ?_; rintro e w' ⟨rfl, rfl⟩) | (go_at_call 25; refine HO.out.mono ?_; rintro e w' ⟨rfl, rfl⟩))
  all_goals
    go_wp2_with fail
    go_ret
    rw [hE.out]
    exact ⟨rfl, 1, _, grow_one _ _⟩
end Go.Proofs.Ytcgfkmjlgblkcaa.Pat
