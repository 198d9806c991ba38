/- The walks of the reference's questions to eight bytes (printed by gen_ref.py beside it). -/
import Derived.Test.YtjebhdncfjijgaaLanesW
namespace Go.Proofs.Ytjebhdncfjijgaa.Lanes
set_option linter.unusedVariables false
set_option linter.unusedSimpArgs false
open Go.RowKit Go.Proofs.Ytjebhdncfjijgaa.Bytes

set_option maxHeartbeats 1000000 in
theorem requal_w (x c : Nat) (hx : x < 18446744073709551616) (hc : c < 256) (w : World) : Calls Try.prog 16 #[.int .u64 x, .int .u8 c] w fun e w' => e = .returned (.int .u8 (bvd (fun i => ((byteN x i : Int) == (c : Int))) 8)) ∧ Below w.heap.size w w' := by
  have B0 := byteN_lt x 0
  have B1 := byteN_lt x 1
  have B2 := byteN_lt x 2
  have B3 := byteN_lt x 3
  have B4 := byteN_lt x 4
  have B5 := byteN_lt x 5
  have B6 := byteN_lt x 6
  have B7 := byteN_lt x 7
  go_enter Try.func16, Try.ntmps16
  go_wp2_with fail
  refine wp_loop_rounds 9 ?_
  rw [rounds_succ]; go_wp2_with fail
  refine (byte_w x 0 hx (by omega) _).mono ?_
  rintro e w' ⟨rfl, rfl⟩
  go_wp2_with fail
  rw [rounds_succ]; go_wp2_with fail
  refine (byte_w x 1 hx (by omega) _).mono ?_
  rintro e w' ⟨rfl, rfl⟩
  go_wp2_with fail
  rw [rounds_succ]; go_wp2_with fail
  refine (byte_w x 2 hx (by omega) _).mono ?_
  rintro e w' ⟨rfl, rfl⟩
  go_wp2_with fail
  rw [rounds_succ]; go_wp2_with fail
  refine (byte_w x 3 hx (by omega) _).mono ?_
  rintro e w' ⟨rfl, rfl⟩
  go_wp2_with fail
  rw [rounds_succ]; go_wp2_with fail
  refine (byte_w x 4 hx (by omega) _).mono ?_
  rintro e w' ⟨rfl, rfl⟩
  go_wp2_with fail
  rw [rounds_succ]; go_wp2_with fail
  refine (byte_w x 5 hx (by omega) _).mono ?_
  rintro e w' ⟨rfl, rfl⟩
  go_wp2_with fail
  rw [rounds_succ]; go_wp2_with fail
  refine (byte_w x 6 hx (by omega) _).mono ?_
  rintro e w' ⟨rfl, rfl⟩
  go_wp2_with fail
  rw [rounds_succ]; go_wp2_with fail
  refine (byte_w x 7 hx (by omega) _).mono ?_
  rintro e w' ⟨rfl, rfl⟩
  go_wp2_with fail
  rw [rounds_succ]; go_wp2_with fail
  refine (bits_w (fun i => ((byteN x i : Int) == (c : Int))) _).mono ?_
  rintro e w' ⟨rfl, hb⟩
  go_wp2_with fail
  go_ret
  exact ⟨rfl, ((Below.refl _ _).alloc (Nat.le_refl _) _).trans (hb.mono (by simp))⟩

set_option maxHeartbeats 1000000 in
theorem rbelow_w (x c : Nat) (hx : x < 18446744073709551616) (hc : c < 256) (w : World) : Calls Try.prog 18 #[.int .u64 x, .int .u8 c] w fun e w' => e = .returned (.int .u8 (bvd (fun i => decide (byteN x i < c)) 8)) ∧ Below w.heap.size w w' := by
  have B0 := byteN_lt x 0
  have B1 := byteN_lt x 1
  have B2 := byteN_lt x 2
  have B3 := byteN_lt x 3
  have B4 := byteN_lt x 4
  have B5 := byteN_lt x 5
  have B6 := byteN_lt x 6
  have B7 := byteN_lt x 7
  go_enter Try.func18, Try.ntmps18
  go_wp2_with fail
  refine wp_loop_rounds 9 ?_
  rw [rounds_succ]; go_wp2_with fail
  refine (byte_w x 0 hx (by omega) _).mono ?_
  rintro e w' ⟨rfl, rfl⟩
  go_wp2_with fail
  rw [rounds_succ]; go_wp2_with fail
  refine (byte_w x 1 hx (by omega) _).mono ?_
  rintro e w' ⟨rfl, rfl⟩
  go_wp2_with fail
  rw [rounds_succ]; go_wp2_with fail
  refine (byte_w x 2 hx (by omega) _).mono ?_
  rintro e w' ⟨rfl, rfl⟩
  go_wp2_with fail
  rw [rounds_succ]; go_wp2_with fail
  refine (byte_w x 3 hx (by omega) _).mono ?_
  rintro e w' ⟨rfl, rfl⟩
  go_wp2_with fail
  rw [rounds_succ]; go_wp2_with fail
  refine (byte_w x 4 hx (by omega) _).mono ?_
  rintro e w' ⟨rfl, rfl⟩
  go_wp2_with fail
  rw [rounds_succ]; go_wp2_with fail
  refine (byte_w x 5 hx (by omega) _).mono ?_
  rintro e w' ⟨rfl, rfl⟩
  go_wp2_with fail
  rw [rounds_succ]; go_wp2_with fail
  refine (byte_w x 6 hx (by omega) _).mono ?_
  rintro e w' ⟨rfl, rfl⟩
  go_wp2_with fail
  rw [rounds_succ]; go_wp2_with fail
  refine (byte_w x 7 hx (by omega) _).mono ?_
  rintro e w' ⟨rfl, rfl⟩
  go_wp2_with fail
  rw [rounds_succ]; go_wp2_with fail
  refine (bits_w (fun i => decide (byteN x i < c)) _).mono ?_
  rintro e w' ⟨rfl, hb⟩
  go_wp2_with fail
  go_ret
  exact ⟨rfl, ((Below.refl _ _).alloc (Nat.le_refl _) _).trans (hb.mono (by simp))⟩

set_option maxHeartbeats 1000000 in
theorem rless_w (x : Nat) (hx : x < 18446744073709551616) (c : Int) (hc0 : -128 ≤ c) (hc1 : c < 128) (w : World) : Calls Try.prog 26 #[.int .u64 x, .int .i8 c] w fun e w' => e = .returned (.int .u8 (bvd (fun i => decide (sgn (byteN x i) < c)) 8)) ∧ Below w.heap.size w w' := by
  have B0 := byteN_lt x 0
  have B1 := byteN_lt x 1
  have B2 := byteN_lt x 2
  have B3 := byteN_lt x 3
  have B4 := byteN_lt x 4
  have B5 := byteN_lt x 5
  have B6 := byteN_lt x 6
  have B7 := byteN_lt x 7
  have S := fun (i : Nat) => sgn_range (byteN x i) (by omega) (by have := byteN_lt x i; omega)
  have S0 := S 0; have S1 := S 1; have S2 := S 2; have S3 := S 3; have S4 := S 4; have S5 := S 5; have S6 := S 6; have S7 := S 7
  clear S
  go_enter Try.func26, Try.ntmps26
  go_wp2_with fail
  refine wp_loop_rounds 9 ?_
  rw [rounds_succ]; go_wp2_with fail
  refine (byte_w x 0 hx (by omega) _).mono ?_
  rintro e w' ⟨rfl, rfl⟩
  go_wp2_with fail
  refine (signed_w (byteN x 0) (by omega) (by omega) _).mono ?_
  rintro e w' ⟨rfl, rfl⟩
  go_wp2_with fail
  rw [rounds_succ]; go_wp2_with fail
  refine (byte_w x 1 hx (by omega) _).mono ?_
  rintro e w' ⟨rfl, rfl⟩
  go_wp2_with fail
  refine (signed_w (byteN x 1) (by omega) (by omega) _).mono ?_
  rintro e w' ⟨rfl, rfl⟩
  go_wp2_with fail
  rw [rounds_succ]; go_wp2_with fail
  refine (byte_w x 2 hx (by omega) _).mono ?_
  rintro e w' ⟨rfl, rfl⟩
  go_wp2_with fail
  refine (signed_w (byteN x 2) (by omega) (by omega) _).mono ?_
  rintro e w' ⟨rfl, rfl⟩
  go_wp2_with fail
  rw [rounds_succ]; go_wp2_with fail
  refine (byte_w x 3 hx (by omega) _).mono ?_
  rintro e w' ⟨rfl, rfl⟩
  go_wp2_with fail
  refine (signed_w (byteN x 3) (by omega) (by omega) _).mono ?_
  rintro e w' ⟨rfl, rfl⟩
  go_wp2_with fail
  rw [rounds_succ]; go_wp2_with fail
  refine (byte_w x 4 hx (by omega) _).mono ?_
  rintro e w' ⟨rfl, rfl⟩
  go_wp2_with fail
  refine (signed_w (byteN x 4) (by omega) (by omega) _).mono ?_
  rintro e w' ⟨rfl, rfl⟩
  go_wp2_with fail
  rw [rounds_succ]; go_wp2_with fail
  refine (byte_w x 5 hx (by omega) _).mono ?_
  rintro e w' ⟨rfl, rfl⟩
  go_wp2_with fail
  refine (signed_w (byteN x 5) (by omega) (by omega) _).mono ?_
  rintro e w' ⟨rfl, rfl⟩
  go_wp2_with fail
  rw [rounds_succ]; go_wp2_with fail
  refine (byte_w x 6 hx (by omega) _).mono ?_
  rintro e w' ⟨rfl, rfl⟩
  go_wp2_with fail
  refine (signed_w (byteN x 6) (by omega) (by omega) _).mono ?_
  rintro e w' ⟨rfl, rfl⟩
  go_wp2_with fail
  rw [rounds_succ]; go_wp2_with fail
  refine (byte_w x 7 hx (by omega) _).mono ?_
  rintro e w' ⟨rfl, rfl⟩
  go_wp2_with fail
  refine (signed_w (byteN x 7) (by omega) (by omega) _).mono ?_
  rintro e w' ⟨rfl, rfl⟩
  go_wp2_with fail
  rw [rounds_succ]; go_wp2_with fail
  refine (bits_w (fun i => decide (sgn (byteN x i) < c)) _).mono ?_
  rintro e w' ⟨rfl, hb⟩
  go_wp2_with fail
  go_ret
  exact ⟨rfl, ((Below.refl _ _).alloc (Nat.le_refl _) _).trans (hb.mono (by simp))⟩

set_option maxHeartbeats 1000000 in
theorem rhigh_w (x : Nat) (hx : x < 18446744073709551616) (w : World) : Calls Try.prog 28 #[.int .u64 x] w fun e w' => e = .returned (.int .u8 (bvd (fun i => decide ((byteN x i : Int) ≥ 128)) 8)) ∧ Below w.heap.size w w' := by
  have B0 := byteN_lt x 0
  have B1 := byteN_lt x 1
  have B2 := byteN_lt x 2
  have B3 := byteN_lt x 3
  have B4 := byteN_lt x 4
  have B5 := byteN_lt x 5
  have B6 := byteN_lt x 6
  have B7 := byteN_lt x 7
  go_enter Try.func28, Try.ntmps28
  go_wp2_with fail
  refine wp_loop_rounds 9 ?_
  rw [rounds_succ]; go_wp2_with fail
  refine (byte_w x 0 hx (by omega) _).mono ?_
  rintro e w' ⟨rfl, rfl⟩
  go_wp2_with fail
  rw [rounds_succ]; go_wp2_with fail
  refine (byte_w x 1 hx (by omega) _).mono ?_
  rintro e w' ⟨rfl, rfl⟩
  go_wp2_with fail
  rw [rounds_succ]; go_wp2_with fail
  refine (byte_w x 2 hx (by omega) _).mono ?_
  rintro e w' ⟨rfl, rfl⟩
  go_wp2_with fail
  rw [rounds_succ]; go_wp2_with fail
  refine (byte_w x 3 hx (by omega) _).mono ?_
  rintro e w' ⟨rfl, rfl⟩
  go_wp2_with fail
  rw [rounds_succ]; go_wp2_with fail
  refine (byte_w x 4 hx (by omega) _).mono ?_
  rintro e w' ⟨rfl, rfl⟩
  go_wp2_with fail
  rw [rounds_succ]; go_wp2_with fail
  refine (byte_w x 5 hx (by omega) _).mono ?_
  rintro e w' ⟨rfl, rfl⟩
  go_wp2_with fail
  rw [rounds_succ]; go_wp2_with fail
  refine (byte_w x 6 hx (by omega) _).mono ?_
  rintro e w' ⟨rfl, rfl⟩
  go_wp2_with fail
  rw [rounds_succ]; go_wp2_with fail
  refine (byte_w x 7 hx (by omega) _).mono ?_
  rintro e w' ⟨rfl, rfl⟩
  go_wp2_with fail
  rw [rounds_succ]; go_wp2_with fail
  refine (bits_w (fun i => decide ((byteN x i : Int) ≥ 128)) _).mono ?_
  rintro e w' ⟨rfl, hb⟩
  go_wp2_with fail
  go_ret
  exact ⟨rfl, ((Below.refl _ _).alloc (Nat.le_refl _) _).trans (hb.mono (by simp))⟩
end Go.Proofs.Ytjebhdncfjijgaa.Lanes
