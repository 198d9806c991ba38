/- The walks of quarryref05.span, class by class. (Printed by gen_span.py.) -/
import Derived.Test.YtlfkhfmepcnfeaaUtfK
import Derived.Test.YtlfkhfmepcnfeaaUtfZ
import Derived.Deep.LoopGhost
import Derived.LoopN
namespace Go.Proofs.Ytlfkhfmepcnfeaa.Utf
set_option linter.unusedVariables false
set_option linter.unusedSimpArgs false
open Go.RowKit Go.Proofs.Ytlfkhfmepcnfeaa.Mem
theorem ret3v {a b c a' b' c' : Value} (h1 : a = a') (h2 : b = b') (h3 : c = c') : Ending.returned (.tuple #[a, b, c]) = Ending.returned (.tuple #[a', b', c']) := by rw [h1, h2, h3]
set_option maxHeartbeats 2000000 in
set_option maxRecDepth 100000 in
theorem span_a1 (g cap : Nat) (b0 : Int) (c0 : 0 ≤ b0) (c1 : b0 < 128) (w : World) (k0 : w.cell? ⟨g, 0, none⟩ = some (.int .u8 b0)) :
    Calls Try.prog 54 #[.slice (some ⟨g, 0, none⟩) 1 cap] w fun e w' => e = .returned (.tuple #[.int .i64 1, .int .i64 (b0), .int .i64 (b0)]) ∧ w = w' := by
  have t0 : decide (b0 < 128) = true := by simp; omega
  have t1 : decide (b0 ≥ 192) = false := by simp; omega
  have t2 : decide (192 ≤ b0) = false := by simp; omega
  have t3 : decide (b0 ≥ 224) = false := by simp; omega
  have t4 : decide (224 ≤ b0) = false := by simp; omega
  have t5 : decide (b0 ≥ 240) = false := by simp; omega
  have t6 : decide (240 ≤ b0) = false := by simp; omega
  go_enter Try.func54, Try.ntmps54
  go_wp2_with fail
  refine wp_loop_rounds 1 ?_
  rw [rounds_succ]
  go_wp2_with fail
  refine wp_loop_rounds 1 ?_
  rw [rounds_succ]
  go_wp2_with fail
  go_ret3
  exact ⟨ret3v rfl (congrArg (Value.int .i64) (by omega)) (congrArg (Value.int .i64) (by omega)), rfl⟩
set_option maxHeartbeats 2000000 in
set_option maxRecDepth 100000 in
theorem span_lo (g cap : Nat) (b0 : Int) (c0 : 128 ≤ b0) (c1 : b0 < 192) (w : World) (k0 : w.cell? ⟨g, 0, none⟩ = some (.int .u8 b0)) :
    Calls Try.prog 54 #[.slice (some ⟨g, 0, none⟩) 1 cap] w fun e w' => e = .returned (.tuple #[.int .i64 0, .int .i64 1, .int .i64 0]) ∧ w = w' := by
  have t0 : decide (b0 < 128) = false := by simp; omega
  have t1 : decide (b0 ≥ 192) = false := by simp; omega
  have t2 : decide (192 ≤ b0) = false := by simp; omega
  have t3 : decide (b0 ≥ 224) = false := by simp; omega
  have t4 : decide (224 ≤ b0) = false := by simp; omega
  have t5 : decide (b0 ≥ 240) = false := by simp; omega
  have t6 : decide (240 ≤ b0) = false := by simp; omega
  go_enter Try.func54, Try.ntmps54
  go_wp2_with fail
  go_ret3
  exact ⟨ret3v rfl (congrArg (Value.int .i64) (by omega)) (congrArg (Value.int .i64) (by omega)), rfl⟩
set_option maxHeartbeats 2000000 in
set_option maxRecDepth 100000 in
theorem span_b1 (g cap : Nat) (b0 : Int) (c0 : 192 ≤ b0) (c1 : b0 < 224) (w : World) (k0 : w.cell? ⟨g, 0, none⟩ = some (.int .u8 b0)) :
    Calls Try.prog 54 #[.slice (some ⟨g, 0, none⟩) 1 cap] w fun e w' => e = .returned (.tuple #[.int .i64 2, .int .i64 ((b0 - 192) * 64), .int .i64 ((b0 - 192) * 64 + 63)]) ∧ w = w' := by
  have t0 : decide (b0 < 128) = false := by simp; omega
  have t1 : decide (b0 ≥ 192) = true := by simp; omega
  have t2 : decide (192 ≤ b0) = true := by simp; omega
  have t3 : decide (b0 < 224) = true := by simp; omega
  have t4 : decide (b0 ≥ 224) = false := by simp; omega
  have t5 : decide (224 ≤ b0) = false := by simp; omega
  have t6 : decide (b0 ≥ 240) = false := by simp; omega
  have t7 : decide (240 ≤ b0) = false := by simp; omega
  go_enter Try.func54, Try.ntmps54
  go_wp2_with fail
  refine wp_loop_rounds 1 ?_
  rw [rounds_succ]
  go_wp2_with fail
  refine wp_loop_rounds 2 ?_
  rw [rounds_succ]
  go_wp2_with fail
  rw [rounds_succ]
  go_wp2_with fail
  go_ret3
  exact ⟨ret3v rfl (congrArg (Value.int .i64) (by omega)) (congrArg (Value.int .i64) (by omega)), rfl⟩
set_option maxHeartbeats 2000000 in
set_option maxRecDepth 100000 in
theorem span_b2 (g cap : Nat) (b0 b1 : Int) (c0 : 192 ≤ b0) (c1 : b0 < 224) (r1 : 128 ≤ b1) (s1 : b1 < 192) (w : World) (k0 : w.cell? ⟨g, 0, none⟩ = some (.int .u8 b0)) (k1 : w.cell? ⟨g, 1, none⟩ = some (.int .u8 b1)) :
    Calls Try.prog 54 #[.slice (some ⟨g, 0, none⟩) 2 cap] w fun e w' => e = .returned (.tuple #[.int .i64 2, .int .i64 ((b0 - 192) * 64 + b1 - 128), .int .i64 ((b0 - 192) * 64 + b1 - 128)]) ∧ w = w' := by
  have t0 : decide (b0 < 128) = false := by simp; omega
  have t1 : decide (b0 ≥ 192) = true := by simp; omega
  have t2 : decide (192 ≤ b0) = true := by simp; omega
  have t3 : decide (b0 < 224) = true := by simp; omega
  have t4 : decide (b0 ≥ 224) = false := by simp; omega
  have t5 : decide (224 ≤ b0) = false := by simp; omega
  have t6 : decide (b0 ≥ 240) = false := by simp; omega
  have t7 : decide (240 ≤ b0) = false := by simp; omega
  have t8 : decide (b1 < 128) = false := by simp; omega
  have t9 : decide (b1 ≥ 192) = false := by simp; omega
  have t10 : decide (192 ≤ b1) = false := by simp; omega
  go_enter Try.func54, Try.ntmps54
  go_wp2_with fail
  refine wp_loop_rounds 2 ?_
  rw [rounds_succ]
  go_wp2_with fail
  rw [rounds_succ]
  go_wp2_with fail
  refine wp_loop_rounds 1 ?_
  rw [rounds_succ]
  go_wp2_with fail
  go_ret3
  exact ⟨ret3v rfl (congrArg (Value.int .i64) (by omega)) (congrArg (Value.int .i64) (by omega)), rfl⟩
set_option maxHeartbeats 2000000 in
set_option maxRecDepth 100000 in
theorem span_b2_low (g cap : Nat) (b0 b1 : Int) (c0 : 192 ≤ b0) (c1 : b0 < 224) (r1 : 0 ≤ b1) (s1 : b1 < 128) (w : World) (k0 : w.cell? ⟨g, 0, none⟩ = some (.int .u8 b0)) (k1 : w.cell? ⟨g, 1, none⟩ = some (.int .u8 b1)) :
    Calls Try.prog 54 #[.slice (some ⟨g, 0, none⟩) 2 cap] w fun e w' => e = .returned (.tuple #[.int .i64 0, .int .i64 1, .int .i64 0]) ∧ w = w' := by
  have t0 : decide (b0 < 128) = false := by simp; omega
  have t1 : decide (b0 ≥ 192) = true := by simp; omega
  have t2 : decide (192 ≤ b0) = true := by simp; omega
  have t3 : decide (b0 < 224) = true := by simp; omega
  have t4 : decide (b0 ≥ 224) = false := by simp; omega
  have t5 : decide (224 ≤ b0) = false := by simp; omega
  have t6 : decide (b0 ≥ 240) = false := by simp; omega
  have t7 : decide (240 ≤ b0) = false := by simp; omega
  have t8 : decide (b1 < 128) = true := by simp; omega
  go_enter Try.func54, Try.ntmps54
  go_wp2_with fail
  refine wp_loop_rounds 2 ?_
  rw [rounds_succ]
  go_wp2_with fail
  go_ret3
  exact ⟨ret3v rfl (congrArg (Value.int .i64) (by omega)) (congrArg (Value.int .i64) (by omega)), rfl⟩
set_option maxHeartbeats 2000000 in
set_option maxRecDepth 100000 in
theorem span_b2_high (g cap : Nat) (b0 b1 : Int) (c0 : 192 ≤ b0) (c1 : b0 < 224) (r1 : 192 ≤ b1) (s1 : b1 < 256) (w : World) (k0 : w.cell? ⟨g, 0, none⟩ = some (.int .u8 b0)) (k1 : w.cell? ⟨g, 1, none⟩ = some (.int .u8 b1)) :
    Calls Try.prog 54 #[.slice (some ⟨g, 0, none⟩) 2 cap] w fun e w' => e = .returned (.tuple #[.int .i64 0, .int .i64 1, .int .i64 0]) ∧ w = w' := by
  have t0 : decide (b0 < 128) = false := by simp; omega
  have t1 : decide (b0 ≥ 192) = true := by simp; omega
  have t2 : decide (192 ≤ b0) = true := by simp; omega
  have t3 : decide (b0 < 224) = true := by simp; omega
  have t4 : decide (b0 ≥ 224) = false := by simp; omega
  have t5 : decide (224 ≤ b0) = false := by simp; omega
  have t6 : decide (b0 ≥ 240) = false := by simp; omega
  have t7 : decide (240 ≤ b0) = false := by simp; omega
  have t8 : decide (b1 < 128) = false := by simp; omega
  have t9 : decide (b1 ≥ 192) = true := by simp; omega
  have t10 : decide (192 ≤ b1) = true := by simp; omega
  go_enter Try.func54, Try.ntmps54
  go_wp2_with fail
  refine wp_loop_rounds 2 ?_
  rw [rounds_succ]
  go_wp2_with fail
  go_ret3
  exact ⟨ret3v rfl (congrArg (Value.int .i64) (by omega)) (congrArg (Value.int .i64) (by omega)), rfl⟩
set_option maxHeartbeats 2000000 in
set_option maxRecDepth 100000 in
theorem span_c1 (g cap : Nat) (b0 : Int) (c0 : 224 ≤ b0) (c1 : b0 < 240) (w : World) (k0 : w.cell? ⟨g, 0, none⟩ = some (.int .u8 b0)) :
    Calls Try.prog 54 #[.slice (some ⟨g, 0, none⟩) 1 cap] w fun e w' => e = .returned (.tuple #[.int .i64 3, .int .i64 (((b0 - 224) * 64) * 64), .int .i64 (((b0 - 224) * 64 + 63) * 64 + 63)]) ∧ w = w' := by
  have t0 : decide (b0 < 128) = false := by simp; omega
  have t1 : decide (b0 ≥ 192) = true := by simp; omega
  have t2 : decide (192 ≤ b0) = true := by simp; omega
  have t3 : decide (b0 < 224) = false := by simp; omega
  have t4 : decide (b0 ≥ 224) = true := by simp; omega
  have t5 : decide (224 ≤ b0) = true := by simp; omega
  have t6 : decide (b0 < 240) = true := by simp; omega
  have t7 : decide (b0 ≥ 240) = false := by simp; omega
  have t8 : decide (240 ≤ b0) = false := by simp; omega
  go_enter Try.func54, Try.ntmps54
  go_wp2_with fail
  refine wp_loop_rounds 1 ?_
  rw [rounds_succ]
  go_wp2_with fail
  refine wp_loop_rounds 3 ?_
  rw [rounds_succ]
  go_wp2_with fail
  rw [rounds_succ]
  go_wp2_with fail
  rw [rounds_succ]
  go_wp2_with fail
  go_ret3
  exact ⟨ret3v rfl (congrArg (Value.int .i64) (by omega)) (congrArg (Value.int .i64) (by omega)), rfl⟩
set_option maxHeartbeats 2000000 in
set_option maxRecDepth 100000 in
theorem span_c2 (g cap : Nat) (b0 b1 : Int) (c0 : 224 ≤ b0) (c1 : b0 < 240) (r1 : 128 ≤ b1) (s1 : b1 < 192) (w : World) (k0 : w.cell? ⟨g, 0, none⟩ = some (.int .u8 b0)) (k1 : w.cell? ⟨g, 1, none⟩ = some (.int .u8 b1)) :
    Calls Try.prog 54 #[.slice (some ⟨g, 0, none⟩) 2 cap] w fun e w' => e = .returned (.tuple #[.int .i64 3, .int .i64 (((b0 - 224) * 64 + b1 - 128) * 64), .int .i64 (((b0 - 224) * 64 + b1 - 128) * 64 + 63)]) ∧ w = w' := by
  have t0 : decide (b0 < 128) = false := by simp; omega
  have t1 : decide (b0 ≥ 192) = true := by simp; omega
  have t2 : decide (192 ≤ b0) = true := by simp; omega
  have t3 : decide (b0 < 224) = false := by simp; omega
  have t4 : decide (b0 ≥ 224) = true := by simp; omega
  have t5 : decide (224 ≤ b0) = true := by simp; omega
  have t6 : decide (b0 < 240) = true := by simp; omega
  have t7 : decide (b0 ≥ 240) = false := by simp; omega
  have t8 : decide (240 ≤ b0) = false := by simp; omega
  have t9 : decide (b1 < 128) = false := by simp; omega
  have t10 : decide (b1 ≥ 192) = false := by simp; omega
  have t11 : decide (192 ≤ b1) = false := by simp; omega
  go_enter Try.func54, Try.ntmps54
  go_wp2_with fail
  refine wp_loop_rounds 2 ?_
  rw [rounds_succ]
  go_wp2_with fail
  rw [rounds_succ]
  go_wp2_with fail
  refine wp_loop_rounds 2 ?_
  rw [rounds_succ]
  go_wp2_with fail
  rw [rounds_succ]
  go_wp2_with fail
  go_ret3
  exact ⟨ret3v rfl (congrArg (Value.int .i64) (by omega)) (congrArg (Value.int .i64) (by omega)), rfl⟩
set_option maxHeartbeats 2000000 in
set_option maxRecDepth 100000 in
theorem span_c2_low (g cap : Nat) (b0 b1 : Int) (c0 : 224 ≤ b0) (c1 : b0 < 240) (r1 : 0 ≤ b1) (s1 : b1 < 128) (w : World) (k0 : w.cell? ⟨g, 0, none⟩ = some (.int .u8 b0)) (k1 : w.cell? ⟨g, 1, none⟩ = some (.int .u8 b1)) :
    Calls Try.prog 54 #[.slice (some ⟨g, 0, none⟩) 2 cap] w fun e w' => e = .returned (.tuple #[.int .i64 0, .int .i64 1, .int .i64 0]) ∧ w = w' := by
  have t0 : decide (b0 < 128) = false := by simp; omega
  have t1 : decide (b0 ≥ 192) = true := by simp; omega
  have t2 : decide (192 ≤ b0) = true := by simp; omega
  have t3 : decide (b0 < 224) = false := by simp; omega
  have t4 : decide (b0 ≥ 224) = true := by simp; omega
  have t5 : decide (224 ≤ b0) = true := by simp; omega
  have t6 : decide (b0 < 240) = true := by simp; omega
  have t7 : decide (b0 ≥ 240) = false := by simp; omega
  have t8 : decide (240 ≤ b0) = false := by simp; omega
  have t9 : decide (b1 < 128) = true := by simp; omega
  go_enter Try.func54, Try.ntmps54
  go_wp2_with fail
  refine wp_loop_rounds 2 ?_
  rw [rounds_succ]
  go_wp2_with fail
  go_ret3
  exact ⟨ret3v rfl (congrArg (Value.int .i64) (by omega)) (congrArg (Value.int .i64) (by omega)), rfl⟩
set_option maxHeartbeats 2000000 in
set_option maxRecDepth 100000 in
theorem span_c2_high (g cap : Nat) (b0 b1 : Int) (c0 : 224 ≤ b0) (c1 : b0 < 240) (r1 : 192 ≤ b1) (s1 : b1 < 256) (w : World) (k0 : w.cell? ⟨g, 0, none⟩ = some (.int .u8 b0)) (k1 : w.cell? ⟨g, 1, none⟩ = some (.int .u8 b1)) :
    Calls Try.prog 54 #[.slice (some ⟨g, 0, none⟩) 2 cap] w fun e w' => e = .returned (.tuple #[.int .i64 0, .int .i64 1, .int .i64 0]) ∧ w = w' := by
  have t0 : decide (b0 < 128) = false := by simp; omega
  have t1 : decide (b0 ≥ 192) = true := by simp; omega
  have t2 : decide (192 ≤ b0) = true := by simp; omega
  have t3 : decide (b0 < 224) = false := by simp; omega
  have t4 : decide (b0 ≥ 224) = true := by simp; omega
  have t5 : decide (224 ≤ b0) = true := by simp; omega
  have t6 : decide (b0 < 240) = true := by simp; omega
  have t7 : decide (b0 ≥ 240) = false := by simp; omega
  have t8 : decide (240 ≤ b0) = false := by simp; omega
  have t9 : decide (b1 < 128) = false := by simp; omega
  have t10 : decide (b1 ≥ 192) = true := by simp; omega
  have t11 : decide (192 ≤ b1) = true := by simp; omega
  go_enter Try.func54, Try.ntmps54
  go_wp2_with fail
  refine wp_loop_rounds 2 ?_
  rw [rounds_succ]
  go_wp2_with fail
  go_ret3
  exact ⟨ret3v rfl (congrArg (Value.int .i64) (by omega)) (congrArg (Value.int .i64) (by omega)), rfl⟩
set_option maxHeartbeats 2000000 in
set_option maxRecDepth 100000 in
theorem span_c3 (g cap : Nat) (b0 b1 b2 : Int) (c0 : 224 ≤ b0) (c1 : b0 < 240) (r1 : 128 ≤ b1) (s1 : b1 < 192) (r2 : 128 ≤ b2) (s2 : b2 < 192) (w : World) (k0 : w.cell? ⟨g, 0, none⟩ = some (.int .u8 b0)) (k1 : w.cell? ⟨g, 1, none⟩ = some (.int .u8 b1)) (k2 : w.cell? ⟨g, 2, none⟩ = some (.int .u8 b2)) :
    Calls Try.prog 54 #[.slice (some ⟨g, 0, none⟩) 3 cap] w fun e w' => e = .returned (.tuple #[.int .i64 3, .int .i64 (((b0 - 224) * 64 + b1 - 128) * 64 + b2 - 128), .int .i64 (((b0 - 224) * 64 + b1 - 128) * 64 + b2 - 128)]) ∧ w = w' := by
  have t0 : decide (b0 < 128) = false := by simp; omega
  have t1 : decide (b0 ≥ 192) = true := by simp; omega
  have t2 : decide (192 ≤ b0) = true := by simp; omega
  have t3 : decide (b0 < 224) = false := by simp; omega
  have t4 : decide (b0 ≥ 224) = true := by simp; omega
  have t5 : decide (224 ≤ b0) = true := by simp; omega
  have t6 : decide (b0 < 240) = true := by simp; omega
  have t7 : decide (b0 ≥ 240) = false := by simp; omega
  have t8 : decide (240 ≤ b0) = false := by simp; omega
  have t9 : decide (b1 < 128) = false := by simp; omega
  have t10 : decide (b1 ≥ 192) = false := by simp; omega
  have t11 : decide (192 ≤ b1) = false := by simp; omega
  have t12 : decide (b2 < 128) = false := by simp; omega
  have t13 : decide (b2 ≥ 192) = false := by simp; omega
  have t14 : decide (192 ≤ b2) = false := by simp; omega
  go_enter Try.func54, Try.ntmps54
  go_wp2_with fail
  refine wp_loop_rounds 3 ?_
  rw [rounds_succ]
  go_wp2_with fail
  rw [rounds_succ]
  go_wp2_with fail
  rw [rounds_succ]
  go_wp2_with fail
  refine wp_loop_rounds 1 ?_
  rw [rounds_succ]
  go_wp2_with fail
  go_ret3
  exact ⟨ret3v rfl (congrArg (Value.int .i64) (by omega)) (congrArg (Value.int .i64) (by omega)), rfl⟩
set_option maxHeartbeats 2000000 in
set_option maxRecDepth 100000 in
theorem span_c3_low (g cap : Nat) (b0 b1 b2 : Int) (c0 : 224 ≤ b0) (c1 : b0 < 240) (r1 : 128 ≤ b1) (s1 : b1 < 192) (r2 : 0 ≤ b2) (s2 : b2 < 128) (w : World) (k0 : w.cell? ⟨g, 0, none⟩ = some (.int .u8 b0)) (k1 : w.cell? ⟨g, 1, none⟩ = some (.int .u8 b1)) (k2 : w.cell? ⟨g, 2, none⟩ = some (.int .u8 b2)) :
    Calls Try.prog 54 #[.slice (some ⟨g, 0, none⟩) 3 cap] w fun e w' => e = .returned (.tuple #[.int .i64 0, .int .i64 1, .int .i64 0]) ∧ w = w' := by
  have t0 : decide (b0 < 128) = false := by simp; omega
  have t1 : decide (b0 ≥ 192) = true := by simp; omega
  have t2 : decide (192 ≤ b0) = true := by simp; omega
  have t3 : decide (b0 < 224) = false := by simp; omega
  have t4 : decide (b0 ≥ 224) = true := by simp; omega
  have t5 : decide (224 ≤ b0) = true := by simp; omega
  have t6 : decide (b0 < 240) = true := by simp; omega
  have t7 : decide (b0 ≥ 240) = false := by simp; omega
  have t8 : decide (240 ≤ b0) = false := by simp; omega
  have t9 : decide (b1 < 128) = false := by simp; omega
  have t10 : decide (b1 ≥ 192) = false := by simp; omega
  have t11 : decide (192 ≤ b1) = false := by simp; omega
  have t12 : decide (b2 < 128) = true := by simp; omega
  go_enter Try.func54, Try.ntmps54
  go_wp2_with fail
  refine wp_loop_rounds 3 ?_
  rw [rounds_succ]
  go_wp2_with fail
  rw [rounds_succ]
  go_wp2_with fail
  go_ret3
  exact ⟨ret3v rfl (congrArg (Value.int .i64) (by omega)) (congrArg (Value.int .i64) (by omega)), rfl⟩
set_option maxHeartbeats 2000000 in
set_option maxRecDepth 100000 in
theorem span_c3_high (g cap : Nat) (b0 b1 b2 : Int) (c0 : 224 ≤ b0) (c1 : b0 < 240) (r1 : 128 ≤ b1) (s1 : b1 < 192) (r2 : 192 ≤ b2) (s2 : b2 < 256) (w : World) (k0 : w.cell? ⟨g, 0, none⟩ = some (.int .u8 b0)) (k1 : w.cell? ⟨g, 1, none⟩ = some (.int .u8 b1)) (k2 : w.cell? ⟨g, 2, none⟩ = some (.int .u8 b2)) :
    Calls Try.prog 54 #[.slice (some ⟨g, 0, none⟩) 3 cap] w fun e w' => e = .returned (.tuple #[.int .i64 0, .int .i64 1, .int .i64 0]) ∧ w = w' := by
  have t0 : decide (b0 < 128) = false := by simp; omega
  have t1 : decide (b0 ≥ 192) = true := by simp; omega
  have t2 : decide (192 ≤ b0) = true := by simp; omega
  have t3 : decide (b0 < 224) = false := by simp; omega
  have t4 : decide (b0 ≥ 224) = true := by simp; omega
  have t5 : decide (224 ≤ b0) = true := by simp; omega
  have t6 : decide (b0 < 240) = true := by simp; omega
  have t7 : decide (b0 ≥ 240) = false := by simp; omega
  have t8 : decide (240 ≤ b0) = false := by simp; omega
  have t9 : decide (b1 < 128) = false := by simp; omega
  have t10 : decide (b1 ≥ 192) = false := by simp; omega
  have t11 : decide (192 ≤ b1) = false := by simp; omega
  have t12 : decide (b2 < 128) = false := by simp; omega
  have t13 : decide (b2 ≥ 192) = true := by simp; omega
  have t14 : decide (192 ≤ b2) = true := by simp; omega
  go_enter Try.func54, Try.ntmps54
  go_wp2_with fail
  refine wp_loop_rounds 3 ?_
  rw [rounds_succ]
  go_wp2_with fail
  rw [rounds_succ]
  go_wp2_with fail
  go_ret3
  exact ⟨ret3v rfl (congrArg (Value.int .i64) (by omega)) (congrArg (Value.int .i64) (by omega)), rfl⟩
set_option maxHeartbeats 2000000 in
set_option maxRecDepth 100000 in
theorem span_d1 (g cap : Nat) (b0 : Int) (c0 : 240 ≤ b0) (c1 : b0 < 248) (w : World) (k0 : w.cell? ⟨g, 0, none⟩ = some (.int .u8 b0)) :
    Calls Try.prog 54 #[.slice (some ⟨g, 0, none⟩) 1 cap] w fun e w' => e = .returned (.tuple #[.int .i64 4, .int .i64 ((((b0 - 240) * 64) * 64) * 64), .int .i64 ((((b0 - 240) * 64 + 63) * 64 + 63) * 64 + 63)]) ∧ w = w' := by
  have t0 : decide (b0 < 128) = false := by simp; omega
  have t1 : decide (b0 ≥ 192) = true := by simp; omega
  have t2 : decide (192 ≤ b0) = true := by simp; omega
  have t3 : decide (b0 < 224) = false := by simp; omega
  have t4 : decide (b0 ≥ 224) = true := by simp; omega
  have t5 : decide (224 ≤ b0) = true := by simp; omega
  have t6 : decide (b0 < 240) = false := by simp; omega
  have t7 : decide (b0 ≥ 240) = true := by simp; omega
  have t8 : decide (240 ≤ b0) = true := by simp; omega
  have t9 : decide (b0 < 248) = true := by simp; omega
  go_enter Try.func54, Try.ntmps54
  go_wp2_with fail
  refine wp_loop_rounds 1 ?_
  rw [rounds_succ]
  go_wp2_with fail
  refine wp_loop_rounds 4 ?_
  rw [rounds_succ]
  go_wp2_with fail
  rw [rounds_succ]
  go_wp2_with fail
  rw [rounds_succ]
  go_wp2_with fail
  rw [rounds_succ]
  go_wp2_with fail
  go_ret3
  exact ⟨ret3v rfl (congrArg (Value.int .i64) (by omega)) (congrArg (Value.int .i64) (by omega)), rfl⟩
set_option maxHeartbeats 2000000 in
set_option maxRecDepth 100000 in
theorem span_d2 (g cap : Nat) (b0 b1 : Int) (c0 : 240 ≤ b0) (c1 : b0 < 248) (r1 : 128 ≤ b1) (s1 : b1 < 192) (w : World) (k0 : w.cell? ⟨g, 0, none⟩ = some (.int .u8 b0)) (k1 : w.cell? ⟨g, 1, none⟩ = some (.int .u8 b1)) :
    Calls Try.prog 54 #[.slice (some ⟨g, 0, none⟩) 2 cap] w fun e w' => e = .returned (.tuple #[.int .i64 4, .int .i64 ((((b0 - 240) * 64 + b1 - 128) * 64) * 64), .int .i64 ((((b0 - 240) * 64 + b1 - 128) * 64 + 63) * 64 + 63)]) ∧ w = w' := by
  have t0 : decide (b0 < 128) = false := by simp; omega
  have t1 : decide (b0 ≥ 192) = true := by simp; omega
  have t2 : decide (192 ≤ b0) = true := by simp; omega
  have t3 : decide (b0 < 224) = false := by simp; omega
  have t4 : decide (b0 ≥ 224) = true := by simp; omega
  have t5 : decide (224 ≤ b0) = true := by simp; omega
  have t6 : decide (b0 < 240) = false := by simp; omega
  have t7 : decide (b0 ≥ 240) = true := by simp; omega
  have t8 : decide (240 ≤ b0) = true := by simp; omega
  have t9 : decide (b0 < 248) = true := by simp; omega
  have t10 : decide (b1 < 128) = false := by simp; omega
  have t11 : decide (b1 ≥ 192) = false := by simp; omega
  have t12 : decide (192 ≤ b1) = false := by simp; omega
  go_enter Try.func54, Try.ntmps54
  go_wp2_with fail
  refine wp_loop_rounds 2 ?_
  rw [rounds_succ]
  go_wp2_with fail
  rw [rounds_succ]
  go_wp2_with fail
  refine wp_loop_rounds 3 ?_
  rw [rounds_succ]
  go_wp2_with fail
  rw [rounds_succ]
  go_wp2_with fail
  rw [rounds_succ]
  go_wp2_with fail
  go_ret3
  exact ⟨ret3v rfl (congrArg (Value.int .i64) (by omega)) (congrArg (Value.int .i64) (by omega)), rfl⟩
set_option maxHeartbeats 2000000 in
set_option maxRecDepth 100000 in
theorem span_d2_low (g cap : Nat) (b0 b1 : Int) (c0 : 240 ≤ b0) (c1 : b0 < 248) (r1 : 0 ≤ b1) (s1 : b1 < 128) (w : World) (k0 : w.cell? ⟨g, 0, none⟩ = some (.int .u8 b0)) (k1 : w.cell? ⟨g, 1, none⟩ = some (.int .u8 b1)) :
    Calls Try.prog 54 #[.slice (some ⟨g, 0, none⟩) 2 cap] w fun e w' => e = .returned (.tuple #[.int .i64 0, .int .i64 1, .int .i64 0]) ∧ w = w' := by
  have t0 : decide (b0 < 128) = false := by simp; omega
  have t1 : decide (b0 ≥ 192) = true := by simp; omega
  have t2 : decide (192 ≤ b0) = true := by simp; omega
  have t3 : decide (b0 < 224) = false := by simp; omega
  have t4 : decide (b0 ≥ 224) = true := by simp; omega
  have t5 : decide (224 ≤ b0) = true := by simp; omega
  have t6 : decide (b0 < 240) = false := by simp; omega
  have t7 : decide (b0 ≥ 240) = true := by simp; omega
  have t8 : decide (240 ≤ b0) = true := by simp; omega
  have t9 : decide (b0 < 248) = true := by simp; omega
  have t10 : decide (b1 < 128) = true := by simp; omega
  go_enter Try.func54, Try.ntmps54
  go_wp2_with fail
  refine wp_loop_rounds 2 ?_
  rw [rounds_succ]
  go_wp2_with fail
  go_ret3
  exact ⟨ret3v rfl (congrArg (Value.int .i64) (by omega)) (congrArg (Value.int .i64) (by omega)), rfl⟩
set_option maxHeartbeats 2000000 in
set_option maxRecDepth 100000 in
theorem span_d2_high (g cap : Nat) (b0 b1 : Int) (c0 : 240 ≤ b0) (c1 : b0 < 248) (r1 : 192 ≤ b1) (s1 : b1 < 256) (w : World) (k0 : w.cell? ⟨g, 0, none⟩ = some (.int .u8 b0)) (k1 : w.cell? ⟨g, 1, none⟩ = some (.int .u8 b1)) :
    Calls Try.prog 54 #[.slice (some ⟨g, 0, none⟩) 2 cap] w fun e w' => e = .returned (.tuple #[.int .i64 0, .int .i64 1, .int .i64 0]) ∧ w = w' := by
  have t0 : decide (b0 < 128) = false := by simp; omega
  have t1 : decide (b0 ≥ 192) = true := by simp; omega
  have t2 : decide (192 ≤ b0) = true := by simp; omega
  have t3 : decide (b0 < 224) = false := by simp; omega
  have t4 : decide (b0 ≥ 224) = true := by simp; omega
  have t5 : decide (224 ≤ b0) = true := by simp; omega
  have t6 : decide (b0 < 240) = false := by simp; omega
  have t7 : decide (b0 ≥ 240) = true := by simp; omega
  have t8 : decide (240 ≤ b0) = true := by simp; omega
  have t9 : decide (b0 < 248) = true := by simp; omega
  have t10 : decide (b1 < 128) = false := by simp; omega
  have t11 : decide (b1 ≥ 192) = true := by simp; omega
  have t12 : decide (192 ≤ b1) = true := by simp; omega
  go_enter Try.func54, Try.ntmps54
  go_wp2_with fail
  refine wp_loop_rounds 2 ?_
  rw [rounds_succ]
  go_wp2_with fail
  go_ret3
  exact ⟨ret3v rfl (congrArg (Value.int .i64) (by omega)) (congrArg (Value.int .i64) (by omega)), rfl⟩
set_option maxHeartbeats 2000000 in
set_option maxRecDepth 100000 in
theorem span_d3 (g cap : Nat) (b0 b1 b2 : Int) (c0 : 240 ≤ b0) (c1 : b0 < 248) (r1 : 128 ≤ b1) (s1 : b1 < 192) (r2 : 128 ≤ b2) (s2 : b2 < 192) (w : World) (k0 : w.cell? ⟨g, 0, none⟩ = some (.int .u8 b0)) (k1 : w.cell? ⟨g, 1, none⟩ = some (.int .u8 b1)) (k2 : w.cell? ⟨g, 2, none⟩ = some (.int .u8 b2)) :
    Calls Try.prog 54 #[.slice (some ⟨g, 0, none⟩) 3 cap] w fun e w' => e = .returned (.tuple #[.int .i64 4, .int .i64 ((((b0 - 240) * 64 + b1 - 128) * 64 + b2 - 128) * 64), .int .i64 ((((b0 - 240) * 64 + b1 - 128) * 64 + b2 - 128) * 64 + 63)]) ∧ w = w' := by
  have t0 : decide (b0 < 128) = false := by simp; omega
  have t1 : decide (b0 ≥ 192) = true := by simp; omega
  have t2 : decide (192 ≤ b0) = true := by simp; omega
  have t3 : decide (b0 < 224) = false := by simp; omega
  have t4 : decide (b0 ≥ 224) = true := by simp; omega
  have t5 : decide (224 ≤ b0) = true := by simp; omega
  have t6 : decide (b0 < 240) = false := by simp; omega
  have t7 : decide (b0 ≥ 240) = true := by simp; omega
  have t8 : decide (240 ≤ b0) = true := by simp; omega
  have t9 : decide (b0 < 248) = true := by simp; omega
  have t10 : decide (b1 < 128) = false := by simp; omega
  have t11 : decide (b1 ≥ 192) = false := by simp; omega
  have t12 : decide (192 ≤ b1) = false := by simp; omega
  have t13 : decide (b2 < 128) = false := by simp; omega
  have t14 : decide (b2 ≥ 192) = false := by simp; omega
  have t15 : decide (192 ≤ b2) = false := by simp; omega
  go_enter Try.func54, Try.ntmps54
  go_wp2_with fail
  refine wp_loop_rounds 3 ?_
  rw [rounds_succ]
  go_wp2_with fail
  rw [rounds_succ]
  go_wp2_with fail
  rw [rounds_succ]
  go_wp2_with fail
  refine wp_loop_rounds 2 ?_
  rw [rounds_succ]
  go_wp2_with fail
  rw [rounds_succ]
  go_wp2_with fail
  go_ret3
  exact ⟨ret3v rfl (congrArg (Value.int .i64) (by omega)) (congrArg (Value.int .i64) (by omega)), rfl⟩
set_option maxHeartbeats 2000000 in
set_option maxRecDepth 100000 in
theorem span_d3_low (g cap : Nat) (b0 b1 b2 : Int) (c0 : 240 ≤ b0) (c1 : b0 < 248) (r1 : 128 ≤ b1) (s1 : b1 < 192) (r2 : 0 ≤ b2) (s2 : b2 < 128) (w : World) (k0 : w.cell? ⟨g, 0, none⟩ = some (.int .u8 b0)) (k1 : w.cell? ⟨g, 1, none⟩ = some (.int .u8 b1)) (k2 : w.cell? ⟨g, 2, none⟩ = some (.int .u8 b2)) :
    Calls Try.prog 54 #[.slice (some ⟨g, 0, none⟩) 3 cap] w fun e w' => e = .returned (.tuple #[.int .i64 0, .int .i64 1, .int .i64 0]) ∧ w = w' := by
  have t0 : decide (b0 < 128) = false := by simp; omega
  have t1 : decide (b0 ≥ 192) = true := by simp; omega
  have t2 : decide (192 ≤ b0) = true := by simp; omega
  have t3 : decide (b0 < 224) = false := by simp; omega
  have t4 : decide (b0 ≥ 224) = true := by simp; omega
  have t5 : decide (224 ≤ b0) = true := by simp; omega
  have t6 : decide (b0 < 240) = false := by simp; omega
  have t7 : decide (b0 ≥ 240) = true := by simp; omega
  have t8 : decide (240 ≤ b0) = true := by simp; omega
  have t9 : decide (b0 < 248) = true := by simp; omega
  have t10 : decide (b1 < 128) = false := by simp; omega
  have t11 : decide (b1 ≥ 192) = false := by simp; omega
  have t12 : decide (192 ≤ b1) = false := by simp; omega
  have t13 : decide (b2 < 128) = true := by simp; omega
  go_enter Try.func54, Try.ntmps54
  go_wp2_with fail
  refine wp_loop_rounds 3 ?_
  rw [rounds_succ]
  go_wp2_with fail
  rw [rounds_succ]
  go_wp2_with fail
  go_ret3
  exact ⟨ret3v rfl (congrArg (Value.int .i64) (by omega)) (congrArg (Value.int .i64) (by omega)), rfl⟩
set_option maxHeartbeats 2000000 in
set_option maxRecDepth 100000 in
theorem span_d3_high (g cap : Nat) (b0 b1 b2 : Int) (c0 : 240 ≤ b0) (c1 : b0 < 248) (r1 : 128 ≤ b1) (s1 : b1 < 192) (r2 : 192 ≤ b2) (s2 : b2 < 256) (w : World) (k0 : w.cell? ⟨g, 0, none⟩ = some (.int .u8 b0)) (k1 : w.cell? ⟨g, 1, none⟩ = some (.int .u8 b1)) (k2 : w.cell? ⟨g, 2, none⟩ = some (.int .u8 b2)) :
    Calls Try.prog 54 #[.slice (some ⟨g, 0, none⟩) 3 cap] w fun e w' => e = .returned (.tuple #[.int .i64 0, .int .i64 1, .int .i64 0]) ∧ w = w' := by
  have t0 : decide (b0 < 128) = false := by simp; omega
  have t1 : decide (b0 ≥ 192) = true := by simp; omega
  have t2 : decide (192 ≤ b0) = true := by simp; omega
  have t3 : decide (b0 < 224) = false := by simp; omega
  have t4 : decide (b0 ≥ 224) = true := by simp; omega
  have t5 : decide (224 ≤ b0) = true := by simp; omega
  have t6 : decide (b0 < 240) = false := by simp; omega
  have t7 : decide (b0 ≥ 240) = true := by simp; omega
  have t8 : decide (240 ≤ b0) = true := by simp; omega
  have t9 : decide (b0 < 248) = true := by simp; omega
  have t10 : decide (b1 < 128) = false := by simp; omega
  have t11 : decide (b1 ≥ 192) = false := by simp; omega
  have t12 : decide (192 ≤ b1) = false := by simp; omega
  have t13 : decide (b2 < 128) = false := by simp; omega
  have t14 : decide (b2 ≥ 192) = true := by simp; omega
  have t15 : decide (192 ≤ b2) = true := by simp; omega
  go_enter Try.func54, Try.ntmps54
  go_wp2_with fail
  refine wp_loop_rounds 3 ?_
  rw [rounds_succ]
  go_wp2_with fail
  rw [rounds_succ]
  go_wp2_with fail
  go_ret3
  exact ⟨ret3v rfl (congrArg (Value.int .i64) (by omega)) (congrArg (Value.int .i64) (by omega)), rfl⟩
set_option maxHeartbeats 2000000 in
set_option maxRecDepth 100000 in
theorem span_d4 (g cap : Nat) (b0 b1 b2 b3 : Int) (c0 : 240 ≤ b0) (c1 : b0 < 248) (r1 : 128 ≤ b1) (s1 : b1 < 192) (r2 : 128 ≤ b2) (s2 : b2 < 192) (r3 : 128 ≤ b3) (s3 : b3 < 192) (w : World) (k0 : w.cell? ⟨g, 0, none⟩ = some (.int .u8 b0)) (k1 : w.cell? ⟨g, 1, none⟩ = some (.int .u8 b1)) (k2 : w.cell? ⟨g, 2, none⟩ = some (.int .u8 b2)) (k3 : w.cell? ⟨g, 3, none⟩ = some (.int .u8 b3)) :
    Calls Try.prog 54 #[.slice (some ⟨g, 0, none⟩) 4 cap] w fun e w' => e = .returned (.tuple #[.int .i64 4, .int .i64 ((((b0 - 240) * 64 + b1 - 128) * 64 + b2 - 128) * 64 + b3 - 128), .int .i64 ((((b0 - 240) * 64 + b1 - 128) * 64 + b2 - 128) * 64 + b3 - 128)]) ∧ w = w' := by
  have t0 : decide (b0 < 128) = false := by simp; omega
  have t1 : decide (b0 ≥ 192) = true := by simp; omega
  have t2 : decide (192 ≤ b0) = true := by simp; omega
  have t3 : decide (b0 < 224) = false := by simp; omega
  have t4 : decide (b0 ≥ 224) = true := by simp; omega
  have t5 : decide (224 ≤ b0) = true := by simp; omega
  have t6 : decide (b0 < 240) = false := by simp; omega
  have t7 : decide (b0 ≥ 240) = true := by simp; omega
  have t8 : decide (240 ≤ b0) = true := by simp; omega
  have t9 : decide (b0 < 248) = true := by simp; omega
  have t10 : decide (b1 < 128) = false := by simp; omega
  have t11 : decide (b1 ≥ 192) = false := by simp; omega
  have t12 : decide (192 ≤ b1) = false := by simp; omega
  have t13 : decide (b2 < 128) = false := by simp; omega
  have t14 : decide (b2 ≥ 192) = false := by simp; omega
  have t15 : decide (192 ≤ b2) = false := by simp; omega
  have t16 : decide (b3 < 128) = false := by simp; omega
  have t17 : decide (b3 ≥ 192) = false := by simp; omega
  have t18 : decide (192 ≤ b3) = false := by simp; omega
  go_enter Try.func54, Try.ntmps54
  go_wp2_with fail
  refine wp_loop_rounds 4 ?_
  rw [rounds_succ]
  go_wp2_with fail
  rw [rounds_succ]
  go_wp2_with fail
  rw [rounds_succ]
  go_wp2_with fail
  rw [rounds_succ]
  go_wp2_with fail
  refine wp_loop_rounds 1 ?_
  rw [rounds_succ]
  go_wp2_with fail
  go_ret3
  exact ⟨ret3v rfl (congrArg (Value.int .i64) (by omega)) (congrArg (Value.int .i64) (by omega)), rfl⟩
set_option maxHeartbeats 2000000 in
set_option maxRecDepth 100000 in
theorem span_d4_low (g cap : Nat) (b0 b1 b2 b3 : Int) (c0 : 240 ≤ b0) (c1 : b0 < 248) (r1 : 128 ≤ b1) (s1 : b1 < 192) (r2 : 128 ≤ b2) (s2 : b2 < 192) (r3 : 0 ≤ b3) (s3 : b3 < 128) (w : World) (k0 : w.cell? ⟨g, 0, none⟩ = some (.int .u8 b0)) (k1 : w.cell? ⟨g, 1, none⟩ = some (.int .u8 b1)) (k2 : w.cell? ⟨g, 2, none⟩ = some (.int .u8 b2)) (k3 : w.cell? ⟨g, 3, none⟩ = some (.int .u8 b3)) :
    Calls Try.prog 54 #[.slice (some ⟨g, 0, none⟩) 4 cap] w fun e w' => e = .returned (.tuple #[.int .i64 0, .int .i64 1, .int .i64 0]) ∧ w = w' := by
  have t0 : decide (b0 < 128) = false := by simp; omega
  have t1 : decide (b0 ≥ 192) = true := by simp; omega
  have t2 : decide (192 ≤ b0) = true := by simp; omega
  have t3 : decide (b0 < 224) = false := by simp; omega
  have t4 : decide (b0 ≥ 224) = true := by simp; omega
  have t5 : decide (224 ≤ b0) = true := by simp; omega
  have t6 : decide (b0 < 240) = false := by simp; omega
  have t7 : decide (b0 ≥ 240) = true := by simp; omega
  have t8 : decide (240 ≤ b0) = true := by simp; omega
  have t9 : decide (b0 < 248) = true := by simp; omega
  have t10 : decide (b1 < 128) = false := by simp; omega
  have t11 : decide (b1 ≥ 192) = false := by simp; omega
  have t12 : decide (192 ≤ b1) = false := by simp; omega
  have t13 : decide (b2 < 128) = false := by simp; omega
  have t14 : decide (b2 ≥ 192) = false := by simp; omega
  have t15 : decide (192 ≤ b2) = false := by simp; omega
  have t16 : decide (b3 < 128) = true := by simp; omega
  go_enter Try.func54, Try.ntmps54
  go_wp2_with fail
  refine wp_loop_rounds 4 ?_
  rw [rounds_succ]
  go_wp2_with fail
  rw [rounds_succ]
  go_wp2_with fail
  rw [rounds_succ]
  go_wp2_with fail
  go_ret3
  exact ⟨ret3v rfl (congrArg (Value.int .i64) (by omega)) (congrArg (Value.int .i64) (by omega)), rfl⟩
set_option maxHeartbeats 2000000 in
set_option maxRecDepth 100000 in
theorem span_d4_high (g cap : Nat) (b0 b1 b2 b3 : Int) (c0 : 240 ≤ b0) (c1 : b0 < 248) (r1 : 128 ≤ b1) (s1 : b1 < 192) (r2 : 128 ≤ b2) (s2 : b2 < 192) (r3 : 192 ≤ b3) (s3 : b3 < 256) (w : World) (k0 : w.cell? ⟨g, 0, none⟩ = some (.int .u8 b0)) (k1 : w.cell? ⟨g, 1, none⟩ = some (.int .u8 b1)) (k2 : w.cell? ⟨g, 2, none⟩ = some (.int .u8 b2)) (k3 : w.cell? ⟨g, 3, none⟩ = some (.int .u8 b3)) :
    Calls Try.prog 54 #[.slice (some ⟨g, 0, none⟩) 4 cap] w fun e w' => e = .returned (.tuple #[.int .i64 0, .int .i64 1, .int .i64 0]) ∧ w = w' := by
  have t0 : decide (b0 < 128) = false := by simp; omega
  have t1 : decide (b0 ≥ 192) = true := by simp; omega
  have t2 : decide (192 ≤ b0) = true := by simp; omega
  have t3 : decide (b0 < 224) = false := by simp; omega
  have t4 : decide (b0 ≥ 224) = true := by simp; omega
  have t5 : decide (224 ≤ b0) = true := by simp; omega
  have t6 : decide (b0 < 240) = false := by simp; omega
  have t7 : decide (b0 ≥ 240) = true := by simp; omega
  have t8 : decide (240 ≤ b0) = true := by simp; omega
  have t9 : decide (b0 < 248) = true := by simp; omega
  have t10 : decide (b1 < 128) = false := by simp; omega
  have t11 : decide (b1 ≥ 192) = false := by simp; omega
  have t12 : decide (192 ≤ b1) = false := by simp; omega
  have t13 : decide (b2 < 128) = false := by simp; omega
  have t14 : decide (b2 ≥ 192) = false := by simp; omega
  have t15 : decide (192 ≤ b2) = false := by simp; omega
  have t16 : decide (b3 < 128) = false := by simp; omega
  have t17 : decide (b3 ≥ 192) = true := by simp; omega
  have t18 : decide (192 ≤ b3) = true := by simp; omega
  go_enter Try.func54, Try.ntmps54
  go_wp2_with fail
  refine wp_loop_rounds 4 ?_
  rw [rounds_succ]
  go_wp2_with fail
  rw [rounds_succ]
  go_wp2_with fail
  rw [rounds_succ]
  go_wp2_with fail
  go_ret3
  exact ⟨ret3v rfl (congrArg (Value.int .i64) (by omega)) (congrArg (Value.int .i64) (by omega)), rfl⟩
set_option maxHeartbeats 2000000 in
set_option maxRecDepth 100000 in
theorem span_hi (g cap : Nat) (b0 : Int) (c0 : 248 ≤ b0) (c1 : b0 < 256) (w : World) (k0 : w.cell? ⟨g, 0, none⟩ = some (.int .u8 b0)) :
    Calls Try.prog 54 #[.slice (some ⟨g, 0, none⟩) 1 cap] w fun e w' => e = .returned (.tuple #[.int .i64 0, .int .i64 1, .int .i64 0]) ∧ w = w' := by
  have t0 : decide (b0 < 128) = false := by simp; omega
  have t1 : decide (b0 ≥ 192) = true := by simp; omega
  have t2 : decide (192 ≤ b0) = true := by simp; omega
  have t3 : decide (b0 < 224) = false := by simp; omega
  have t4 : decide (b0 ≥ 224) = true := by simp; omega
  have t5 : decide (224 ≤ b0) = true := by simp; omega
  have t6 : decide (b0 < 240) = false := by simp; omega
  have t7 : decide (b0 ≥ 240) = true := by simp; omega
  have t8 : decide (240 ≤ b0) = true := by simp; omega
  have t9 : decide (b0 < 248) = false := by simp; omega
  go_enter Try.func54, Try.ntmps54
  go_wp2_with fail
  go_ret3
  exact ⟨ret3v rfl (congrArg (Value.int .i64) (by omega)) (congrArg (Value.int .i64) (by omega)), rfl⟩
end Go.Proofs.Ytlfkhfmepcnfeaa.Utf
