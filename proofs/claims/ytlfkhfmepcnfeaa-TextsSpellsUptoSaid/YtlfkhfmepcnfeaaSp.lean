/- The walk of quarrylaw15.four. -/
import Derived.Test.YtlfkhfmepcnfeaaMeans
import Derived.Test.YtlfkhfmepcnfeaaLawB
namespace Go.Proofs.Ytlfkhfmepcnfeaa.Txt
set_option linter.unusedVariables false
set_option linter.unusedSimpArgs false
open Go.RowKit Go.Proofs.Ytlfkhfmepcnfeaa.Mem Go.Proofs.Ytlfkhfmepcnfeaa.Own Go.Proofs.Ytlfkhfmepcnfeaa.Utf Go.Proofs.Ytlfkhfmepcnfeaa.Bld

/-- A digit of base 16, small or great. -/
def hx (g : Bool) (d : Nat) : UInt8 := if g then UInt8.ofNat (if d < 10 then 48 + d else 55 + d) else hexD d
def digB (g : Bool) : ByteArray := if g then ⟨#[48, 49, 50, 51, 52, 53, 54, 55, 56, 57, 65, 66, 67, 68, 69, 70]⟩ else ⟨#[48, 49, 50, 51, 52, 53, 54, 55, 56, 57, 97, 98, 99, 100, 101, 102]⟩
def hxB (g : Bool) (d : Nat) : ByteArray := ⟨#[hx g d]⟩
theorem dig_cut : ∀ (g : Bool) (d : Fin 16), (digB g).extract d.val (d.val + 1) = hxB g d.val := by decide +kernel
theorem hx_dig : ∀ (g : Bool) (d : Fin 16), digF ((hx g d.val).toNat : Int) = (d.val : Int) := by decide +kernel
theorem sl_dig (g : Bool) (i : Int) (d : Nat) (hi : i = (d : Int)) (hd : d < 16) (w1 : World) : (Instr.slice 9 (.string (digB g)) (some (.int .i64 i)) (some (.int .i64 (i + 1))) none).run Try.prog w1 = .ok (.string (hxB g d)) w1 := by
  subst hi
  have hs : (digB g).size = 16 := by cases g <;> rfl
  have h := run_slice_string (P := Try.prog) w1 9 (digB g) .i64 .i64 (d : Int) ((d : Int) + 1) Try.underlying9 (by omega) (by omega) (by rw [hs]; omega)
  rw [show (d : Int).toNat = d by omega, show ((d : Int) + 1).toNat = d + 1 by omega, dig_cut g ⟨d, hd⟩] at h
  exact h
theorem and15 (x : Int) (h0 : 0 ≤ x) (h1 : x < 65536) : bits BinOp.and IntKind.i64 x 15 = x % 16 :=
  bits_mask .i64 62 (by decide) (fun n h0 h1 => by rw [IntKind.wrap_i64]; omega) 4 (by decide) x h0 (by omega)
def fourS (g : Bool) (n : Nat) : Nat → ByteArray
  | 0 => ⟨#[92, 117]⟩
  | j + 1 => fourS g n j ++ hxB g (n / 16 ^ (3 - j) % 16)
theorem fourS_size (g : Bool) (n : Nat) : ∀ j, (fourS g n j).size = 2 + j
  | 0 => rfl
  | j + 1 => by rw [fourS, ByteArray.size_append, fourS_size g n j]; show 2 + j + 1 = _; omega
set_option maxHeartbeats 4000000 in
theorem fourlaw_w (n : Nat) (hn : n < 65536) (g : Bool) (w : World) : Calls Try.prog 41 #[.int .i64 (n : Int), .bool g] w fun e w' => e = .returned (.string (fourS g n 4)) ∧ w = w' := by
  have h0 : fourS g n 0 = ⟨#[92, 117]⟩ := rfl
  have S1 := Lib.hid (fun w1 => sl_dig g ((n : Int) / 4096 % 16) (n / 4096 % 16) (by omega) (by omega) w1)
  have S2 := Lib.hid (fun w1 => sl_dig g ((n : Int) / 256 % 16) (n / 256 % 16) (by omega) (by omega) w1)
  have S3 := Lib.hid (fun w1 => sl_dig g ((n : Int) / 16 % 16) (n / 16 % 16) (by omega) (by omega) w1)
  have S4 := Lib.hid (fun w1 => sl_dig g ((n : Int) % 16) (n % 16) (by omega) (by omega) w1)
  cases g with
  | false =>
    go_enter Try.func41, Try.ntmps41
    go_wp2_with fail
    go_loop [6, 7] (fun s k => ∃ j : Nat, j ≤ 4 ∧ s = .string (fourS false n j) ∧ k = .int .i64 (12 - 4 * (j : Int))) (fun s k => (intOf k + 4).toNat)
    case atStart => exact ⟨0, by omega, rfl, rfl⟩
    case round =>
      obtain ⟨j, hj, rfl, rfl⟩ := hrel
      have hsz := fourS_size false n j
      obtain rfl | rfl | rfl | rfl | rfl : j = 0 ∨ j = 1 ∨ j = 2 ∨ j = 3 ∨ j = 4 := by omega
      · have hsl : ∀ w1 : World, (Instr.slice 9 (.string ⟨#[48, 49, 50, 51, 52, 53, 54, 55, 56, 57, 97, 98, 99, 100, 101, 102]⟩) (some (.int .i64 ((n : Int) / 4096 % 16))) (some (.int .i64 ((n : Int) / 4096 % 16 + 1))) none).run Try.prog w1 = .ok (.string (hxB false (n / 4096 % 16))) w1 := S1.out
        have hb : bits BinOp.and IntKind.i64 ((n : Int) / 4096) 15 = (n : Int) / 4096 % 16 := and15 _ (by omega) (by omega)
        have hst : fourS false n 1 = fourS false n 0 ++ hxB false (n / 4096 % 16) := by show _ ++ hxB false (n / _ % 16) = _; first | rfl | (rw [Nat.div_one])
        have hh : (hxB false (n / 4096 % 16)).size = 1 := rfl
        have HST := Lib.hid hst; clear hst
        generalize fourS false n 0 = F at *
        generalize hxB false (n / 4096 % 16) = X at *
        go_wp2_with fail
        refine ⟨⟨1, by omega, by rw [HST.out, h0], by congr 1⟩, by simp [intOf]⟩
      · have hsl : ∀ w1 : World, (Instr.slice 9 (.string ⟨#[48, 49, 50, 51, 52, 53, 54, 55, 56, 57, 97, 98, 99, 100, 101, 102]⟩) (some (.int .i64 ((n : Int) / 256 % 16))) (some (.int .i64 ((n : Int) / 256 % 16 + 1))) none).run Try.prog w1 = .ok (.string (hxB false (n / 256 % 16))) w1 := S2.out
        have hb : bits BinOp.and IntKind.i64 ((n : Int) / 256) 15 = (n : Int) / 256 % 16 := and15 _ (by omega) (by omega)
        have hst : fourS false n 2 = fourS false n 1 ++ hxB false (n / 256 % 16) := by show _ ++ hxB false (n / _ % 16) = _; first | rfl | (rw [Nat.div_one])
        have hh : (hxB false (n / 256 % 16)).size = 1 := rfl
        have HST := Lib.hid hst; clear hst
        generalize fourS false n 1 = F at *
        generalize hxB false (n / 256 % 16) = X at *
        go_wp2_with fail
        refine ⟨⟨2, by omega, by rw [HST.out], by congr 1⟩, by simp [intOf]⟩
      · have hsl : ∀ w1 : World, (Instr.slice 9 (.string ⟨#[48, 49, 50, 51, 52, 53, 54, 55, 56, 57, 97, 98, 99, 100, 101, 102]⟩) (some (.int .i64 ((n : Int) / 16 % 16))) (some (.int .i64 ((n : Int) / 16 % 16 + 1))) none).run Try.prog w1 = .ok (.string (hxB false (n / 16 % 16))) w1 := S3.out
        have hb : bits BinOp.and IntKind.i64 ((n : Int) / 16) 15 = (n : Int) / 16 % 16 := and15 _ (by omega) (by omega)
        have hst : fourS false n 3 = fourS false n 2 ++ hxB false (n / 16 % 16) := by show _ ++ hxB false (n / _ % 16) = _; first | rfl | (rw [Nat.div_one])
        have hh : (hxB false (n / 16 % 16)).size = 1 := rfl
        have HST := Lib.hid hst; clear hst
        generalize fourS false n 2 = F at *
        generalize hxB false (n / 16 % 16) = X at *
        go_wp2_with fail
        refine ⟨⟨3, by omega, by rw [HST.out], by congr 1⟩, by simp [intOf]⟩
      · have hsl : ∀ w1 : World, (Instr.slice 9 (.string ⟨#[48, 49, 50, 51, 52, 53, 54, 55, 56, 57, 97, 98, 99, 100, 101, 102]⟩) (some (.int .i64 ((n : Int) % 16))) (some (.int .i64 ((n : Int) % 16 + 1))) none).run Try.prog w1 = .ok (.string (hxB false (n % 16))) w1 := S4.out
        have hb : bits BinOp.and IntKind.i64 ((n : Int)) 15 = (n : Int) % 16 := and15 _ (by omega) (by omega)
        have hst : fourS false n 4 = fourS false n 3 ++ hxB false (n % 16) := by show _ ++ hxB false (n / _ % 16) = _; first | rfl | (rw [Nat.div_one])
        have hh : (hxB false (n % 16)).size = 1 := rfl
        have HST := Lib.hid hst; clear hst
        generalize fourS false n 3 = F at *
        generalize hxB false (n % 16) = X at *
        go_wp2_with fail
        refine ⟨⟨4, by omega, by rw [HST.out], by congr 1⟩, by simp [intOf]⟩
      · go_wp2_with fail
        go_ret
        exact ⟨rfl, rfl⟩
  | true =>
    go_enter Try.func41, Try.ntmps41
    go_wp2_with fail
    go_loop [6, 7] (fun s k => ∃ j : Nat, j ≤ 4 ∧ s = .string (fourS true n j) ∧ k = .int .i64 (12 - 4 * (j : Int))) (fun s k => (intOf k + 4).toNat)
    case atStart => exact ⟨0, by omega, rfl, rfl⟩
    case round =>
      obtain ⟨j, hj, rfl, rfl⟩ := hrel
      have hsz := fourS_size true n j
      obtain rfl | rfl | rfl | rfl | rfl : j = 0 ∨ j = 1 ∨ j = 2 ∨ j = 3 ∨ j = 4 := by omega
      · have hsl : ∀ w1 : World, (Instr.slice 9 (.string ⟨#[48, 49, 50, 51, 52, 53, 54, 55, 56, 57, 65, 66, 67, 68, 69, 70]⟩) (some (.int .i64 ((n : Int) / 4096 % 16))) (some (.int .i64 ((n : Int) / 4096 % 16 + 1))) none).run Try.prog w1 = .ok (.string (hxB true (n / 4096 % 16))) w1 := S1.out
        have hb : bits BinOp.and IntKind.i64 ((n : Int) / 4096) 15 = (n : Int) / 4096 % 16 := and15 _ (by omega) (by omega)
        have hst : fourS true n 1 = fourS true n 0 ++ hxB true (n / 4096 % 16) := by show _ ++ hxB true (n / _ % 16) = _; first | rfl | (rw [Nat.div_one])
        have hh : (hxB true (n / 4096 % 16)).size = 1 := rfl
        have HST := Lib.hid hst; clear hst
        generalize fourS true n 0 = F at *
        generalize hxB true (n / 4096 % 16) = X at *
        go_wp2_with fail
        refine ⟨⟨1, by omega, by rw [HST.out, h0], by congr 1⟩, by simp [intOf]⟩
      · have hsl : ∀ w1 : World, (Instr.slice 9 (.string ⟨#[48, 49, 50, 51, 52, 53, 54, 55, 56, 57, 65, 66, 67, 68, 69, 70]⟩) (some (.int .i64 ((n : Int) / 256 % 16))) (some (.int .i64 ((n : Int) / 256 % 16 + 1))) none).run Try.prog w1 = .ok (.string (hxB true (n / 256 % 16))) w1 := S2.out
        have hb : bits BinOp.and IntKind.i64 ((n : Int) / 256) 15 = (n : Int) / 256 % 16 := and15 _ (by omega) (by omega)
        have hst : fourS true n 2 = fourS true n 1 ++ hxB true (n / 256 % 16) := by show _ ++ hxB true (n / _ % 16) = _; first | rfl | (rw [Nat.div_one])
        have hh : (hxB true (n / 256 % 16)).size = 1 := rfl
        have HST := Lib.hid hst; clear hst
        generalize fourS true n 1 = F at *
        generalize hxB true (n / 256 % 16) = X at *
        go_wp2_with fail
        refine ⟨⟨2, by omega, by rw [HST.out], by congr 1⟩, by simp [intOf]⟩
      · have hsl : ∀ w1 : World, (Instr.slice 9 (.string ⟨#[48, 49, 50, 51, 52, 53, 54, 55, 56, 57, 65, 66, 67, 68, 69, 70]⟩) (some (.int .i64 ((n : Int) / 16 % 16))) (some (.int .i64 ((n : Int) / 16 % 16 + 1))) none).run Try.prog w1 = .ok (.string (hxB true (n / 16 % 16))) w1 := S3.out
        have hb : bits BinOp.and IntKind.i64 ((n : Int) / 16) 15 = (n : Int) / 16 % 16 := and15 _ (by omega) (by omega)
        have hst : fourS true n 3 = fourS true n 2 ++ hxB true (n / 16 % 16) := by show _ ++ hxB true (n / _ % 16) = _; first | rfl | (rw [Nat.div_one])
        have hh : (hxB true (n / 16 % 16)).size = 1 := rfl
        have HST := Lib.hid hst; clear hst
        generalize fourS true n 2 = F at *
        generalize hxB true (n / 16 % 16) = X at *
        go_wp2_with fail
        refine ⟨⟨3, by omega, by rw [HST.out], by congr 1⟩, by simp [intOf]⟩
      · have hsl : ∀ w1 : World, (Instr.slice 9 (.string ⟨#[48, 49, 50, 51, 52, 53, 54, 55, 56, 57, 65, 66, 67, 68, 69, 70]⟩) (some (.int .i64 ((n : Int) % 16))) (some (.int .i64 ((n : Int) % 16 + 1))) none).run Try.prog w1 = .ok (.string (hxB true (n % 16))) w1 := S4.out
        have hb : bits BinOp.and IntKind.i64 ((n : Int)) 15 = (n : Int) % 16 := and15 _ (by omega) (by omega)
        have hst : fourS true n 4 = fourS true n 3 ++ hxB true (n % 16) := by show _ ++ hxB true (n / _ % 16) = _; first | rfl | (rw [Nat.div_one])
        have hh : (hxB true (n % 16)).size = 1 := rfl
        have HST := Lib.hid hst; clear hst
        generalize fourS true n 3 = F at *
        generalize hxB true (n % 16) = X at *
        go_wp2_with fail
        refine ⟨⟨4, by omega, by rw [HST.out], by congr 1⟩, by simp [intOf]⟩
      · go_wp2_with fail
        go_ret
        exact ⟨rfl, rfl⟩
end Go.Proofs.Ytlfkhfmepcnfeaa.Txt
