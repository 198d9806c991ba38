/- Plain words for Escape; the walk of quarryref15.one. -/
import Derived.Test.YtlfkhfmepcnfeaaUnP
namespace Go.Proofs.Ytlfkhfmepcnfeaa.Txt
set_option linter.unusedVariables false
set_option linter.unusedSimpArgs false
open Go.RowKit Go.Proofs.Ytlfkhfmepcnfeaa.Mem Go.Proofs.Ytlfkhfmepcnfeaa.Own Go.Proofs.Ytlfkhfmepcnfeaa.Utf Go.Proofs.Ytlfkhfmepcnfeaa.Bld

def hexD (n : Nat) : UInt8 := UInt8.ofNat (if n < 10 then 48 + n else 87 + n)
def escN (n : Nat) : List UInt8 :=
  if n = 34 then [92, 34] else if n = 92 then [92, 92] else if n = 8 then [92, 98] else if n = 12 then [92, 102] else if n = 10 then [92, 110] else if n = 13 then [92, 114] else if n = 9 then [92, 116]
  else if n < 32 then [92, 117, 48, 48, hexD (n / 16), hexD (n % 16)] else [UInt8.ofNat n]
/-- A byte as Escape has it. -/
def esc1 (x : UInt8) : List UInt8 := escN x.toNat
def escL (l : List UInt8) : List UInt8 := l.flatMap esc1
theorem two_hex : ∀ n : Fin 32, (⟨#[92, 117, 48, 48]⟩ : ByteArray) ++ (⟨#[48, 49, 50, 51, 52, 53, 54, 55, 56, 57, 97, 98, 99, 100, 101, 102]⟩ : ByteArray).extract (n.val / 16) (n.val / 16 + 1) ++ (⟨#[48, 49, 50, 51, 52, 53, 54, 55, 56, 57, 97, 98, 99, 100, 101, 102]⟩ : ByteArray).extract (n.val % 16) (n.val % 16 + 1) = ⟨#[92, 117, 48, 48, hexD (n.val / 16), hexD (n.val % 16)]⟩ := by decide +kernel
theorem escN_low {n : Nat} (h : n < 32) (h1 : n ≠ 8) (h2 : n ≠ 12) (h3 : n ≠ 10) (h4 : n ≠ 13) (h5 : n ≠ 9) : escN n = [92, 117, 48, 48, hexD (n / 16), hexD (n % 16)] := by
  unfold escN
  rw [if_neg (by omega), if_neg (by omega), if_neg h1, if_neg h2, if_neg h3, if_neg h4, if_neg h5, if_pos h]
theorem escN_self {n : Nat} (h : ¬ n < 32) (h1 : n ≠ 34) (h2 : n ≠ 92) : escN n = [UInt8.ofNat n] := by
  unfold escN
  rw [if_neg h1, if_neg h2, if_neg (by omega), if_neg (by omega), if_neg (by omega), if_neg (by omega), if_neg (by omega), if_neg h]
theorem beq_ne {n : Nat} {k : Int} (h : ((n : Int) == k) = false) : (n : Int) ≠ k := by rwa [beq_eq_false_iff_ne] at h
theorem beq_nat {n : Nat} {k : Nat} (h : ((n : Int) == (k : Int)) = true) : n = k := by rw [beq_iff_eq] at h; omega
set_option maxHeartbeats 4000000 in
theorem rone_w (x : UInt8) (w : World) : Calls Try.prog 36 #[.int .u8 (x.toNat : Int)] w fun e w' => e = .returned (.string ⟨(esc1 x).toArray⟩) ∧ Below w.heap.size w w' := by
  have hx := x.toNat_lt
  unfold esc1
  generalize x.toNat = n at *
  have hcv : (convert 31 9 (.slice (some ⟨w.heap.size, 0, none⟩) 1 1)).run Try.prog (w.alloc (.cells #[.int .u8 (n : Int)] 5)) = .ok (.string ⟨[UInt8.ofNat n].toArray⟩) (w.alloc (.cells #[.int .u8 (n : Int)] 5)) :=
    run_convert_bytes_back (P := Try.prog) _ 31 9 5 ⟨w.heap.size, 0, none⟩ 1 [UInt8.ofNat n] Try.underlying31 Try.underlying5 Try.underlying9 (by
      intro j hj
      obtain rfl : j = 0 := by simpa using hj
      have h : (w.alloc (.cells #[.int .u8 (n : Int)] 5)).cell? ⟨w.heap.size, 0, none⟩ = some (.int .u8 (n : Int)) := Blk.cell (Blk.new w _ _) 0
      rw [show (⟨w.heap.size, 0, none⟩ : Addr).add 0 = ⟨w.heap.size, 0, none⟩ by simp [Addr.add], h]
      simp only [List.getElem_cons_zero]
      rw [show ((UInt8.ofNat n).toNat : Int) = (n : Int) by rw [UInt8.toNat_ofNat']; omega])
  go_enter Try.func36, Try.ntmps36
  go_wp2_with fail
  all_goals first
    | (go_ret
       rename_i h
       have e : n = _ := beq_nat h
       subst e
       exact ⟨rfl, Below.refl _ _⟩)
    | skip
  · rename_i h34 h92 h8 h12 h10 h13 h9 _ _ hlow _ _
    have hl : n < 32 := by omega
    have hE := escN_low hl (fun e => beq_ne h8 (by omega)) (fun e => beq_ne h12 (by omega)) (fun e => beq_ne h10 (by omega)) (fun e => beq_ne h13 (by omega)) (fun e => beq_ne h9 (by omega))
    have hT := two_hex ⟨n, hl⟩
    have HE := Lib.hid hE; have HT := Lib.hid hT
    clear hE hT
    have hsm : ∀ w1 : World, (Instr.slice 9 (.string ⟨#[48, 49, 50, 51, 52, 53, 54, 55, 56, 57, 97, 98, 99, 100, 101, 102]⟩) (some (.int .u8 ((n : Int) % 16))) (some (.int .u8 ((n : Int) % 16 + 1))) none).run Try.prog w1 = .ok (.string ((⟨#[48, 49, 50, 51, 52, 53, 54, 55, 56, 57, 97, 98, 99, 100, 101, 102]⟩ : ByteArray).extract (n % 16) (n % 16 + 1))) w1 := fun w1 => by
      have h := run_slice_string (P := Try.prog) w1 9 ⟨#[48, 49, 50, 51, 52, 53, 54, 55, 56, 57, 97, 98, 99, 100, 101, 102]⟩ .u8 .u8 ((n : Int) % 16) ((n : Int) % 16 + 1) Try.underlying9 (by omega) (by omega) (by show (n : Int) % 16 + 1 ≤ 16; omega)
      rw [show ((n : Int) % 16).toNat = n % 16 by omega, show ((n : Int) % 16 + 1).toNat = n % 16 + 1 by omega] at h
      exact h
    have hsd : ∀ w1 : World, (Instr.slice 9 (.string ⟨#[48, 49, 50, 51, 52, 53, 54, 55, 56, 57, 97, 98, 99, 100, 101, 102]⟩) (some (.int .u8 ((n : Int) / 16))) (some (.int .u8 ((n : Int) / 16 + 1))) none).run Try.prog w1 = .ok (.string ((⟨#[48, 49, 50, 51, 52, 53, 54, 55, 56, 57, 97, 98, 99, 100, 101, 102]⟩ : ByteArray).extract (n / 16) (n / 16 + 1))) w1 := fun w1 => by
      have h := run_slice_string (P := Try.prog) w1 9 ⟨#[48, 49, 50, 51, 52, 53, 54, 55, 56, 57, 97, 98, 99, 100, 101, 102]⟩ .u8 .u8 ((n : Int) / 16) ((n : Int) / 16 + 1) Try.underlying9 (by omega) (by omega) (by show (n : Int) / 16 + 1 ≤ 16; omega)
      rw [show ((n : Int) / 16).toNat = n / 16 by omega, show ((n : Int) / 16 + 1).toNat = n / 16 + 1 by omega] at h
      exact h
    go_region
    go_wp2
    go_ret
    refine ⟨?_, Below.drew (Below.refl _ w)⟩
    rw [HE.out]
    exact congrArg (fun x => Ending.returned (.string x)) HT.out
  · rename_i h34 h92 h8 h12 h10 h13 h9 hhigh
    go_ret
    rw [escN_self (by omega) (fun e => beq_ne h34 (by omega)) (fun e => beq_ne h92 (by omega))]
    exact ⟨rfl, (Below.refl _ w).alloc (Nat.le_refl _) _⟩
end Go.Proofs.Ytlfkhfmepcnfeaa.Txt
