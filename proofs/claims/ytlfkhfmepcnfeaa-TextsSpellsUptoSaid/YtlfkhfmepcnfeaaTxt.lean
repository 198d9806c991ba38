/- Plain words for what stands between quotes; the walks of texts.four and texts.one. -/
import Derived.Test.YtlfkhfmepcnfeaaBldR
import Derived.Test.YtlfkhfmepcnfeaaEndsT
namespace Go.Proofs.Ytlfkhfmepcnfeaa.Txt
set_option linter.unusedVariables false
set_option linter.unusedSimpArgs false
open Go.RowKit Go.Proofs.Ytlfkhfmepcnfeaa.Mem Go.Proofs.Ytlfkhfmepcnfeaa.Own Go.Proofs.Ytlfkhfmepcnfeaa.Utf

/-- A digit of base 16; -1: it is none. -/
def digF (x : Int) : Int := if 48 ≤ x ∧ x ≤ 57 then x - 48 else if 97 ≤ x ∧ x ≤ 102 then x - 87 else if 65 ≤ x ∧ x ≤ 70 then x - 55 else -1
theorem digF_le (x : Int) : -1 ≤ digF x ∧ digF x ≤ 15 := by unfold digF; repeat' split <;> omega
def dg (l : List UInt8) (i : Nat) : Int := digF ((l.getD i 0).toNat : Int)
theorem dg_le (l : List UInt8) (i : Nat) : -1 ≤ dg l i ∧ dg l i ≤ 15 := digF_le _
/-- The first k digits behind the two first bytes. -/
def valF (l : List UInt8) : Nat → Int
  | 0 => 0
  | k + 1 => valF l k * 16 + dg l (k + 2)
def digs (l : List UInt8) (k : Nat) : Prop := ∀ j, j < k → 0 ≤ dg l (j + 2)
theorem valF_bound (l : List UInt8) : ∀ k, digs l k → 0 ≤ valF l k ∧ valF l k < 16 ^ k
  | 0, _ => by simp [valF]
  | k + 1, h => by
    have ih := valF_bound l k fun j hj => h j (by omega)
    have h1 := h k (by omega)
    have h2 := dg_le l (k + 2)
    have e : (16 : Int) ^ (k + 1) = 16 ^ k * 16 := by rw [Int.pow_succ]
    simp only [valF]
    omega
/-- An escape of four digits: what it means, and how many bytes it has; 0: there is none. -/
def fourL (l : List UInt8) : Int × Nat := if 6 ≤ l.length ∧ 0 ≤ dg l 2 ∧ 0 ≤ dg l 3 ∧ 0 ≤ dg l 4 ∧ 0 ≤ dg l 5 then (valF l 4, 6) else (0, 0)
def small (x : Int) : Int := if x = 98 then 8 else if x = 102 then 12 else if x = 110 then 10 else if x = 114 then 13 else if x = 116 then 9 else if x = 47 ∨ x = 34 ∨ x = 92 then x else -1
/-- The escape that begins there. -/
def oneL (l : List UInt8) : Int × Nat :=
  if l.length < 2 ∨ ((l.getD 0 0).toNat : Int) ≠ 92 then (0, 0)
  else if ((l.getD 1 0).toNat : Int) = 117 then fourL l
  else if small ((l.getD 1 0).toNat : Int) < 0 then (0, 0) else (small ((l.getD 1 0).toNat : Int), 2)
theorem hexs : ∀ n : Fin 256, (if (n.val : Int) < 48 then (-1 : Int) else Lib.indexByte [48, 49, 50, 51, 52, 53, 54, 55, 56, 57, 97, 98, 99, 100, 101, 102] (UInt8.ofNat (bits BinOp.or IntKind.u8 (n.val : Int) 32).toNat)) = digF (n.val : Int) := by decide +kernel
def hexI (x : UInt8) : Int := Lib.indexByte [48, 49, 50, 51, 52, 53, 54, 55, 56, 57, 97, 98, 99, 100, 101, 102] (UInt8.ofNat (bits BinOp.or IntKind.u8 (x.toNat : Int) 32).toNat)
theorem hex_at (x : UInt8) : (if (x.toNat : Int) < 48 then (-1 : Int) else hexI x) = digF (x.toNat : Int) := hexs ⟨x.toNat, x.toNat_lt⟩
theorem hex_w (x : UInt8) (w : World) : Calls Try.prog 23 #[.string ⟨#[48, 49, 50, 51, 52, 53, 54, 55, 56, 57, 97, 98, 99, 100, 101, 102]⟩, .int .u8 (bits BinOp.or IntKind.u8 (x.toNat : Int) 32)] w fun e w' => e = .returned (.int .i64 (hexI x)) ∧ w' = w :=
  Try.strings_IndexByte _ _ _
theorem or_four {x y : Int} (hx₀ : 0 ≤ x) (hx : x % 16 = 0) (hx₁ : x < 2147483648) (h₀ : 0 ≤ y) (h₁ : y < 16) : bits .or .i32 x y = x + y :=
  bits_join .i32 31 (by decide) wraps_i32 4 x y hx₀ hx hx₁ h₀ h₁ (by omega)
theorem dg_at (s : ByteArray) (k : Nat) (h : k < s.size) : dg s.data.toList k = digF (s[k].toNat : Int) := by rw [dg, ← Ends.get_eq s k h]
theorem pow_le4 {k : Nat} (h : k ≤ 4) : (16 : Int) ^ k ≤ 65536 := by
  match k, h with
  | 0, _ | 1, _ | 2, _ | 3, _ | 4, _ => decide
set_option maxHeartbeats 4000000 in
theorem four_w (s : ByteArray) (w : World) : Calls Try.prog 46 #[.string s] w fun e w' => e = .returned (.tuple #[.int .i32 (fourL s.data.toList).1, .int .i64 ((fourL s.data.toList).2 : Nat)]) ∧ w = w' := by
  by_cases h6 : s.size < 6
  · have hf : fourL s.data.toList = (0, 0) := by unfold fourL; rw [if_neg (by simp; omega)]
    have HF := Lib.hid hf; clear hf
    go_enter Try.func46, Try.ntmps46
    go_wp2_with fail
    go_ret2
    exact ⟨by rw [HF.out]; rfl, rfl⟩
  · have t6 : decide ((s.size : Int) < 6) = false := by simp; omega
    go_enter Try.func46, Try.ntmps46
    go_wp2_with fail
    go_loop [4, 5] (fun r i => ∃ k : Nat, k ≤ 4 ∧ i = .int .i64 ((k : Int) + 2) ∧ r = .int .i32 (valF s.data.toList k) ∧ Hid (digs s.data.toList k)) (fun r i => 8 - (intOf i).toNat)
    case atStart => exact ⟨0, by omega, rfl, rfl, fun j hj => by omega⟩
    case round =>
      obtain ⟨k, hk, rfl, rfl, hd⟩ := hrel
      by_cases hk4 : k < 4
      · have t0 : decide ((k : Int) + 2 < 6) = true := by simp; omega
        have hlt : k + 2 < s.size := by omega
        have hX := hex_at s[k + 2]
        have hD := dg_at s (k + 2) hlt
        rw [← hD] at hX
        have hval := valF_bound _ k hd.out
        have hpow := pow_le4 hk
        have hdle := dg_le s.data.toList (k + 2)
        clear hD
        have hno : dg s.data.toList (k + 2) < 0 → fourL s.data.toList = (0, 0) := fun h => by
          unfold fourL
          rw [if_neg]
          rintro ⟨-, h2, h3, h4, h5⟩
          match k, hk4 with
          | 0, _ => exact absurd h (by show ¬(dg s.data.toList 2 < 0); omega)
          | 1, _ => exact absurd h (by show ¬(dg s.data.toList 3 < 0); omega)
          | 2, _ => exact absurd h (by show ¬(dg s.data.toList 4 < 0); omega)
          | 3, _ => exact absurd h (by show ¬(dg s.data.toList 5 < 0); omega)
        have HN := Lib.hid hno; clear hno
        by_cases hx : (s[k + 2].toNat : Int) < 48
        · have t1 : decide ((s[k + 2].toNat : Int) < 48) = true := by simpa using hx
          rw [if_pos hx] at hX
          clear hx
          go_wp2_with fail
          refine (hex_w s[k + 2] _).mono ?_
          rintro e w' ⟨rfl, rfl⟩
          go_wp2_with fail
          go_ret2
          exact ⟨by rw [HN.out (by omega)]; rfl, rfl⟩
        · have t1 : decide ((s[k + 2].toNat : Int) < 48) = false := by simpa using hx
          rw [if_neg hx] at hX
          clear hx
          by_cases hd0 : dg s.data.toList (k + 2) < 0
          · have t2 : decide (hexI s[k + 2] < 0) = true := by rw [hX]; simpa using hd0
            go_wp2_with fail
            refine (hex_w s[k + 2] _).mono ?_
            rintro e w' ⟨rfl, rfl⟩
            go_wp2_with fail
            go_ret2
            exact ⟨by rw [HN.out hd0]; rfl, rfl⟩
          · have t2 : decide (hexI s[k + 2] < 0) = false := by rw [hX]; simpa using hd0
            have HX := Lib.hid hX; clear hX
            go_wp2_with fail
            refine (hex_w s[k + 2] _).mono ?_
            rintro e w' ⟨rfl, rfl⟩
            go_wp2_with fail
            rw [HX.out]
            have e1 : wrap32 (valF s.data.toList k * 16) = valF s.data.toList k * 16 := by simp only [wrap32]; omega
            have e2 : wrap32 (dg s.data.toList (k + 2)) = dg s.data.toList (k + 2) := by simp only [wrap32]; omega
            have hpow' : (16 : Int) ^ k < 134217728 := by omega
            have e3 : bits BinOp.or IntKind.i32 (valF s.data.toList k * 16) (wrap32 (dg s.data.toList (k + 2))) = valF s.data.toList (k + 1) := by
              rw [e2, or_four (by omega) (by omega) (by omega) (by omega) (by omega)]; rfl
            rw [e3]
            refine ⟨⟨k + 1, by omega, by congr 1, rfl, ?_⟩, by simp [intOf]; omega⟩
            intro j hj
            by_cases hjk : j < k
            · exact hd.out j hjk
            · obtain rfl : j = k := by omega
              omega
      · obtain rfl : k = 4 := by omega
        have t0 : decide ((4 : Int) + 2 < 6) = false := by decide
        go_wp2_with fail
        go_ret2
        refine ⟨?_, rfl⟩
        have hf : fourL s.data.toList = (valF s.data.toList 4, 6) := by
          unfold fourL
          rw [if_pos ⟨by simp; omega, hd.out 0 (by omega), hd.out 1 (by omega), hd.out 2 (by omega), hd.out 3 (by omega)⟩]
        rw [hf]; rfl
theorem b_at (s : ByteArray) (k : Nat) (h : k < s.size) : (s.data.toList.getD k 0) = s[k] := (Ends.get_eq s k h).symm
theorem bit {P : Bool} {α : Type} {a b : α} (h : P = false) : (if P = true then a else b) = b := by rw [h]; rfl
theorem bit' {P : Bool} {α : Type} {a b : α} (h : P = true) : (if P = true then a else b) = a := by rw [h]; rfl
theorem oneL_eq (l : List UInt8) (x y : Int) (hl : ¬ l.length < 2) (hx : ((l.getD 0 0).toNat : Int) = x) (hy : ((l.getD 1 0).toNat : Int) = y) (hy0 : 0 ≤ y) : oneL l =
    if (x != 92) = true then (0, 0) else if (y == 117) = true then fourL l else if (y == 98) = true then (8, 2) else if (y == 102) = true then (12, 2) else if (y == 110) = true then (10, 2) else if (y == 114) = true then (13, 2) else if (y == 116) = true then (9, 2) else if (y == 47) = true then (y, 2) else if (y == 34) = true then (y, 2) else if (y == 92) = true then (y, 2) else (0, 0) := by
  unfold oneL
  rw [hx, hy]
  unfold small
  simp only [hl, false_or, bne_iff_ne, beq_iff_eq]
  by_cases h0 : x = 92
  · subst h0
    simp only [ne_eq, not_true_eq_false, if_false]
    by_cases h1 : y = 117
    · rw [if_pos h1, if_pos h1]
    rw [if_neg h1, if_neg h1]
    by_cases h2 : y = 98
    · simp [h2]
    by_cases h3 : y = 102
    · simp [h3]
    by_cases h4 : y = 110
    · simp [h4]
    by_cases h5 : y = 114
    · simp [h5]
    by_cases h6 : y = 116
    · simp [h6]
    by_cases h7 : y = 47
    · simp [h7]
    by_cases h8 : y = 34
    · simp [h8]
    by_cases h9 : y = 92
    · simp [h9]
    simp [h2, h3, h4, h5, h6, h7, h8, h9]
  · rw [if_pos h0, if_pos h0]
set_option maxHeartbeats 4000000 in
theorem one_w (s : ByteArray) (w : World) : Calls Try.prog 32 #[.string s] w fun e w' => e = .returned (.tuple #[.int .i32 (oneL s.data.toList).1, .int .i64 ((oneL s.data.toList).2 : Nat)]) ∧ w = w' := by
  by_cases h2 : s.size < 2
  · have hf : oneL s.data.toList = (0, 0) := by unfold oneL; rw [if_pos (.inl (by simp; omega))]
    have t2 : decide ((s.size : Int) < 2) = true := by simp; omega
    have HF := Lib.hid hf; clear hf
    go_enter Try.func32, Try.ntmps32
    go_wp2_with fail
    go_ret2
    exact ⟨by rw [HF.out]; rfl, rfl⟩
  · have t2 : decide ((s.size : Int) < 2) = false := by simp; omega
    have l0 : 0 < s.size := by omega
    have l1 : 1 < s.size := by omega
    have hw : wrap32 (s[1].toNat : Int) = (s[1].toNat : Int) := by have := s[1].toNat_lt; simp only [wrap32]; omega
    have HO := Lib.hid (oneL_eq s.data.toList (s[0].toNat : Int) (s[1].toNat : Int) (by simp; omega) (by rw [b_at s 0 l0]) (by rw [b_at s 1 l1]) (by omega))
    go_enter Try.func32, Try.ntmps32
    go_wp2_with (refine (four_w s _).mono ?_; rintro e w' ⟨rfl, rfl⟩)
    all_goals
      go_ret2
      refine ⟨?_, rfl⟩
      rw [HO.out]
      repeat (first | rw [bit (by assumption)] | rw [bit' (by assumption)])
      first | rfl | (show Ending.returned (.tuple #[.int .i32 (wrap32 (s[1].toNat : Int)), .int .i64 2]) = _; rw [hw]; rfl)
end Go.Proofs.Ytlfkhfmepcnfeaa.Txt
