/- The walks of quarryref15's digit, four, Next, High, Low. -/
import Derived.Test.YtlfkhfmepcnfeaaTxt
import Derived.Handy
namespace Go.Proofs.Ytlfkhfmepcnfeaa.Txt
set_option linter.unusedVariables false
set_option linter.unusedSimpArgs false
open Go.RowKit Go.Proofs.Ytlfkhfmepcnfeaa.Mem Go.Proofs.Ytlfkhfmepcnfeaa.Own Go.Proofs.Ytlfkhfmepcnfeaa.Utf

def pieceV (sz : Nat) (m : Int) (f : Bool) : Value := .agg #[.int .i64 (sz : Int), .int .i64 m, .bool f]
set_option maxHeartbeats 1000000 in
theorem digit_w (x : UInt8) (w : World) : Calls Try.prog 51 #[.int .u8 (x.toNat : Int)] w fun e w' => e = .returned (.int .i64 (digF (x.toNat : Int))) ∧ w = w' := by
  have hx := x.toNat_lt
  generalize x.toNat = n at *
  go_enter Try.func51, Try.ntmps51
  go_wp2_with fail
  all_goals
    go_ret
    refine ⟨?_, rfl⟩
    refine congrArg (fun x => Ending.returned (.int .i64 x)) ?_
    unfold digF
    repeat' split
    all_goals first | rfl | omega | (exfalso; simp only [decide_eq_true_eq, decide_eq_false_iff_not, Bool.and_eq_true, Bool.and_eq_false_imp] at *; omega)
set_option maxHeartbeats 4000000 in
theorem rfour_w (s : ByteArray) (w : World) : Calls Try.prog 44 #[.string s] w fun e w' => e = .returned (pieceV (fourL s.data.toList).2 (fourL s.data.toList).1 ((fourL s.data.toList).2 == 6)) ∧ Below w.heap.size w w' := by
  by_cases h6 : s.size < 6
  · have hf : fourL s.data.toList = (0, 0) := by unfold fourL; rw [if_neg (by simp; omega)]
    have HF := Lib.hid hf; clear hf
    go_enter Try.func44, Try.ntmps44
    go_wp2_with fail
    go_returns
    exact ⟨by rw [HF.out]; rfl, by go_grown⟩
  · have t6 : decide ((s.size : Int) < 6) = false := by simp; omega
    go_enter Try.func44, Try.ntmps44
    go_wp2_with fail
    go_loop [3, 4] (fun r i => ∃ k : Nat, k ≤ 4 ∧ i = .int .i64 ((k : Int) + 2) ∧ r = .int .i64 (valF s.data.toList k) ∧ Hid (digs s.data.toList k)) (fun r i => 8 - (intOf i).toNat)
    case atStart => exact ⟨0, by omega, rfl, rfl, fun j hj => by omega⟩
    case round =>
      obtain ⟨k, hk, rfl, rfl, hd⟩ := hrel
      by_cases hk4 : k < 4
      · have t0 : decide ((k : Int) + 2 < 6) = true := by simp; omega
        have hlt : k + 2 < s.size := by omega
        have hD := dg_at s (k + 2) hlt
        have hval := valF_bound _ k hd.out
        have hpow := pow_le4 hk
        have hdle := dg_le s.data.toList (k + 2)
        have HW := Lib.hid (digit_w s[k + 2])
        rw [← hD] at HW
        clear hD
        have hno : dg s.data.toList (k + 2) < 0 → fourL s.data.toList = (0, 0) := fun h => by
          unfold fourL
          rw [if_neg]
          rintro ⟨-, h2, h3, h4, h5⟩
          match k, hk4 with
          | 0, _ => exact absurd h (by show ¬(dg s.data.toList 2 < 0); omega)
          | 1, _ => exact absurd h (by show ¬(dg s.data.toList 3 < 0); omega)
          | 2, _ => exact absurd h (by show ¬(dg s.data.toList 4 < 0); omega)
          | 3, _ => exact absurd h (by show ¬(dg s.data.toList 5 < 0); omega)
        have HN := Lib.hid hno; clear hno
        by_cases hd0 : dg s.data.toList (k + 2) < 0
        · have t2 : decide (dg s.data.toList (k + 2) < 0) = true := by simpa using hd0
          go_wp2_with fail
          refine (HW.out _).mono ?_
          rintro e w' ⟨rfl, rfl⟩
          go_wp2_with fail
          go_returns
          exact ⟨by rw [HN.out hd0]; rfl, by go_grown⟩
        · have t2 : decide (dg s.data.toList (k + 2) < 0) = false := by simpa using hd0
          have hv : valF s.data.toList (k + 1) = valF s.data.toList k * 16 + dg s.data.toList (k + 2) := rfl
          have HV := Lib.hid hv; clear hv
          go_wp2_with fail
          refine (HW.out _).mono ?_
          rintro e w' ⟨rfl, rfl⟩
          go_wp2_with fail
          refine ⟨⟨k + 1, by omega, by congr 1, by rw [HV.out], ?_⟩, by simp [intOf]; omega⟩
          intro j hj
          by_cases hjk : j < k
          · exact hd.out j hjk
          · obtain rfl : j = k := by omega
            omega
      · obtain rfl : k = 4 := by omega
        have t0 : decide ((4 : Int) + 2 < 6) = false := by decide
        go_wp2_with fail
        go_returns
        have hf : fourL s.data.toList = (valF s.data.toList 4, 6) := by
          unfold fourL
          rw [if_pos ⟨by simp; omega, hd.out 0 (by omega), hd.out 1 (by omega), hd.out 2 (by omega), hd.out 3 (by omega)⟩]
        exact ⟨by rw [hf]; rfl, by go_grown⟩
/-- The piece that begins there: how many bytes it has, what it means, is it an escape of four digits. -/
def nextL (l : List UInt8) : Nat × Int × Bool :=
  if ((l.getD 0 0).toNat : Int) < 32 ∨ ((l.getD 0 0).toNat : Int) = 34 then (0, 0, false)
  else if ((l.getD 0 0).toNat : Int) ≠ 92 then (1, ((l.getD 0 0).toNat : Int), false)
  else ((oneL l).2, (oneL l).1, (oneL l).2 == 6)
def pieceOf (p : Nat × Int × Bool) : Value := pieceV p.1 p.2.1 p.2.2
theorem oneL_eq2 (l : List UInt8) (y : Int) (hl : ¬ l.length < 2) (hx : ((l.getD 0 0).toNat : Int) = 92) (hy : ((l.getD 1 0).toNat : Int) = y) (hy0 : 0 ≤ y) : oneL l =
    if (y == 34) = true then (y, 2) else if (y == 92) = true then (y, 2) else if (y == 47) = true then (y, 2) else if (y == 98) = true then (8, 2) else if (y == 102) = true then (12, 2) else if (y == 110) = true then (10, 2) else if (y == 114) = true then (13, 2) else if (y == 116) = true then (9, 2) else if (y == 117) = true then fourL l else (0, 0) := by
  rw [oneL_eq l 92 y hl hx hy hy0]
  simp only [bne_iff_ne, beq_iff_eq, ne_eq, not_true_eq_false, if_false]
  by_cases h1 : y = 117
  · simp [h1]
  by_cases h2 : y = 98
  · simp [h2]
  by_cases h3 : y = 102
  · simp [h3]
  by_cases h4 : y = 110
  · simp [h4]
  by_cases h5 : y = 114
  · simp [h5]
  by_cases h6 : y = 116
  · simp [h6]
  by_cases h7 : y = 47
  · simp [h7]
  by_cases h8 : y = 34
  · simp [h8]
  by_cases h9 : y = 92
  · simp [h9]
  simp [h1, h2, h3, h4, h5, h6, h7, h8, h9]
theorem wrap_b (x : UInt8) : wrap64 (x.toNat : Int) = (x.toNat : Int) := by have := x.toNat_lt; simp only [wrap64]; omega
theorem res_blk {w w1 : World} {cs : Array Value} {T : TypeId} (h : Below (w.alloc (.cells cs T)).heap.size (w.alloc (.cells cs T)) w1) : Blk w1 w.heap.size T cs := (Blk.new w T cs).below h (by simp)
theorem res_below {w w1 : World} {o : Obj} (h : Below (w.alloc o).heap.size (w.alloc o) w1) : Below w.heap.size w w1 := ((Below.refl _ w).alloc (Nat.le_refl _) _).trans (h.mono (by simp))
set_option maxHeartbeats 4000000 in
theorem next_w (s : ByteArray) (h0 : 0 < s.size) (w : World) : Calls Try.prog 27 #[.string s] w fun e w' => e = .returned (pieceOf (nextL s.data.toList)) ∧ Below w.heap.size w w' := by
  have hn : nextL s.data.toList = if (s[0].toNat : Int) < 32 ∨ (s[0].toNat : Int) = 34 then ((0, 0, false) : Nat × Int × Bool) else if (s[0].toNat : Int) ≠ 92 then (1, (s[0].toNat : Int), false) else ((oneL s.data.toList).2, (oneL s.data.toList).1, (oneL s.data.toList).2 == 6) := by
    unfold nextL; rw [b_at s 0 h0]
  by_cases c1 : (s[0].toNat : Int) < 32
  · rw [if_pos (.inl c1)] at hn
    have t1 : decide ((s[0].toNat : Int) < 32) = true := by simpa using c1
    have HN := Lib.hid hn; clear hn c1
    go_enter Try.func27, Try.ntmps27
    go_wp2_with fail
    go_returns
    exact ⟨by rw [HN.out]; rfl, by go_grown⟩
  by_cases c2 : (s[0].toNat : Int) = 34
  · rw [if_pos (.inr c2)] at hn
    have t1 : decide ((s[0].toNat : Int) < 32) = false := by simpa using c1
    have t2 : ((s[0].toNat : Int) == 34) = true := by simpa using c2
    have HN := Lib.hid hn; clear hn c1 c2
    go_enter Try.func27, Try.ntmps27
    go_wp2_with fail
    go_returns
    exact ⟨by rw [HN.out]; rfl, by go_grown⟩
  rw [if_neg (by simp only [not_or]; exact ⟨c1, c2⟩)] at hn
  have t1 : decide ((s[0].toNat : Int) < 32) = false := by simpa using c1
  have t2 : ((s[0].toNat : Int) == 34) = false := by simpa using c2
  clear c1 c2
  by_cases c3 : (s[0].toNat : Int) = 92
  · rw [if_neg (by simpa using c3)] at hn
    have t3 : ((s[0].toNat : Int) != 92) = false := by simpa using c3
    by_cases h2 : s.size < 2
    · have hf : oneL s.data.toList = (0, 0) := by unfold oneL; rw [if_pos (.inl (by simp; omega))]
      rw [hf] at hn
      have t4 : decide ((s.size : Int) < 2) = true := by simp; omega
      have HN := Lib.hid hn; clear hn hf c3
      go_enter Try.func27, Try.ntmps27
      go_wp2_with fail
      go_returns
      exact ⟨by rw [HN.out]; rfl, by go_grown⟩
    · have t4 : decide ((s.size : Int) < 2) = false := by simp; omega
      have l1 : 1 < s.size := by omega
      have hO := oneL_eq2 s.data.toList (s[1].toNat : Int) (by simp; omega) (by rw [b_at s 0 h0]; exact c3) (by rw [b_at s 1 l1]) (by omega)
      have HN := Lib.hid hn; have HO := Lib.hid hO; clear hn hO c3
      go_enter Try.func27, Try.ntmps27
      go_wp2_with (refine (rfour_w s _).mono ?_; rintro e w1 ⟨rfl, hb1⟩; unfold pieceV; have hk := res_blk hb1; have k0 : w1.cell? ⟨w.heap.size, 0, none⟩ = some (.int .i64 0) := hk.cell 0; have k1 : w1.cell? ⟨w.heap.size, 1, none⟩ = some (.int .i64 0) := hk.cell 1; have k2 : w1.cell? ⟨w.heap.size, 2, none⟩ = some (.bool false) := hk.cell 2; have f0 := hk.frozen 0; have f1 := hk.frozen 1; have f2 := hk.frozen 2; replace hb1 := res_below hb1; have hk3 := ((hk.set_ 0 (.int .i64 ((fourL s.data.toList).2 : Nat))).set_ 1 (.int .i64 (fourL s.data.toList).1)).set_ 2 (.bool ((fourL s.data.toList).2 == 6)); have hb3 := ((hb1.setCell (p := ⟨w.heap.size, 0, none⟩) (Nat.le_refl _) (.int .i64 ((fourL s.data.toList).2 : Nat))).setCell (p := ⟨w.heap.size, 1, none⟩) (Nat.le_refl _) (.int .i64 (fourL s.data.toList).1)).setCell (p := ⟨w.heap.size, 2, none⟩) (Nat.le_refl _) (.bool ((fourL s.data.toList).2 == 6)); clear hk hb1)
      all_goals
        first
          | (generalize ((w1.setCell _ _).setCell _ _).setCell _ _ = W at hk3 hb3 ⊢
             have q0 : W.cell? ⟨w.heap.size, 0, none⟩ = some (.int .i64 ((fourL s.data.toList).2 : Nat)) := hk3.cell 0
             have q1 : W.cell? ⟨w.heap.size, 1, none⟩ = some (.int .i64 (fourL s.data.toList).1) := hk3.cell 1
             have q2 : W.cell? ⟨w.heap.size, 2, none⟩ = some (.bool ((fourL s.data.toList).2 == 6)) := hk3.cell 2
             refine bodyPost_ret (by simp [results, Try.results27, go_sem, q0, q1, q2]; try rfl) rfl ?_)
          | go_returns
        refine ⟨?_, by first | assumption | go_grown⟩
        rw [HN.out, HO.out]
        repeat (first | rw [bit (by assumption)] | rw [bit' (by assumption)])
        first | rfl | (rw [wrap_b]; rfl)
  · rw [if_pos c3] at hn
    have t3 : ((s[0].toNat : Int) != 92) = true := by simpa using c3
    have HN := Lib.hid hn; clear hn c3
    go_enter Try.func27, Try.ntmps27
    go_wp2_with fail
    go_returns
    exact ⟨by rw [HN.out, wrap_b]; rfl, by go_grown⟩
end Go.Proofs.Ytlfkhfmepcnfeaa.Txt
