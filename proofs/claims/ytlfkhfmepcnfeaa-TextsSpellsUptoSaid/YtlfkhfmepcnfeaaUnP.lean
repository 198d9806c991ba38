/- Small laws for the walk of quarryref15.Unescape. -/
import Derived.Test.YtlfkhfmepcnfeaaUnW
import Derived.Test.YtlfkhfmepcnfeaaTxtH
import Derived.Test.YtlfkhfmepcnfeaaUtfYB
import Derived.Lib.ConvBytes
namespace Go.Proofs.Ytlfkhfmepcnfeaa.Txt
set_option linter.unusedVariables false
set_option linter.unusedSimpArgs false
open Go.RowKit Go.Proofs.Ytlfkhfmepcnfeaa.Mem Go.Proofs.Ytlfkhfmepcnfeaa.Own Go.Proofs.Ytlfkhfmepcnfeaa.Utf Go.Proofs.Ytlfkhfmepcnfeaa.Bld

theorem conv_own (w : World) (base : Nat) (v : Value) (n : Nat) (l : List UInt8) (h : w.ownsRow base 5 1 v n (Lib.byteCells l)) :
    (convert 31 9 v).run Try.prog w = .ok (.string ⟨l.toArray⟩) w := by
  have hl : l.length = n := by have := h.1; simpa [Lib.byteCells] using this
  rcases h.2 with ⟨rfl, rfl⟩ | ⟨g, cap, cur, rfl, -⟩
  · have : l = [] := List.eq_nil_of_length_eq_zero hl
    subst this
    rw [run_convert_bytes_string w 31 9 5 none 0 0 Try.underlying31 Try.underlying5 Try.underlying9]
    rfl
  · subst hl
    exact run_convert_bytes_back (P := Try.prog) w 31 9 5 ⟨g, 0, none⟩ cap l Try.underlying31 Try.underlying5 Try.underlying9 (by
      intro j hj
      exact h.cells (g := g) rfl j _ (by simp [Lib.byteCells, hj]))
theorem next_as {s : ByteArray} {n : Nat} {m : Int} {f : Bool} (h : nextL s.data.toList = (n, m, f)) (h0 : 0 < s.size) (w : World) : Calls Try.prog 27 #[.string s] w fun e w' => e = .returned (.agg #[.int .i64 (n : Int), .int .i64 m, .bool f]) ∧ Below w.heap.size w w' :=
  (next_w s h0 w).mono fun e w' ⟨h1, h2⟩ => ⟨by rw [h1, h]; rfl, h2⟩
theorem high_as {n : Nat} {m : Int} {f b : Bool} (h : highF (n, m, f) = b) (w : World) : Calls Try.prog 28 #[.agg #[.int .i64 (n : Int), .int .i64 m, .bool f]] w fun e w' => e = .returned (.bool b) ∧ Below w.heap.size w w' :=
  (high_w (n, m, f) w).mono fun e w' ⟨h1, h2⟩ => ⟨by rw [h1, h], h2⟩
theorem low_as {n : Nat} {m : Int} {f b : Bool} (h : lowF (n, m, f) = b) (w : World) : Calls Try.prog 29 #[.agg #[.int .i64 (n : Int), .int .i64 m, .bool f]] w fun e w' => e = .returned (.bool b) ∧ Below w.heap.size w w' :=
  (low_w (n, m, f) w).mono fun e w' ⟨h1, h2⟩ => ⟨by rw [h1, h], h2⟩
/-- What Next says, told by what Unescape does. -/
theorem next_cases (l : List UInt8) (hl : l ≠ []) (n : Nat) (m : Int) (f : Bool) (h : nextL l = (n, m, f)) :
    (n = 0 ∧ unF l = none) ∨
    (n ≠ 0 ∧ n ≤ l.length ∧ f = false ∧ 0 ≤ m ∧ m < 256 ∧ unF l = (unF (l.drop n)).map ([toB m] ++ ·)) ∨
    (n = 6 ∧ 6 ≤ l.length ∧ f = true ∧ 0 ≤ m ∧ m < 65536 ∧ bs (l.getD 0 0) = true ∧ oneL l = (m, 6)) := by
  obtain ⟨x, r, rfl⟩ := List.exists_cons_of_ne_nil hl
  unfold nextL at h
  rw [List.getD_cons_zero] at h
  by_cases c1 : (x.toNat : Int) < 32 ∨ (x.toNat : Int) = 34
  · rw [if_pos c1] at h
    cases h
    exact .inl ⟨rfl, unF_bad x r (ok_false c1)⟩
  rw [if_neg c1] at h
  simp only [not_or] at c1
  have hx := ok_true c1.1 c1.2
  by_cases c2 : (x.toNat : Int) = 92
  · rw [if_neg (by simpa using c2)] at h
    have hb : bs x = true := by unfold bs; rw [c2]; rfl
    simp only [Prod.mk.injEq] at h
    obtain ⟨h1, h2, h3⟩ := h
    rcases one_cases (x :: r) with e | ⟨e1, e2, e3, e4⟩ | ⟨e1, e2, e3, e4, e5⟩
    · left
      rw [e] at h1
      refine ⟨h1.symm, ?_⟩
      rw [unF_esc x r hb]
      have : escU (x :: r) = none := by unfold escU; rw [if_pos (by rw [e])]
      rw [this]
    · right; left
      rw [e2] at h1 h3
      subst h1
      refine ⟨by omega, by omega, by rw [← h3]; rfl, by omega, by omega, ?_⟩
      rw [unF_esc x r hb]
      have : escU (x :: r) = some (m, 2) := by unfold escU; rw [if_neg (by rw [e2]; decide), if_neg (by omega), if_neg (by omega), h2, e2]
      rw [this, ← enc_one (r := m) (by omega) (by omega)]
    · right; right
      refine ⟨by omega, by omega, by rw [← h3, e3]; rfl, by omega, by omega, by rw [List.getD_cons_zero]; exact hb, ?_⟩
      rw [← h2, ← e3]
  · rw [if_pos c2] at h
    cases h
    right; left
    refine ⟨by omega, by simp, rfl, by omega, by have := x.toNat_lt; omega, ?_⟩
    rw [unF_plain x r hx (by unfold bs; rw [beq_eq_false_iff_ne]; exact c2), toB_self]
    rfl
theorem byte_cells (l : List UInt8) : ∀ u ∈ Lib.byteCells l, u.oneCell' = true := by
  intro u hu
  simp only [Lib.byteCells, List.mem_map] at hu
  obtain ⟨b, -, rfl⟩ := hu
  rfl
theorem high_no {n : Nat} {m : Int} : highF (n, m, false) = false := rfl
theorem low_no {n : Nat} {m : Int} : lowF (n, m, false) = false := rfl
theorem high_yes {n : Nat} {m : Int} (h : 55296 ≤ m ∧ m < 56320) : highF (n, m, true) = true := by simp [highF]; omega
theorem high_not {n : Nat} {m : Int} (h : ¬(55296 ≤ m ∧ m < 56320)) : highF (n, m, true) = false := by
  cases q : highF (n, m, true) with
  | false => rfl
  | true => simp [highF] at q; omega
theorem low_yes {n : Nat} {m : Int} (h : 56320 ≤ m ∧ m < 57344) : lowF (n, m, true) = true := by simp [lowF]; omega
theorem low_not {n : Nat} {m : Int} (h : ¬(56320 ≤ m ∧ m < 57344)) : lowF (n, m, true) = false := by
  cases q : lowF (n, m, true) with
  | false => rfl
  | true => simp [lowF] at q; omega
/-- What stands behind a high half: is it a low one? -/
theorem low_next (l : List UInt8) (hl : l ≠ []) (n : Nat) (m : Int) (f : Bool) (h : nextL l = (n, m, f)) :
    (lowF (n, m, f) = true → n = 6 ∧ oneL l = (m, 6) ∧ 56320 ≤ m ∧ m < 57344) ∧ (lowF (n, m, f) = false → ¬((oneL l).2 = 6 ∧ 56320 ≤ (oneL l).1 ∧ (oneL l).1 < 57344)) := by
  rcases next_cases l hl n m f h with ⟨h1, h2⟩ | ⟨h1, h2, rfl, h3, h4, h5⟩ | ⟨rfl, h2, rfl, h3, h4, h5, h6⟩
  · subst h1
    constructor
    · intro q
      exfalso
      unfold nextL at h
      split at h
      · cases h; simp [lowF] at q
      · split at h
        · cases h
        · simp only [Prod.mk.injEq] at h
          rw [h.1] at h
          rw [← h.2.2] at q
          simp [lowF] at q
    · rintro - ⟨q, -⟩
      unfold nextL at h
      split at h
      · rename_i hx
        obtain ⟨x, r, rfl⟩ := List.exists_cons_of_ne_nil hl
        rw [List.getD_cons_zero] at hx
        unfold oneL at q
        rw [List.getD_cons_zero, if_pos (.inr (by omega))] at q
        cases q
      · split at h
        · cases h
        · simp only [Prod.mk.injEq] at h
          omega
  · constructor
    · intro q; rw [low_no] at q; cases q
    · rintro - ⟨q, -⟩
      unfold nextL at h
      split at h
      · cases h; exact h1 rfl
      · split at h
        · rename_i hx
          unfold oneL at q
          rw [if_pos (.inr (by simpa using hx))] at q
          cases q
        · simp only [Prod.mk.injEq] at h
          rw [q] at h
          exact absurd h.2.2 (by decide)
  · constructor
    · intro q
      refine ⟨rfl, h6, ?_⟩
      by_cases c : 56320 ≤ m ∧ m < 57344
      · exact c
      · rw [low_not c] at q; cases q
    · intro q
      rw [h6]
      rintro ⟨-, c⟩
      rw [low_yes c] at q
      cases q
/-- The escape told by the first piece and what is behind it. -/
theorem esc_pair {l : List UInt8} {m m2 : Int} (h1 : oneL l = (m, 6)) (hm : 55296 ≤ m ∧ m < 56320) (h2 : oneL (l.drop 6) = (m2, 6)) (hm2 : 56320 ≤ m2 ∧ m2 < 57344) : escU l = some (65536 + (m - 55296) * 1024 + (m2 - 56320), 12) := by
  unfold escU
  rw [h1]
  simp only []
  rw [if_neg (by decide), if_pos hm, h2]
  simp only []
  simp only [true_and]
  rw [if_pos hm2]
theorem esc_high {l : List UInt8} {m : Int} (h1 : oneL l = (m, 6)) (hm : 55296 ≤ m ∧ m < 56320) (h2 : ¬((oneL (l.drop 6)).2 = 6 ∧ 56320 ≤ (oneL (l.drop 6)).1 ∧ (oneL (l.drop 6)).1 < 57344)) : escU l = some (65533, 6) := by
  unfold escU
  rw [h1]
  simp only []
  rw [if_neg (by decide), if_pos hm, if_neg h2]
theorem esc_low {l : List UInt8} {m : Int} (h1 : oneL l = (m, 6)) (hm : 56320 ≤ m ∧ m < 57344) : escU l = some (65533, 6) := by
  unfold escU
  rw [h1]
  simp only []
  rw [if_neg (by decide), if_neg (by omega), if_pos hm]
theorem esc_lone {l : List UInt8} {m : Int} (h1 : oneL l = (m, 6)) (hm : ¬(55296 ≤ m ∧ m < 57344)) : escU l = some (m, 6) := by
  unfold escU
  rw [h1]
  simp only []
  rw [if_neg (by decide), if_neg (by omega), if_neg (by omega)]
theorem fin2 {L l out : List UInt8} {r : Int} {c : Nat} (hU : unF L = (unF l).map (out ++ ·)) (hl : l ≠ []) (h9 : bs (l.getD 0 0) = true) (he : escU l = some (r, c)) :
    unF L = (unF (l.drop c)).map ((out ++ encL r) ++ ·) := by
  have := fin (o := 0) hU (by simp) (List.length_pos_iff.2 hl) h9 (by rwa [List.drop_zero])
  simpa using this
theorem fin1 {L l m out o : List UInt8} (hU : unF L = (unF l).map (out ++ ·)) (h : unF l = (unF m).map (o ++ ·)) : unF L = (unF m).map ((out ++ o) ++ ·) := by
  rw [hU, h]
  cases unF m <;> simp
end Go.Proofs.Ytlfkhfmepcnfeaa.Txt
