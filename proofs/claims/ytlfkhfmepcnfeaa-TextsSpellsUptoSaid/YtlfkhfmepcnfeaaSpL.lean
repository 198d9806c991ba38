/- Plain laws: what a spelled character means. -/
import Derived.Test.YtlfkhfmepcnfeaaSpG
namespace Go.Proofs.Ytlfkhfmepcnfeaa.Txt
set_option linter.unusedVariables false
set_option linter.unusedSimpArgs false
open Go.RowKit Go.Proofs.Ytlfkhfmepcnfeaa.Utf

theorem fourS_list (g : Bool) (n : Nat) : (fourS g n 4).data.toList = [92, 117, hx g (n / 4096 % 16), hx g (n / 256 % 16), hx g (n / 16 % 16), hx g (n % 16)] := by
  simp [fourS, hxB, ByteArray.toList_data_append]
theorem hx_val (g : Bool) (d : Nat) (h : d < 16) : digF ((hx g d).toNat : Int) = (d : Int) := hx_dig g ⟨d, h⟩
theorem four_one (g : Bool) (n : Nat) (hn : n < 65536) (m : List UInt8) : oneL ((fourS g n 4).data.toList ++ m) = ((n : Int), 6) := by
  rw [fourS_list]
  have e1 := hx_val g (n / 4096 % 16) (by omega)
  have e2 := hx_val g (n / 256 % 16) (by omega)
  have e3 := hx_val g (n / 16 % 16) (by omega)
  have e4 := hx_val g (n % 16) (by omega)
  have := one_four (c := hx g (n / 4096 % 16)) (d := hx g (n / 256 % 16)) (e := hx g (n / 16 % 16)) (f := hx g (n % 16)) m (by omega) (by omega) (by omega) (by omega)
  rw [e1, e2, e3, e4] at this
  rw [show ([92, 117, hx g (n / 4096 % 16), hx g (n / 256 % 16), hx g (n / 16 % 16), hx g (n % 16)] : List UInt8) ++ m = 92 :: 117 :: hx g (n / 4096 % 16) :: hx g (n / 256 % 16) :: hx g (n / 16 % 16) :: hx g (n % 16) :: m from rfl, this]
  simp only [Prod.mk.injEq, and_true]
  omega
theorem four_un (g : Bool) (n : Nat) (hn : n < 65536) (hs : ¬(55296 ≤ n ∧ n ≤ 57343)) (m : List UInt8) : unF ((fourS g n 4).data.toList ++ m) = (unF m).map (encL (n : Int) ++ ·) := by
  have h := four_one g n hn m
  rw [fourS_list] at h ⊢
  exact un_esc (l := []) _ h (by decide) (by omega)
theorem pair_un (g1 g2 : Bool) (a b : Nat) (ha : 55296 ≤ a ∧ a < 56320) (hb : 56320 ≤ b ∧ b < 57344) (m : List UInt8) :
    unF ((fourS g1 a 4).data.toList ++ ((fourS g2 b 4).data.toList ++ m)) = (unF m).map (encL (65536 + ((a : Int) - 55296) * 1024 + ((b : Int) - 56320)) ++ ·) := by
  have h1 := four_one g1 a (by omega) ((fourS g2 b 4).data.toList ++ m)
  have h2 := four_one g2 b (by omega) m
  generalize hR : (fourS g2 b 4).data.toList ++ m = R at *
  have hd : R.drop 6 = m := by rw [← hR, fourS_list]; rfl
  rw [fourS_list] at h1 ⊢
  have e : unF (92 :: ([117, hx g1 (a / 4096 % 16), hx g1 (a / 256 % 16), hx g1 (a / 16 % 16), hx g1 (a % 16)] ++ R)) = _ := unF_esc 92 _ rfl
  have he : escU (92 :: ([117, hx g1 (a / 4096 % 16), hx g1 (a / 256 % 16), hx g1 (a / 16 % 16), hx g1 (a % 16)] ++ R)) = some (65536 + ((a : Int) - 55296) * 1024 + ((b : Int) - 56320), 12) :=
    esc_pair (m := (a : Int)) (m2 := (b : Int)) h1 (by omega) h2 (by omega)
  rw [he] at e
  have hdd : (92 :: ([117, hx g1 (a / 4096 % 16), hx g1 (a / 256 % 16), hx g1 (a / 16 % 16), hx g1 (a % 16)] ++ R)).drop 12 = m := by
    rw [← hd]; rfl
  simp only [hdd] at e
  exact e
theorem enc_okb {c : Int} (h0 : 32 ≤ c) (h1 : c ≤ 1114111) (hs : ¬(55296 ≤ c ∧ c ≤ 57343)) (h34 : c ≠ 34) (h92 : c ≠ 92) : ∀ x ∈ encL c, okB x = true ∧ bs x = false := by
  have big : ∀ v : Int, 128 ≤ v → v < 256 → okB (toB v) = true ∧ bs (toB v) = false := fun v a b => by
    unfold okB bs; rw [toB_int (by omega) b]
    constructor
    · simp; omega
    · rw [beq_eq_false_iff_ne]; omega
  intro x hx
  by_cases a : c < 128
  · rw [enc_one (by omega) a] at hx
    simp only [List.mem_singleton] at hx
    subst hx
    unfold okB bs; rw [toB_int (by omega) (by omega)]
    constructor
    · simp; omega
    · rw [beq_eq_false_iff_ne]; omega
  by_cases b : c < 2048
  · rw [enc_two (by omega) b] at hx
    simp only [List.mem_cons, List.not_mem_nil, or_false] at hx
    rcases hx with rfl | rfl <;> exact big _ (by omega) (by omega)
  by_cases d : c < 65536
  · rw [enc_three (by omega) d hs] at hx
    simp only [List.mem_cons, List.not_mem_nil, or_false] at hx
    rcases hx with rfl | rfl | rfl <;> exact big _ (by omega) (by omega)
  · rw [enc_four (by omega) h1] at hx
    simp only [List.mem_cons, List.not_mem_nil, or_false] at hx
    rcases hx with rfl | rfl | rfl | rfl <;> exact big _ (by omega) (by omega)
theorem hx_ascii : ∀ (g : Bool) (d : Fin 16), (hx g d.val).toNat < 128 := by decide +kernel
theorem four_fine (g : Bool) (n : Nat) : Fine (runL sc0 (fourS g n 4).data.toList) := by
  rw [fourS_list]
  refine run_ascii _ (fun x hx' => ?_) fine0
  simp only [List.mem_cons, List.not_mem_nil, or_false] at hx'
  rcases hx' with rfl | rfl | rfl | rfl | rfl | rfl
  · decide
  · decide
  · exact hx_ascii g ⟨_, Nat.mod_lt _ (by decide)⟩
  · exact hx_ascii g ⟨_, Nat.mod_lt _ (by decide)⟩
  · exact hx_ascii g ⟨_, Nat.mod_lt _ (by decide)⟩
  · exact hx_ascii g ⟨_, Nat.mod_lt _ (by decide)⟩
end Go.Proofs.Ytlfkhfmepcnfeaa.Txt
