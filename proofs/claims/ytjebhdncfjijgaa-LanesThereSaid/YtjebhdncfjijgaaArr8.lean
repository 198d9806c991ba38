/- An argument that is an array of eight bytes, opened. -/
import Derived.Test.YtjebhdncfjijgaaClose
namespace Go.Proofs.Ytjebhdncfjijgaa.Arr8
set_option linter.unusedVariables false
set_option linter.unusedSimpArgs false
open Go.ChangeShapes Go.WideShapes Go.ChangeAt Go.RowKit
theorem array8 {α : Type} {cs : Array α} (h : cs.size = 8) : ∃ c0 c1 c2 c3 c4 c5 c6 c7, cs = #[c0, c1, c2, c3, c4, c5, c6, c7] := by
  obtain ⟨l⟩ := cs
  match l, h with
  | [c0, c1, c2, c3, c4, c5, c6, c7], _ => exact ⟨c0, c1, c2, c3, c4, c5, c6, c7, rfl⟩
section
variable {H : Type} {enc : TypeId × Value → H} {P : Program} {w : World} {base : Nat} {spare : Nat → Bool} {held : Bool}
theorem open_bytes8 {r : Reach} {b0 : Nat} {t e : TypeId} {v : Value} {d : DataW H} {p : List MemPlace} (ht : P.underlying t = some (.array 8 e)) (he : P.underlying e = some (.int .u8)) (hC : P.cellsOf t = 8) (hce : P.cellsOf e = 1)
    (hv : Value.okWide P w r b0 t v) (h : DataW.Trod enc P w base spare held t v d p) :
    ∃ b0 b1 b2 b3 b4 b5 b6 b7 : Nat, v = .agg #[.int .u8 b0, .int .u8 b1, .int .u8 b2, .int .u8 b3, .int .u8 b4, .int .u8 b5, .int .u8 b6, .int .u8 b7] ∧ b0 < 256 ∧ b1 < 256 ∧ b2 < 256 ∧ b3 < 256 ∧ b4 < 256 ∧ b5 < 256 ∧ b6 < 256 ∧ b7 < 256 := by
  simp only [Value.okWide, ht] at hv
  obtain ⟨cs, rfl, hsz, _⟩ := hv
  obtain ⟨c0, c1, c2, c3, c4, c5, c6, c7, rfl⟩ := array8 (hsz.trans hC)
  obtain ⟨fuel, hf⟩ := h
  obtain ⟨xs, m, _, hx, hl, hlen, hel⟩ := DataW.trod_array ht hf
  have key : ∀ (i : Nat) (c : Value), i < 8 → ((Value.agg #[c0, c1, c2, c3, c4, c5, c6, c7]).cells.toList.drop i).take 1 = [c] → ∃ n : Nat, c = .int .u8 n ∧ n < 256 := by
    intro i c hi hc
    have h1 := hel i hi
    rw [hce, Nat.mul_one, hc] at h1
    have hy : xs[i]? = some (xs[i]'(by omega)) := List.getElem?_eq_getElem (by omega)
    obtain ⟨n, hn, _, wf⟩ := DataW.trod_int he (h1.trans hy)
    have := bounds_u8 wf
    refine ⟨n.toNat, ?_, by omega⟩
    have : c = .int .u8 n := by simpa using hn
    rw [this]; congr 1; omega
  obtain ⟨n0, rfl, h0⟩ := key 0 c0 (by omega) (by simp [Value.cells])
  obtain ⟨n1, rfl, h1⟩ := key 1 c1 (by omega) (by simp [Value.cells])
  obtain ⟨n2, rfl, h2⟩ := key 2 c2 (by omega) (by simp [Value.cells])
  obtain ⟨n3, rfl, h3⟩ := key 3 c3 (by omega) (by simp [Value.cells])
  obtain ⟨n4, rfl, h4⟩ := key 4 c4 (by omega) (by simp [Value.cells])
  obtain ⟨n5, rfl, h5⟩ := key 5 c5 (by omega) (by simp [Value.cells])
  obtain ⟨n6, rfl, h6⟩ := key 6 c6 (by omega) (by simp [Value.cells])
  obtain ⟨n7, rfl, h7⟩ := key 7 c7 (by omega) (by simp [Value.cells])
  exact ⟨n0, n1, n2, n3, n4, n5, n6, n7, rfl, h0, h1, h2, h3, h4, h5, h6, h7⟩
end
end Go.Proofs.Ytjebhdncfjijgaa.Arr8
