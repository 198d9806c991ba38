/- An opener of an argument that is a slice of whole numbers. -/
import Derived.Test.YtlfkhfmepcnfeaaOpens
namespace Go.Proofs.Ytlfkhfmepcnfeaa.Opens
set_option linter.unusedVariables false
set_option linter.unusedSimpArgs false
open Go.ChangeShapes Go.WideShapes Go.ChangeAt Go.RowKit

section
variable {H : Type} {enc : TypeId × Value → H} {P : Program} {W : World}
theorem open_nums {r : Reach} {b0 b1 : Nat} {t e : TypeId} {k : IntKind} {v : Value} {d : DataW H} {ps : List MemPlace} {held : Bool} (ht : P.underlying t = some (.slice e)) (he : P.underlying e = some (.int k)) (hc : P.cellsOf e = 1)
    (hval : Value.okWide P W r b0 t v) (hd : DataW.Trod enc P W b1 (fun _ => true) held t v d ps) :
    ∃ (a0 : Option Addr) (cap : Nat) (zs sp : List Int), v = .slice a0 zs.length cap ∧
      (zs ≠ [] → ∃ b off, a0 = some ⟨b, off, none⟩ ∧ b < W.heap.size ∧ ∀ i, i < zs.length → W.cell? ⟨b, off + i, none⟩ = some (.int k (zs.getD i 0))) ∧
      (∀ n ∈ zs, (Lit.int k n).wf = true) ∧ ((d = .nil ∧ zs = []) ∨ d = .slice (lits k zs) (lits k sp)) := by
  obtain ⟨a0, len, cap, rfl⟩ := okWide_slice ht hval
  obtain ⟨fuel, hf⟩ := hd
  rcases open_ints ht he hc hf with ⟨hcs, hx⟩ | ⟨a, len', cap', zs, hcs, _, hl, hm, hz, hx, hcell, hwf⟩
  · simp [Value.cells] at hcs
    simp only [Prod.mk.injEq] at hx
    obtain ⟨rfl, rfl, rfl⟩ := hcs
    exact ⟨none, 0, [], [], rfl, fun h => absurd rfl h, by simp, .inl ⟨hx.1, rfl⟩⟩
  · simp [Value.cells] at hcs
    obtain ⟨rfl, rfl, rfl⟩ := hcs
    simp only [Prod.mk.injEq] at hx
    have hlen : (zs.take len).length = len := by rw [List.length_take, hz]; simp; omega
    refine ⟨some a, cap, zs.take len, zs.drop len, by rw [hlen], ?_, fun n hn => hwf n (List.mem_of_mem_take hn), .inr hx.1⟩
    intro hne
    have h0 : 0 < (zs.take len).length := List.length_pos_iff.2 hne
    obtain ⟨b, off, spot⟩ := a
    have hc0 := hcell 0 (by rw [hz]; simp; omega)
    have hspot : spot = none := by simpa [Addr.add] using World.cell?_spot hc0
    subst hspot
    refine ⟨b, off, rfl, by have := block_lt_of_cell hc0; simpa [Addr.add] using this, fun i hi => ?_⟩
    rw [← Go.WideShapes.add_plain, hcell i (by rw [hz]; simp; omega)]
    rw [hlen] at hi
    simp [List.getD_eq_getElem?_getD, List.getElem?_take, hi]
end
/-- The bytes behind a slice of bytes. -/
theorem bytes_at {W : World} {a0 : Option Addr} {zs : List Int}
    (hc : zs ≠ [] → ∃ b off, a0 = some ⟨b, off, none⟩ ∧ b < W.heap.size ∧ ∀ i, i < zs.length → W.cell? ⟨b, off + i, none⟩ = some (.int .u8 (zs.getD i 0)))
    (hw : ∀ n ∈ zs, (Lit.int .u8 n).wf = true) (i : Nat) (hi : i < zs.length) :
    ∃ (b off : Nat) (y : UInt8), a0 = some ⟨b, off, none⟩ ∧ b < W.heap.size ∧ W.cell? ⟨b, off + i, none⟩ = some (.int .u8 (y.toNat : Int)) := by
  obtain ⟨b, off, h1, h2, h3⟩ := hc (List.ne_nil_of_length_pos (by omega))
  have hm := hw _ (List.getElem_mem hi)
  have hb : 0 ≤ zs[i] ∧ zs[i] < 256 := by
    simp [Lit.wf, IntKind.signed, IntKind.bits, IntKind.min, IntKind.max] at hm
    omega
  refine ⟨b, off, UInt8.ofNat zs[i].toNat, h1, h2, ?_⟩
  rw [h3 i hi]
  congr 2
  rw [UInt8.toNat_ofNat', List.getD_eq_getElem?_getD, List.getElem?_eq_getElem hi]
  simp only [Option.getD_some]
  omega
end Go.Proofs.Ytlfkhfmepcnfeaa.Opens
