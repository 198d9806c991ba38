/- Openers of arguments (a slice of strings, of bytes, of ints) and what the bound of the second form gives. -/
import Derived.Test.YtlfkhfmepcnfeaaRows
import Derived.Test.YtlfkhfmepcnfeaaClose
import Derived.SliceStrings
import Derived.JoinedCond
import Derived.Deep.CondSized
namespace Go.Proofs.Ytlfkhfmepcnfeaa.Opens
set_option linter.unusedVariables false
set_option linter.unusedSimpArgs false
open Go.ChangeShapes Go.WideShapes Go.ChangeAt Go.RowKit

section
variable {H : Type} {enc : TypeId × Value → H} {P : Program} {W : World}
theorem open_strs {r : Reach} {b0 b1 : Nat} {t e : TypeId} {v : Value} {d : DataW H} {ps : List MemPlace} {held : Bool} (ht : P.underlying t = some (.slice e)) (he : P.underlying e = some .string) (hc : P.cellsOf e = 1)
    (hval : Value.okWide P W r b0 t v) (hd : DataW.Trod enc P W b1 (fun _ => true) held t v d ps) :
    ∃ (a0 : Option Addr) (cap : Nat) (ss sp : List ByteArray), v = .slice a0 ss.length cap ∧
      (ss ≠ [] → ∃ b off, a0 = some ⟨b, off, none⟩ ∧ b < W.heap.size ∧ ∀ i, i < ss.length → W.cell? ⟨b, off + i, none⟩ = some (.string (ss.getD i ByteArray.empty))) ∧
      ((d = .nil ∧ ss = []) ∨ d = .slice (strs ss) (strs sp)) := by
  obtain ⟨a0, len, cap, rfl⟩ := okWide_slice ht hval
  obtain ⟨fuel, hf⟩ := hd
  rcases open_strings ht he hc hf with ⟨hcs, hx⟩ | ⟨a, len', cap', ss, hcs, _, hl, hm, hz, hx, hcell, hsz⟩
  · simp [Value.cells] at hcs
    simp only [Prod.mk.injEq] at hx
    obtain ⟨rfl, rfl, rfl⟩ := hcs
    exact ⟨none, 0, [], [], rfl, fun h => absurd rfl h, .inl ⟨hx.1, rfl⟩⟩
  · simp [Value.cells] at hcs
    obtain ⟨rfl, rfl, rfl⟩ := hcs
    simp only [Prod.mk.injEq] at hx
    have hlen : (ss.take len).length = len := by rw [List.length_take, hz]; simp; omega
    refine ⟨some a, cap, ss.take len, ss.drop len, by rw [hlen], ?_, .inr hx.1⟩
    intro hne
    have h0 : 0 < (ss.take len).length := List.length_pos_iff.2 hne
    obtain ⟨b, off, spot⟩ := a
    have hc0 := hcell 0 (by rw [hz]; simp; omega)
    have hspot : spot = none := by simpa [Addr.add] using World.cell?_spot hc0
    subst hspot
    refine ⟨b, off, rfl, by have := block_lt_of_cell hc0; simpa [Addr.add] using this, fun i hi => ?_⟩
    rw [← Go.WideShapes.add_plain, hcell i (by rw [hz]; simp; omega)]
    rw [hlen] at hi
    simp [List.getD_eq_getElem?_getD, List.getElem?_take, hi]
end
theorem one_le {H : Type} (d : DataW H) : 1 ≤ Rows.uptoBulk d := by
  cases d with
  | lit l => cases l <;> simp [Rows.uptoBulk]
  | nil => simp [Rows.uptoBulk]
  | ptr d => simp [Rows.uptoBulk]
  | slice elems spare => simp [Rows.uptoBulk]
  | agg parts => simp [Rows.uptoBulk]
  | iface t d => simp [Rows.uptoBulk]
  | map entries => simp [Rows.uptoBulk]
  | held h => simp [Rows.uptoBulk]
theorem part_le {H : Type} {d : DataW H} {l : List (DataW H)} (h : d ∈ l) : Rows.uptoBulk d ≤ Rows.uptoBulkAll l := by
  induction l with
  | nil => cases h
  | cons x r ih =>
    simp only [Rows.uptoBulkAll]
    cases List.mem_cons.1 h with
    | inl e => subst e; omega
    | inr e => have := ih e; omega
theorem app_bulk {H : Type} (l r : List (DataW H)) : Rows.uptoBulkAll (l ++ r) = Rows.uptoBulkAll l + Rows.uptoBulkAll r := by
  induction l with
  | nil => simp [Rows.uptoBulkAll]
  | cons x l ih => simp only [List.cons_append, Rows.uptoBulkAll, ih]; omega
theorem len_le {H : Type} (l : List (DataW H)) : l.length ≤ Rows.uptoBulkAll l := by
  induction l with
  | nil => simp [Rows.uptoBulkAll]
  | cons x r ih => have := one_le x; simp only [Rows.uptoBulkAll, List.length_cons]; omega
theorem str_bulk {H : Type} (s : ByteArray) : Rows.uptoBulk (DataW.lit (H := H) (.string s.data.toList)) = s.size + 1 := by
  have e : s.data.toList.length = s.size := by rw [Array.length_toList]; rfl
  simp only [Rows.uptoBulk, e]
theorem strs_bulk {H : Type} (ss : List ByteArray) : Rows.uptoBulkAll (strs (H := H) ss) = (ss.flatMap (·.data.toList)).length + ss.length := by
  induction ss with
  | nil => rfl
  | cons s ss ih =>
    have h : strs (H := H) (s :: ss) = .lit (.string s.data.toList) :: strs ss := rfl
    rw [h, Rows.uptoBulkAll, str_bulk, ih, List.flatMap_cons, List.length_append, List.length_cons]
    have e : s.data.toList.length = s.size := by rw [Array.length_toList]; rfl
    omega
theorem bound {H : Type} {l : List (DataW H)} (hk : Rows.uptoSmall H l = true) : Rows.uptoBulkAll l ≤ 1048576 := of_decide_eq_true hk
end Go.Proofs.Ytlfkhfmepcnfeaa.Opens
