/- Openers of arguments that are lists of calls or of entries. -/
import Derived.Test.YtcgfkmjlgblkcaaRows
import Derived.Test.YtcgfkmjlgblkcaaClose
import Derived.Test.YtcgfkmjlgblkcaaPatY
import Derived.Deep.Slices
import Derived.ChangeArms
import Derived.OpenShut
namespace Go.Proofs.Ytcgfkmjlgblkcaa.Pat
set_option linter.unusedVariables false
set_option linter.unusedSimpArgs false
open Go.ChangeShapes Go.WideShapes Go.ChangeAt Go.RowKit Go.Deep

section
variable {H : Type} {enc : TypeId × Value → H} {W : World} {base : Nat} {spare : Nat → Bool} {held : Bool}
theorem int_at {P : Program} {t : TypeId} {n : Nat} {v : Value} {y : Option (DataW H × List MemPlace)} {z : DataW H × List MemPlace} (ht : P.underlying t = some (.int .i64)) (h : DataW.trod enc P W base spare held n t [v] = y) (hy : y = some z) :
    ∃ k : Int, v = .int .i64 k ∧ -9223372036854775808 ≤ k ∧ k ≤ 9223372036854775807 := by
  rw [hy] at h
  obtain ⟨k, hk, -, hw⟩ := DataW.trod_int ht h
  simp at hk
  refine ⟨k, hk, ?_⟩
  simp [Lit.wf, IntKind.signed, IntKind.bits, IntKind.min, IntKind.max] at hw
  omega
theorem str_at {P : Program} {t : TypeId} {n : Nat} {v : Value} {y : Option (DataW H × List MemPlace)} {z : DataW H × List MemPlace} (ht : P.underlying t = some .string) (h : DataW.trod enc P W base spare held n t [v] = y) (hy : y = some z) :
    ∃ s : ByteArray, v = .string s ∧ s.size ≤ maxLen := by
  rw [hy] at h
  obtain ⟨s, hs, -, hw⟩ := DataW.trod_string ht h
  simp at hs
  exact ⟨s, hs, hw⟩
theorem op_cells : Try.prog.cellsOf 29 = 5 := by kernel_rfl
theorem int_cells : Try.prog.cellsOf 3 = 1 := by kernel_rfl
theorem list5 {α : Type} {l : List α} (h : l.length = 5) : ∃ a b c d e, l = [a, b, c, d, e] := by
  match l, h with
  | [a, b, c, d, e], _ => exact ⟨a, b, c, d, e, rfl⟩
theorem list4 {α : Type} {l : List α} (h : l.length = 4) : ∃ a b c d, l = [a, b, c, d] := by
  match l, h with
  | [a, b, c, d], _ => exact ⟨a, b, c, d, rfl⟩
set_option maxRecDepth 100000 in
theorem op_open {n : Nat} {cs : List Value} {y : DataW H × List MemPlace} (h : DataW.trod enc Try.prog W base spare held n 29 cs = some y) :
    ∃ o : OpR, cs = [.int .i64 o.on, .int .i64 o.kind, .string o.route, .string o.name, .int .i64 o.place] ∧ oWf o := by
  obtain ⟨xs, k, rfl, -, hl, hxl, hf⟩ := DataW.trod_struct Try.underlying29 h
  rw [op_cells] at hl
  obtain ⟨y0, y1, y2, y3, y4, rfl⟩ := list5 (by simpa using hxl)
  obtain ⟨v0, v1, v2, v3, v4, rfl⟩ := list5 hl
  · have g0 := hf 0 _ rfl
    have g1 := hf 1 _ rfl
    have g2 := hf 2 _ rfl
    have g3 := hf 3 _ rfl
    have g4 := hf 4 _ rfl
    simp [int_cells, str_cells] at g0 g1 g2 g3 g4
    obtain ⟨k0, rfl, a0, b0⟩ := int_at Try.underlying3 g0 rfl
    obtain ⟨k1, rfl, a1, b1⟩ := int_at Try.underlying3 g1 rfl
    obtain ⟨s2, rfl, c2⟩ := str_at Try.underlying9 g2 rfl
    obtain ⟨s3, rfl, c3⟩ := str_at Try.underlying9 g3 rfl
    obtain ⟨k4, rfl, a4, b4⟩ := int_at Try.underlying3 g4 rfl
    exact ⟨⟨k0, k1, s2, s3, k4⟩, rfl, c2, c3, a4, b4⟩
theorem learnt_cells : Try.prog.cellsOf 31 = 4 := by kernel_rfl
set_option maxRecDepth 100000 in
theorem rec_open {n : Nat} {cs : List Value} {y : DataW H × List MemPlace} (h : DataW.trod enc Try.prog W base spare held n 31 cs = some y) :
    ∃ o : Rec, cs = [.string o.route, .string o.name, .int .i64 o.place, .int .i64 o.hits] ∧ rWf o := by
  obtain ⟨xs, k, rfl, -, hl, hxl, hf⟩ := DataW.trod_struct Try.underlying31 h
  rw [learnt_cells] at hl
  obtain ⟨y0, y1, y2, y3, rfl⟩ := list4 (by simpa using hxl)
  obtain ⟨v0, v1, v2, v3, rfl⟩ := list4 hl
  · have g0 := hf 0 _ rfl
    have g1 := hf 1 _ rfl
    have g2 := hf 2 _ rfl
    have g3 := hf 3 _ rfl
    simp [int_cells, str_cells] at g0 g1 g2 g3
    obtain ⟨s0, rfl, c0⟩ := str_at Try.underlying9 g0 rfl
    obtain ⟨s1, rfl, c1⟩ := str_at Try.underlying9 g1 rfl
    obtain ⟨k2, rfl, a2, b2⟩ := int_at Try.underlying3 g2 rfl
    obtain ⟨k3, rfl, a3, b3⟩ := int_at Try.underlying3 g3 rfl
    exact ⟨⟨s0, s1, k2, k3⟩, rfl, c0, c1, a2, b2, a3, b3⟩
theorem choose_list {α : Type} [Inhabited α] {P : Nat → α → Prop} : ∀ (n : Nat), (∀ i, i < n → ∃ x, P i x) → ∃ l : List α, l.length = n ∧ ∀ i, i < n → P i (l.getD i default)
  | 0, _ => ⟨[], rfl, fun i hi => absurd hi (by omega)⟩
  | n + 1, h => by
    obtain ⟨l, hl, hP⟩ := choose_list n (fun i hi => h i (by omega))
    obtain ⟨x, hx⟩ := h n (by omega)
    refine ⟨l ++ [x], by simp [hl], fun i hi => ?_⟩
    by_cases e : i < n
    · have := hP i e
      rw [List.getD_eq_getElem?_getD] at this ⊢
      rwa [List.getElem?_append_left (by omega)]
    · obtain rfl : i = n := by omega
      rw [List.getD_eq_getElem?_getD, List.getElem?_append_right (by omega), hl, Nat.sub_self]
      exact hx
theorem list_ops {fuel : Nat} {cs : List Value} {x : DataW H × List MemPlace} (h : DataW.trod enc Try.prog W base (fun _ => true) held fuel 22 cs = some x) :
    ∃ (a0 : Option Addr) (cap : Nat) (ops : List OpR), cs = [.slice a0 ops.length cap] ∧ OpsAt W a0 ops ∧ (∀ o ∈ ops, oWf o) ∧ ((x.1 = .nil ∧ ops = []) ∨ ∃ el sp, x.1 = .slice el sp ∧ el.length = ops.length) := by
  rcases open_slice Try.underlying22 h with ⟨rfl, rfl⟩ | ⟨a, len, cap, m, n, D, Pl, rfl, hb, hl, hm, hmm, rfl, hx⟩
  · exact ⟨none, 0, [], rfl, ⟨fun i hi => absurd hi (by simp)⟩, by simp, .inl ⟨rfl, rfl⟩⟩
  · rw [op_cells] at hx
    have hlm : len ≤ m := by rw [hmm]; simp; omega
    obtain ⟨ops, ho, hP⟩ := choose_list (P := fun i (o : OpR) => oWf o ∧ ∀ j (v : Value), [Value.int .i64 o.on, .int .i64 o.kind, .string o.route, .string o.name, .int .i64 o.place][j]? = some v → W.cell? ((a.add (i * 5)).add j) = some v) len (fun i hi => by
      obtain ⟨cs', h1, h2⟩ := hx i (by omega)
      obtain ⟨o, rfl, hw⟩ := op_open h2
      obtain ⟨_, hlen, hcell⟩ := World.cells?_some h1
      refine ⟨o, hw, fun j v hj => ?_⟩
      have hj5 : j < 5 := (List.getElem?_eq_some_iff.1 hj).1
      rw [hcell j hj5, hj])
    refine ⟨some a, cap, ops, by rw [ho], ⟨fun i hi => ?_⟩, fun o hoo => ?_, .inr ⟨_, _, rfl, by simp [ho]⟩⟩
    · obtain ⟨-, hc⟩ := hP i (by omega)
      have c0 := hc 0 _ rfl
      have z0 := (hP 0 (by omega)).2 0 _ rfl
      obtain ⟨b, off, spot⟩ := a
      have hspot : spot = none := by simpa [Addr.add] using World.cell?_spot z0
      subst hspot
      have c1 := hc 1 _ rfl
      have c2 := hc 2 _ rfl
      have c3 := hc 3 _ rfl
      have c4 := hc 4 _ rfl
      simp only [Go.WideShapes.add_plain] at c0 c1 c2 c3 c4
      exact ⟨b, off, rfl, by have := block_lt_of_cell c0; simpa using this, c0, c1, c2, c3, c4⟩
    · obtain ⟨i, hi, e⟩ := List.getElem_of_mem hoo
      have := (hP i (by omega)).1
      rw [List.getD_eq_getElem?_getD, List.getElem?_eq_getElem hi, e] at this
      exact this
theorem list_recs {fuel : Nat} {cs : List Value} {x : DataW H × List MemPlace} (h : DataW.trod enc Try.prog W base (fun _ => true) held fuel 26 cs = some x) :
    ∃ (a0 : Option Addr) (cap : Nat) (R : List Rec), cs = [.slice a0 R.length cap] ∧ RecsAt W a0 R ∧ (∀ o ∈ R, rWf o) ∧ ((x.1 = .nil ∧ R = []) ∨ ∃ el sp, x.1 = .slice el sp ∧ el.length = R.length) := by
  rcases open_slice Try.underlying26 h with ⟨rfl, rfl⟩ | ⟨a, len, cap, m, n, D, Pl, rfl, hb, hl, hm, hmm, rfl, hx⟩
  · exact ⟨none, 0, [], rfl, ⟨fun i hi => absurd hi (by simp)⟩, by simp, .inl ⟨rfl, rfl⟩⟩
  · rw [learnt_cells] at hx
    have hlm : len ≤ m := by rw [hmm]; simp; omega
    obtain ⟨ops, ho, hP⟩ := choose_list (P := fun i (o : Rec) => rWf o ∧ ∀ j (v : Value), [Value.string o.route, .string o.name, .int .i64 o.place, .int .i64 o.hits][j]? = some v → W.cell? ((a.add (i * 4)).add j) = some v) len (fun i hi => by
      obtain ⟨cs', h1, h2⟩ := hx i (by omega)
      obtain ⟨o, rfl, hw⟩ := rec_open h2
      obtain ⟨_, hlen, hcell⟩ := World.cells?_some h1
      refine ⟨o, hw, fun j v hj => ?_⟩
      have hj5 : j < 4 := (List.getElem?_eq_some_iff.1 hj).1
      rw [hcell j hj5, hj])
    refine ⟨some a, cap, ops, by rw [ho], ⟨fun i hi => ?_⟩, fun o hoo => ?_, .inr ⟨_, _, rfl, by simp [ho]⟩⟩
    · obtain ⟨-, hc⟩ := hP i (by omega)
      have c0 := hc 0 _ rfl
      have z0 := (hP 0 (by omega)).2 0 _ rfl
      obtain ⟨b, off, spot⟩ := a
      have hspot : spot = none := by simpa [Addr.add] using World.cell?_spot z0
      subst hspot
      have c1 := hc 1 _ rfl
      have c2 := hc 2 _ rfl
      have c3 := hc 3 _ rfl
      simp only [Go.WideShapes.add_plain] at c0 c1 c2 c3
      exact ⟨b, off, rfl, by have := block_lt_of_cell c0; simpa using this, c0, c1, c2, c3⟩
    · obtain ⟨i, hi, e⟩ := List.getElem_of_mem hoo
      have := (hP i (by omega)).1
      rw [List.getD_eq_getElem?_getD, List.getElem?_eq_getElem hi, e] at this
      exact this
set_option maxRecDepth 100000 in
theorem open_ops {r : Reach} {b0 : Nat} {v : Value} {d : DataW H} {ps : List MemPlace} (hval : Value.okWide Try.prog W r b0 22 v) (hd : DataW.Trod enc Try.prog W base (fun _ => true) held 22 v d ps) :
    ∃ (a0 : Option Addr) (cap : Nat) (ops : List OpR), v = .slice a0 ops.length cap ∧ OpsAt W a0 ops ∧ (∀ o ∈ ops, oWf o) ∧ ((d = .nil ∧ ops = []) ∨ ∃ el sp, d = .slice el sp ∧ el.length = ops.length) := by
  obtain ⟨a0, len, cap, rfl⟩ := okWide_slice Try.underlying22 hval
  obtain ⟨fuel, hf⟩ := hd
  obtain ⟨a1, cap1, ops, hcs, h1, h2, h3⟩ := list_ops hf
  simp [Value.cells] at hcs
  obtain ⟨rfl, rfl, rfl⟩ := hcs
  exact ⟨a0, cap, ops, rfl, h1, h2, h3⟩
end
theorem op_bytes : Try.prog.bytesOf 29 = 56 := by kernel_rfl
end Go.Proofs.Ytcgfkmjlgblkcaa.Pat
