/- For the walk of TextsSpells: the making of the iterator; general laws of a text's characters (as in wip/utf8's UtfN and UtfB). -/
import Derived.Test.YtlfkhfmepcnfeaaSpM
import Derived.Test.YtlfkhfmepcnfeaaUtfR
namespace Go.Proofs.Ytlfkhfmepcnfeaa.Utf
set_option linter.unusedVariables false
set_option linter.unusedSimpArgs false
open Go.RowKit Go.Proofs.Ytlfkhfmepcnfeaa.Mem Go.Proofs.Ytlfkhfmepcnfeaa.Iter

theorem fn_nil (fn : Fn) (a b : Array Value) (w : World) : (binOp .eql 34 (.func fn a b) .nilFunc).run Try.prog w = .ok (.bool false) w := by
  have h : ∀ d : Nat, (Op.equalIn (d + 1) 34 (.func fn a b) .nilFunc).run Try.prog w = .ok false w := fun d => by
    simp [Op.equalIn, run_underlying Try.underlying34]
  simp only [binOp]
  simp [Op.equal, Op.maxDepth, h 9999]
def Made (s : ByteArray) (w : World) (e : Ending) (w' : World) : Prop :=
  e = .returned (.func (.func 39) #[] #[.pointer (some ⟨w.heap.size, 0, none⟩)]) ∧ w'.cell? ⟨w.heap.size, 0, none⟩ = some (.string s) ∧ Below w.heap.size w w' ∧ w'.heap.size = w.heap.size + 1
set_option maxHeartbeats 1000000 in
theorem runes_w (s : ByteArray) (w : World) : Calls Try.prog 20 #[.string s] w (Made s w) := by
  go_enter Try.func20, Try.ntmps20
  go_wp2_with fail
  go_ret
  exact ⟨rfl, Blk.cell (Blk.new w _ _) 0, (Below.refl _ w).alloc (Nat.le_refl _) _, by simp⟩
theorem inRow_at : ∀ (pre : List (Nat × Int)) (m : Nat) (x : Nat × Int) (post : List (Nat × Int)), InRow m (pre ++ x :: post) → x.1 = m + (forms pre).length ∧ sizeF x.2 = ((encL x.2).length : Int) ∧ sizeF x.2 ≠ 0
  | [], m, x, post, h => ⟨by simp [forms, h.1], h.2.1, h.2.2.1⟩
  | y :: pre, m, x, post, h => by
    obtain ⟨a, b, c⟩ := inRow_at pre _ x post h.2.2.2
    exact ⟨by rw [a, forms_cons, List.length_append, Nat.add_assoc], b, c⟩
/-- What the runes of a text are. -/
theorem runes_all (l : List UInt8) : InRow 0 (runesL l) ∧ (∃ rest, l = forms (runesL l) ++ rest ∧
    ((badL l = -1 ∧ rest = []) ∨ ∃ k : Nat, badL l = (k : Int) ∧ (forms (runesL l)).length ≤ k ∧ k ≤ l.length ∧ k < (forms (runesL l)).length + 4)) := by
  have h := runes_back l st0 [] 0 (.inl ⟨rfl, rfl⟩)
  simp only [List.length_nil, Nat.add_zero, List.nil_append, Nat.zero_add] at h
  exact h
theorem take_of {l a b : List UInt8} (h : l = a ++ b) : l.take a.length = a := by rw [h, List.take_left]
theorem undrew {B : Nat} {A W : World} (h : Below B A.drew W) : Below B A W := ⟨h.os, h.tape, h.output, h.size, h.block⟩
/-- The spelled characters, one behind the other. -/
def SpellsAll (rs : List (Nat × Int)) (B : ByteArray) : Prop := (∀ m, Txt.unF (B.data.toList ++ m) = (Txt.unF m).map (forms rs ++ ·)) ∧ badL B.data.toList = -1 ∧ B.size ≤ 12 * rs.length
theorem spells_nil : SpellsAll [] .empty := ⟨fun m => by show Txt.unF ([] ++ m) = _; simp [forms], by show badL [] = -1; simp [badL, runL, endF, sc0, st0], by simp⟩
theorem spells_snoc {rs : List (Nat × Int)} {B X : ByteArray} {x : Nat × Int} (h : SpellsAll rs B) (hx : Txt.Spells x.2 X) : SpellsAll (rs ++ [x]) (B ++ X) := by
  obtain ⟨h1, h2, h3⟩ := h
  obtain ⟨g1, g2, g3⟩ := hx
  have hl : (B ++ X).data.toList = B.data.toList ++ X.data.toList := by simp [ByteArray.toList_data_append]
  refine ⟨fun m => ?_, ?_, ?_⟩
  · rw [hl, List.append_assoc, h1, g1, forms_app]
    have e : forms [x] = encL x.2 := by simp [forms]
    rw [e]
    cases Txt.unF m <;> simp
  · rw [hl]; exact good_app _ _ h2 g2
  · rw [ByteArray.size_append, List.length_append, List.length_singleton]; omega
/-- Behind the last character: the text. -/
theorem spells_end {s B : ByteArray} (hb : badF s = -1) (h : SpellsAll (runesL s.data.toList) B) : Txt.unB B = s ∧ Txt.unE B = 0 := by
  obtain ⟨h1, h2, -⟩ := h
  obtain ⟨-, rest, hr, hc⟩ := runes_all s.data.toList
  have hrest : rest = [] := by
    rcases hc with ⟨-, h⟩ | ⟨k, hk, -⟩
    · exact h
    · rw [badF_run, hk] at hb; omega
  rw [hrest, List.append_nil] at hr
  have hu : Txt.unF B.data.toList = some s.data.toList := by
    have := h1 []
    rw [List.append_nil, Txt.unF_nil] at this
    rw [this, ← hr]; simp
  obtain ⟨e1, e2⟩ := Txt.un_some (by rw [badF_run]; exact h2) hu
  refine ⟨?_, e2⟩
  rw [e1]
end Go.Proofs.Ytlfkhfmepcnfeaa.Utf
