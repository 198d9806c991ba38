/- The walk of slices.Clone. -/
import Derived.Test.YtcgfkmjlgblkcaaPatC
import Derived.WalkSpells
namespace Go.Proofs.Ytcgfkmjlgblkcaa.Pat
set_option linter.unusedVariables false
set_option linter.unusedSimpArgs false
open Go.RowKit Go.Proofs.Ytcgfkmjlgblkcaa.Mem Go.Proofs.Ytcgfkmjlgblkcaa.Own

def ClonePost (w : World) (n : Nat) (xs : List Value) (e : Ending) (w' : World) : Prop := ∃ v', e = .returned v' ∧ w'.ownsRow w.heap.size 63 1 v' n xs ∧ Below w.heap.size w w'
theorem ownBlock_new {w w' : World} {v : Value} (hg : w.grownBy w' v.ownBlock) {w0 : World} (h : Below w0.heap.size w0 w) (hv : ∀ b, v.ownBlock = some b → w0.heap.size ≤ b) : Below w0.heap.size w0 w' :=
  ⟨hg.os.trans h.os, hg.tape.trans h.tape, hg.output.trans h.output, Nat.le_trans h.size hg.size, fun b hb => (hg.block b (Nat.lt_of_lt_of_le hb h.size) (fun e => by have := hv b e.symm; omega)).trans (h.block b hb)⟩
set_option maxHeartbeats 2000000 in
theorem clone_w (B n : Nat) (v : Value) (xs : List Value) (w : World) (h : w.ownsRow B 63 1 v n xs) (hn : n < 17592186044400) (h1 : ∀ u ∈ xs, u.oneCell' = true) :
    Calls Try.prog 22 #[v] w (ClonePost w n xs) := by
  obtain ⟨i0, hi, hz0, hz1, hz2⟩ := info_parts e_info
  rcases h.2 with ⟨rfl, rfl⟩ | ⟨g, cap, cur, rfl, hb, hg, hnc, hcm, hcs, htake⟩
  · have hx : xs = [] := List.eq_nil_of_length_eq_zero (by simpa using h.1)
    have hq : (binOp .eql 61 (.slice none 0 0) (.slice none 0 0)).run Try.prog w = .ok (.bool true) w := Lib.run_eql_slice_nil (P := Try.prog) w _ _ none 0 0 0 0 Try.underlying61
    clear h hn h1 hi hz0 hz1 hz2
    go_enter Try.func22, Try.ntmps22
    go_wp2_with fail
    go_ret
    subst hx
    exact ⟨_, rfl, World.ownsRow_nil _ _ _ _, Below.refl _ _⟩
  · have hq : (binOp .eql 61 (.slice (some ⟨g, 0, none⟩) n cap) (.slice none 0 0)).run Try.prog w = .ok (.bool false) w := Lib.run_eql_slice_nil (P := Try.prog) w _ _ (some ⟨g, 0, none⟩) n cap 0 0 Try.underlying61
    have hcells : ∀ j u, xs[j]? = some u → (w.alloc (.cells #[] 63)).cell? ((⟨g, 0, none⟩ : Addr).add j) = some u := fun j u hj => (h.alloc _).cells (g := g) rfl j u hj
    have hown : (w.alloc (.cells #[] 63)).ownsRow w.heap.size 63 1 (.slice (some ⟨w.heap.size, 0, none⟩) 0 0) 0 [] := World.ownsRow_lit w #[] 0 (Nat.le_refl _) (by unfold maxLen; omega) rfl
    have hl : xs.length = n * 1 := h.1
    have HQ := Lib.hid hcells
    clear hcells htake hcs hcm
    go_enter Try.func22, Try.ntmps22
    go_wp2_with (at_builtin; refine App.wpList_append_where _ rfl _ _ 61 rfl w.heap.size 63 i0 (.pointer none) 1 8 Try.underlying61 hi hz0 hz1 hz2 rfl (by decide) _ _ _ rfl hown ⟨g, 0, none⟩ n cap xs rfl hl HQ.out h1 ?c3 ?c4 ?c5 ?_)
    case c3 => unfold maxLen; omega
    case c4 => omega
    case c5 => simp
    intro v' w2 hown' hgrow hwh
    go_wp2_with fail
    go_ret
    have hb2 : Below w.heap.size w w2 := ownBlock_new hgrow ((Below.refl _ w).alloc (Nat.le_refl _) _) (fun b hb => by simp [Value.ownBlock] at hb; omega)
    refine ⟨v', rfl, ?_, hb2⟩
    simpa using hown'
end Go.Proofs.Ytcgfkmjlgblkcaa.Pat
