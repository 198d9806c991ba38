/- The walks of form and of Runes (the making of the iterator). -/
import Derived.Test.YtpdglihihpopeaaUtfR
import Derived.Laws.Cover4
namespace Go.Proofs.Ytpdglihihpopeaa.Utf
set_option linter.unusedVariables false
set_option linter.unusedSimpArgs false
open Go.RowKit Go.Proofs.Ytpdglihihpopeaa.Mem Go.Proofs.Ytpdglihihpopeaa.Iter

theorem runesBytes_one (r : Int) : runesBytes [r] = Utf8.encode r := by
  show ByteArray.empty ++ Utf8.encode r = _
  exact ByteArray.empty_append
set_option maxHeartbeats 1000000 in
theorem form_w (r : Int) (w : World) : Calls Try.prog 22 #[.int .i32 r] w fun e w' => e = .returned (.string (Utf8.encode r)) ∧ Below w.heap.size w w' := by
  have hcv := run_convert_runes (P := Try.prog) (w.alloc (.cells #[.int .i32 r] 21)) 27 9 21 ⟨w.heap.size, 0, none⟩ 1 1 [r] (by simp) Try.underlying27 Try.underlying21 Try.underlying9 (by
    intro j hj
    obtain rfl : j = 0 := by simpa using hj
    exact Blk.cell (Blk.new w _ _) 0)
  rw [show ([r].take 1) = [r] by rfl, runesBytes_one] at hcv
  go_enter Try.func22, Try.ntmps22
  go_wp2_with fail
  go_ret
  exact ⟨rfl, (Below.refl _ w).alloc (Nat.le_refl _) _⟩
theorem fn_nil (fn : Fn) (a b : Array Value) (w : World) : (binOp .eql 23 (.func fn a b) .nilFunc).run Try.prog w = .ok (.bool false) w := by
  have h : ∀ d : Nat, (Op.equalIn (d + 1) 23 (.func fn a b) .nilFunc).run Try.prog w = .ok false w := fun d => by
    simp [Op.equalIn, run_underlying Try.underlying23]
  simp only [binOp]
  simp [Op.equal, Op.maxDepth, h 9999]
def Made (s : ByteArray) (w : World) (e : Ending) (w' : World) : Prop :=
  e = .returned (.func (.func 23) #[] #[.pointer (some ⟨w.heap.size, 0, none⟩)]) ∧ w'.cell? ⟨w.heap.size, 0, none⟩ = some (.string s) ∧ Below w.heap.size w w' ∧ w'.heap.size = w.heap.size + 1
set_option maxHeartbeats 1000000 in
theorem runes_w (s : ByteArray) (w : World) : Calls Try.prog 9 #[.string s] w (Made s w) := by
  go_enter Try.func9, Try.ntmps9
  go_wp2_with fail
  go_ret
  exact ⟨rfl, Blk.cell (Blk.new w _ _) 0, (Below.refl _ w).alloc (Nat.le_refl _) _, by simp⟩
end Go.Proofs.Ytpdglihihpopeaa.Utf
