/- Chapters 13 and 14 (floats, shortest): how the laws' arguments are opened and their rows are closed. No conditions beside those that each contract names. -/
import Derived.WalkKit
import Derived.ProofKit
import Derived.OpenShut
import Derived.ShutString
import Derived.ChangeOld
import Derived.Below
import Derived.Carry
import Derived.SizedLaws
import Derived.Test.YtabmalnandbocaaGreatDoorRows
import Derived.Lib.SmallJoins
import Derived.ChangeArms
import Derived.Laws.Cover2
import Derived.Lay
import Derived.Stop.Joined
namespace Go.Proofs.YtabmalnandbocaaGreatDoor.Close
set_option exponentiation.threshold 3000
set_option linter.unusedVariables false
set_option linter.unusedSimpArgs false
open Go.ChangeShapes Go.WideShapes Go.ChangeAt Go.RowKit

section
variable {H : Type} {enc : TypeId × Value → H} {P : Program}
/-- All arguments read behind the call as they did before. -/
theorem all_below (hl : laidOutB P = true) {W W' : World} (hb : Below W.heap.size W W') : ∀ {ts : List TypeId} {vs : List Value} {ds : List (DataW H)} {ps : List MemPlace},
    (∀ t ∈ ts, P.readableRec t = true ∧ t < P.types.size) → (∀ x ∈ ps, x.block < W.heap.size) →
    DataW.TrodAll enc P W 0 (fun _ => true) true ts vs ds ps → DataW.TrodAll enc P W' 0 (fun b => decide (b < W.heap.size)) true ts vs ds ps
  | [], vs, ds, ps, _, _, h => by
    obtain ⟨rfl, rfl, rfl⟩ := trodAll_nil h
    exact trodAll_mk0
  | t :: ts, vs, ds, ps, hr, hlt, h => by
    obtain ⟨v, vs', d, ds', p, q, rfl, rfl, rfl, h0, r0⟩ := trodAll_cons h
    exact trodAll_cons_mk (Below.trod hl (hr t (by simp)).1 (hr t (by simp)).2 h0 hb (fun x hx => hlt x (by simp [hx])))
      (all_below hl hb (fun t' ht' => hr t' (by simp [ht'])) (fun x hx => hlt x (by simp [hx])) r0)

theorem law_post {f : Func} {s : ChangeSpec} {apart : Bool} {W W' : World} {args : Array Value} {ds : List (DataW H)} {before p : List MemPlace} {T : TypeId} (hl : laidOutB P = true)
    (hr : f.params.toList.all (fun t => P.readableRec t && decide (t < P.types.size)) = true) (hres : f.resultTypes = #[T]) (hT : P.underlying T = some .bool) (hvars : s.vars = [])
    (hspec : s.fn H (ds ++ []) = { results := [.lit (.bool true)], args := ds }) (hW : DataW.Whole enc P f.params.toList s.vars apart W args.toList ds [] before)
    (hA : DataW.TrodAll enc P W 0 (fun _ => true) true f.params.toList args.toList ds p) (hlt : ∀ x ∈ p, x.block < W.heap.size)
    (hb : Below W.heap.size W W') : s.post enc P f apart true false false W args (.bool true) W' := by
  refine ⟨ds, [], before, [], p, [], hW, ?_, ?_, ?_, hb.frame _, fun h => by cases h⟩
  · rw [hspec, hres]
    exact trodAll_mk1 (shut_bool hT _)
  · rw [hspec]
    exact all_below hl hb (fun t ht => by
      have := List.all_eq_true.1 hr t ht
      simp only [Bool.and_eq_true, decide_eq_true_eq] at this
      exact this) hlt hA
  · rw [hspec, hvars]
    exact rfl
end
end Go.Proofs.YtabmalnandbocaaGreatDoor.Close
namespace Go.Proofs.YtabmalnandbocaaGreatDoor.Opd
set_option exponentiation.threshold 3000
set_option linter.unusedVariables false
set_option linter.unusedSimpArgs false
open Go.ChangeShapes Go.WideShapes Go.ChangeAt Go.RowKit
section
variable {H : Type} {enc : TypeId × Value → H} {w : World} {base : Nat} {spare : Nat → Bool} {held : Bool}
set_option maxRecDepth 100000 in
theorem open_dec {r : Reach} {b0 : Nat} {v : Value} {d : DataW H} {p : List MemPlace} (hv : Value.okWide Tryz.prog w r b0 32 v) (h : DataW.Trod enc Tryz.prog w base spare held 32 v d p) :
    ∃ (neg : Bool) (s : ByteArray) (e : Int), v = .agg #[.bool neg, .string s, .int .i64 e] ∧ d = .agg [.lit (.bool neg), .lit (.string s.data.toList), .lit (.int .i64 e)] ∧ p = [] ∧ (Lit.int .i64 e).wf = true := by
  obtain ⟨v0, v1, v2, y0, y1, y2, n, rfl, rfl, rfl, h0, h1, h2⟩ := Joins.open_agg3 Tryz.underlying32 (by kernel_rfl) (by kernel_rfl) hv h
  obtain ⟨b, hb, hy0⟩ := DataW.trod_bool Tryz.underlying4 h0
  obtain ⟨s, hs, hy1, -⟩ := DataW.trod_string Tryz.underlying9 h1
  obtain ⟨e, he, hy2, hw⟩ := DataW.trod_int Tryz.underlying3 h2
  cases hb; cases hs; cases he
  subst hy0; subst hy1; subst hy2
  exact ⟨b, s, e, rfl, rfl, rfl, hw⟩
theorem dec_size {ts : List TypeId} {ds : List (DataW H)} (h : (DataW.weightsEach Tryz.prog ts ds).all (· ≤ reachBytes) = true) {j : Nat} {neg : Bool} {s : List UInt8} {e : Int} (ht : ts[j]? = some 32) (hd : ds[j]? = some (.agg [.lit (.bool neg), .lit (.string s), .lit (.int .i64 e)])) : s.length ≤ reachBytes := by
  have := List.all_eq_true.1 h _ (DataW.weights_mem_each ht hd s.length (by simp [DataW.weights, Tryz.underlying32, DataW.weightsEach]))
  simpa using this
end
end Go.Proofs.YtabmalnandbocaaGreatDoor.Opd
