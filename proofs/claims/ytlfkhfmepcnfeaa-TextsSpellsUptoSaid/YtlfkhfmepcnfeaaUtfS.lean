/- The walks of package utf8: a state's step. -/
import Derived.Test.YtlfkhfmepcnfeaaUtf
namespace Go.Proofs.Ytlfkhfmepcnfeaa.Utf
set_option linter.unusedVariables false
set_option linter.unusedSimpArgs false
open Go.RowKit Go.Proofs.Ytlfkhfmepcnfeaa.Mem

/-- What one more byte makes of a state. -/
def stepF (st : St) (x : Int) : Bool × St :=
  if st.want = 0 then beginF x
  else if x < st.lo ∨ st.hi < x then (false, st)
  else (true, ⟨st.want - 1, 128, 191, st.ch * 64 + (x - 128)⟩)

set_option maxHeartbeats 1000000 in
set_option maxRecDepth 100000 in
theorem step_w (b : Nat) (T : TypeId) (x : Int) (h0 : 0 ≤ x) (h256 : x < 256) (st : St) (rest : List Value) (w : World) (hb : At w b T st rest)
    (hwn : 0 ≤ st.want) (hwl : st.want < 4) (hlo : st.want ≠ 0 → 128 ≤ st.lo) (hhi : st.want ≠ 0 → st.hi ≤ 191) (hc0 : 0 ≤ st.ch) (hc : st.want ≠ 0 → st.ch < 32768) :
    Calls Try.prog 40 #[.pointer (some ⟨b, 0, none⟩), .int .u8 x] w (Begun b T rest w (stepF st x)) := by
  have k0 : w.cell? ⟨b, 0, none⟩ = some (.int .i64 st.want) := Blk.cell hb 0
  have k1 : w.cell? ⟨b, 1, none⟩ = some (.int .u8 st.lo) := Blk.cell hb 1
  have k2 : w.cell? ⟨b, 2, none⟩ = some (.int .u8 st.hi) := Blk.cell hb 2
  have k3 : w.cell? ⟨b, 3, none⟩ = some (.int .i32 st.ch) := Blk.cell hb 3
  have f0 := Blk.frozen hb 0
  have f1 := Blk.frozen hb 1
  have f2 := Blk.frozen hb 2
  have f3 := Blk.frozen hb 3
  have DS := fun (u : World) (i : Nat) (v : Value) => deep_same u b i v
  have DO := fun (u : World) (i : Nat) (p : Addr) (v : Value) => deep_some u b i p v
  by_cases hz : st.want = 0
  · have t0 : (st.want == 0) = true := by simp [hz]
    rw [show stepF st x = beginF x by unfold stepF; rw [if_pos hz]]
    have HC := Lib.hid (begin_w b T x h0 h256 st rest w hb)
    clear hz hc hlo hhi
    go_enter Try.func40, Try.ntmps40
    go_wp2_with (refine HC.out.mono ?_; rintro e w' ⟨rfl, h1, h2⟩)
    go_ret
    exact ⟨rfl, h1, h2⟩
  · have t0 : (st.want == 0) = false := by simp [hz]
    replace hlo := hlo hz
    replace hhi := hhi hz
    by_cases hlow : x < st.lo
    · have t1 : decide (x < st.lo) = true := by simp [hlow]
      rw [show stepF st x = (false, st) by unfold stepF; rw [if_neg hz, if_pos (Or.inl hlow)]]
      clear hz hlow hc
      go_enter Try.func40, Try.ntmps40
      go_wp2_with fail
      go_ret
      exact ⟨rfl, hb, Only.refl b w⟩
    by_cases hhigh : st.hi < x
    · have t1 : decide (x < st.lo) = false := by simp; omega
      have t2 : decide (x > st.hi) = true := by simp; omega
      have t3 : decide (st.hi < x) = true := by simp; omega
      rw [show stepF st x = (false, st) by unfold stepF; rw [if_neg hz, if_pos (Or.inr hhigh)]]
      clear hz hlow hhigh hc
      go_enter Try.func40, Try.ntmps40
      go_wp2_with fail
      go_ret
      exact ⟨rfl, hb, Only.refl b w⟩
    · have t1 : decide (x < st.lo) = false := by simp; omega
      have t2 : decide (x > st.hi) = false := by simp; omega
      have t3 : decide (st.hi < x) = false := by simp; omega
      have hcc := hc hz
      have HW := Lib.hid (show st.want - 1 < 9223372036854775808 ∧ -9223372036854775808 ≤ st.want - 1 by omega)
      rw [show stepF st x = (true, ⟨st.want - 1, 128, 191, st.ch * 64 + (x - 128)⟩) by unfold stepF; rw [if_neg hz, if_neg (by omega)]]
      clear hz hc
      go_enter Try.func40, Try.ntmps40
      go_wp2_with fail
      go_ret
      unfold Begun
      refine ⟨rfl, at_of (((((show Blk w b T (st.cells rest) from hb).set_ 0 _).set_ 1 _).set_ 2 _).set_ 3 _) ?_, ((((Only.refl b w).setCell 0 _).setCell 1 _).setCell 2 _).setCell 3 _⟩
      simp [St.cells]
      omega
end Go.Proofs.Ytlfkhfmepcnfeaa.Utf
