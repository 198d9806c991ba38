/- The walks of Pick, mark, CopyLearnts. -/
import Derived.Test.YtcgfkmjlgblkcaaPatS
namespace Go.Proofs.Ytcgfkmjlgblkcaa.Pat
set_option linter.unusedVariables false
set_option linter.unusedSimpArgs false
open Go.RowKit Go.Proofs.Ytcgfkmjlgblkcaa.Mem Go.Proofs.Ytcgfkmjlgblkcaa.Own

theorem tmod_low {n k : Int} (hk : 0 < k) : -k < n.tmod k ∧ n.tmod k < k := by
  have h1 := Int.tmod_lt_of_pos n hk
  have h2 := Int.lt_tmod_of_pos n hk
  exact ⟨h2, h1⟩
theorem tmod_fix {n k : Int} (hk : 0 < k) : n % k = if n.tmod k < 0 then n.tmod k + k else n.tmod k := by
  obtain ⟨h1, h2⟩ := tmod_low (n := n) hk
  have h3 := Int.mul_tdiv_add_tmod n k
  have h4 : n % k = n.tmod k % k := by
    conv => lhs; rw [← h3]
    rw [Int.add_comm, Int.add_mul_emod_self_left]
  rw [h4]
  split
  · rename_i h
    have : n.tmod k % k = (n.tmod k + k) % k := by rw [Int.add_emod_right]
    rw [this, Int.emod_eq_of_lt (by omega) (by omega)]
  · rw [Int.emod_eq_of_lt (by omega) (by omega)]
set_option maxHeartbeats 1000000 in
theorem pick_w (n k : Int) (w : World) (hk : 0 < k) (hk2 : k ≤ 1000) : Calls Try.prog 15 #[.int .i64 n, .int .i64 k] w fun e w' => e = .returned (.int .i64 (n % k)) ∧ w' = w := by
  obtain ⟨h1, h2⟩ := tmod_low (n := n) hk
  have hf := tmod_fix (n := n) hk
  have hw : IntKind.i64.wrap (n.tmod k) = n.tmod k := IntWalk.i64_in _ (by omega)
  have h0 : (k == 0) = false := by simp; omega
  generalize hr : n.tmod k = r at *
  have HR := Lib.hid hr
  by_cases hn : r < 0
  · rw [if_pos hn] at hf
    have HF := Lib.hid hf
    have t : decide (r < 0) = true := decide_eq_true hn
    clear hf
    go_enter Try.func15, Try.ntmps15
    go_wp2_with fail
    go_ret
    rw [HF.out]; exact ⟨rfl, rfl⟩
  · rw [if_neg hn] at hf
    have HF := Lib.hid hf
    have t : decide (r < 0) = false := decide_eq_false hn
    clear hf
    go_enter Try.func15, Try.ntmps15
    go_wp2_with fail
    go_ret
    rw [HF.out]; exact ⟨rfl, rfl⟩
def markI (k i : Int) : Int := 1000003 * (k + 7) + i
theorem mark_w (k i : Int) (w : World) (h0 : 0 ≤ k) (h1 : k ≤ 1000) (h2 : 0 ≤ i) (h3 : i ≤ 1000000) : Calls Try.prog 34 #[.int .i64 k, .int .i64 i] w fun e w' => e = .returned (.int .i64 (markI k i)) ∧ w' = w := by
  go_enter Try.func34, Try.ntmps34
  go_wp2_with fail
  go_ret
  exact ⟨rfl, rfl⟩
theorem l_info : (Try.prog.info? 31).map (fun i => (i.zero, i.size, i.bytes)) = some (some (.agg #[.string .empty, .string .empty, .int .i64 0, .int .i64 0]), 4, 48) := by kernel_rfl
theorem cs_new (w : World) (x : Rec) : ∀ j u, x.cs[j]? = some u → (w.alloc (.cells #[.string x.route, .string x.name, .int .i64 x.place, .int .i64 x.hits] 31)).cell? ((⟨w.heap.size, 0, none⟩ : Addr).add j) = some u := by
  intro j u hj
  have hb := Blk.new w 31 #[.string x.route, .string x.name, .int .i64 x.place, .int .i64 x.hits]
  have e : (⟨w.heap.size, 0, none⟩ : Addr).add j = ⟨w.heap.size, j, none⟩ := by unfold Addr.add; split <;> simp_all
  rw [e, Blk.cell hb j, ← hj]
  simp [Rec.cs]
def CopyPost (w : World) (R : List Rec) (e : Ending) (w' : World) : Prop := ∃ v', e = .returned v' ∧ RowR w' w.heap.size v' R ∧ Below w.heap.size w w'
set_option maxHeartbeats 2000000 in
theorem copy_w (a0 : Option Addr) (ca n : Nat) (R : List Rec) (w : World) (hn : n = R.length) (hm : n < 1099511627776) (ha : RecsAt w a0 R) :
    Calls Try.prog 16 #[.slice a0 n ca] w (CopyPost w R) := by
  obtain ⟨i0, hi, hz0, hz1, hz2⟩ := info_parts l_info
  have HA := Lib.hid ha
  have HN := Lib.hid hn
  clear ha hn
  go_enter Try.func16, Try.ntmps16
  go_wp2_with fail
  go_loopw [3, 4] (fun v i wr => ∃ k : Nat, k ≤ n ∧ i = .int .i64 k ∧ Below w.heap.size w wr ∧ RowR wr w.heap.size v (R.take k)) (fun _ i _ => n - (intOf i).toNat)
  case atStart => exact ⟨0, Nat.zero_le _, rfl, Below.refl _ _, World.ownsRow_nil _ _ _ _⟩
  case round =>
    obtain ⟨k, hk, rfl, hbel, hrow⟩ := hrel
    by_cases hkn : k < n
    · have hkR : k < R.length := by rw [← HN.out]; exact hkn
      obtain ⟨b, off, rfl, hblt, c0, c1, c2, c3⟩ := (HA.out.below hbel).at_ k hkR
      obtain ⟨x, hx⟩ : ∃ x, ra R k = x := ⟨_, rfl⟩
      rw [hx] at c0 c1 c2 c3
      have HX := Lib.hid hx
      have tk : decide ((k : Int) < (n : Int)) = true := by simp; omega
      have h0 : (0 : Int) ≤ (k : Int) := by omega
      have h1 : (k : Int) < (n : Int) := by omega
      have hlen : (R.take k).length = k := by rw [List.length_take]; omega
      have hrow' : wr.ownsRow w.heap.size 31 4 u3 k (flat (R.take k)) := by have := hrow; unfold RowR at this; rwa [hlen] at this
      have hwz := hbel.size
      have HKR := Lib.hid hkR
      clear hx hlen hkR hrow
      go_wp2_with (at_builtin; refine App.wpList_append_where _ rfl _ _ 26 rfl w.heap.size 31 i0 (.agg #[.string .empty, .string .empty, .int .i64 0, .int .i64 0]) 4 48 Try.underlying26 hi hz0 hz1 hz2 rfl (by decide) _ _ _ rfl (hrow'.alloc _) ⟨wr.heap.size, 0, none⟩ 1 1 x.cs rfl rfl ?c1 (cs_one x) ?c3 ?c4 ?c5 ?_)
      case c1 => exact cs_new wr x
      case c3 => unfold maxLen; omega
      case c4 => omega
      case c5 => simp; omega
      intro v' w2 hown' hgrow hwh
      go_wp2_with fail
      go_roundw
      case rel =>
        refine ⟨k + 1, by omega, by go_num, ?_, ?_⟩
        · exact ownBlock_new hgrow (hbel.alloc hwz _) (fun b hb => (hrow'.lt b hb).1)
        · unfold RowR
          rw [List.take_succ_eq_append_getElem HKR.out, flat_snoc, List.length_append, List.length_take, List.length_singleton]
          have e := ra_get R k HKR.out
          rw [List.getElem?_eq_getElem HKR.out] at e
          rw [Option.some.inj e, HX.out, Nat.min_eq_left (Nat.le_of_lt HKR.out)]
          exact hown'
      case measure => simp [intOf]; omega
    · obtain rfl : n = k := by omega
      have tk : decide ((n : Int) < (n : Int)) = false := by simp
      have e : R.take n = R := by rw [HN.out, List.take_length]
      rw [e] at hrow
      clear e
      go_wp2_with fail
      go_ret
      exact ⟨_, rfl, hrow, hbel⟩
end Go.Proofs.Ytcgfkmjlgblkcaa.Pat
