/- The law of words and bytes: its walk. -/
import Derived.Test.YtjebhdncfjijgaaLanesT
import Derived.Deep.RegionHeld3
import Derived.Deep.DrawnRows
namespace Go.Proofs.Ytjebhdncfjijgaa.Lanes
set_option linter.unusedVariables false
set_option linter.unusedSimpArgs false
open Go.RowKit Go.Proofs.Ytjebhdncfjijgaa.Bytes
attribute [local go_sem ↓] Go.wp_at_zero Go.wp_at_succ

theorem bthen {w A B : World} (h : Below w.heap.size w A) (hb : Below A.heap.size A B) : Below w.heap.size w B := h.trans (hb.mono h.size)
/-- Eight bytes are equal to themselves. -/
theorem eq8 (b0 b1 b2 b3 b4 b5 b6 b7 : Int) (w : World) : (Op.equalIn 10000 29 (.agg #[.int .u8 b0, .int .u8 b1, .int .u8 b2, .int .u8 b3, .int .u8 b4, .int .u8 b5, .int .u8 b6, .int .u8 b7]) (.agg #[.int .u8 b0, .int .u8 b1, .int .u8 b2, .int .u8 b3, .int .u8 b4, .int .u8 b5, .int .u8 b6, .int .u8 b7])).run Try.prog w = .ok true w := by
  have u5 := Try.underlying5
  have a5 := Try.isAgg5
  have z5 := Try.sizeOf5
  rw [show (10000 : Nat) = 9999 + 1 from rfl, Op.equalIn]
  simp only [Sem.run_bind, run_underlying Try.underlying29, Result.andThen_ok]
  simp only [Std.Legacy.Range.forIn_eq_forIn_range', Std.Legacy.Range.size, Nat.sub_zero, Nat.add_sub_cancel, Nat.div_one, List.range'_succ, List.range'_zero, List.forIn_cons, List.forIn_nil]
  go_simp
set_option maxHeartbeats 4000000 in
set_option maxRecDepth 100000 in
theorem packs_law (b0 b1 b2 b3 b4 b5 b6 b7 x c : Nat) (hb : b0 < 256 ∧ b1 < 256 ∧ b2 < 256 ∧ b3 < 256 ∧ b4 < 256 ∧ b5 < 256 ∧ b6 < 256 ∧ b7 < 256) (hx : x < 18446744073709551616) (hc : c < 256) (w : World) :
    Calls Try.prog 6 #[.agg #[.int .u8 b0, .int .u8 b1, .int .u8 b2, .int .u8 b3, .int .u8 b4, .int .u8 b5, .int .u8 b6, .int .u8 b7], .int .u64 x, .int .u8 c] w fun e w' => e = .returned (.bool true) ∧ Below w.heap.size w w' := by
  have heq := fun (b0 b1 b2 b3 b4 b5 b6 b7 : Int) (w : World) => eq8 b0 b1 b2 b3 b4 b5 b6 b7 w
  have H1 := Lib.hid (load_pk hb)
  have H2 := Lib.hid (fill_pk c hc)
  go_enter Try.func6, Try.ntmps6
  go_wp2_with fail
  go_region_held3 (fun w' => w.heap.size < w'.heap.size ∧ w'.cell? ⟨w.heap.size, 0, none⟩ = some (.int .u8 b0) ∧ w'.cell? ⟨w.heap.size, 1, none⟩ = some (.int .u8 b1) ∧ w'.cell? ⟨w.heap.size, 2, none⟩ = some (.int .u8 b2) ∧ w'.cell? ⟨w.heap.size, 3, none⟩ = some (.int .u8 b3) ∧ w'.cell? ⟨w.heap.size, 4, none⟩ = some (.int .u8 b4) ∧ w'.cell? ⟨w.heap.size, 5, none⟩ = some (.int .u8 b5) ∧ w'.cell? ⟨w.heap.size, 6, none⟩ = some (.int .u8 b6) ∧ w'.cell? ⟨w.heap.size, 7, none⟩ = some (.int .u8 b7)) ((go_split_ands; refine ⟨?_, ?_, ?_, ?_, ?_, ?_, ?_, ?_, ?_⟩ <;> first | omega | go_keep))
    (first
    | (go_at_call 19; refine (load_w _ _ _ _ _ _ _ _ _).mono ?_; rintro e w1 ⟨rfl, hb1⟩; have hz_hb1 := hb1.size; obtain ⟨hcc, hff⟩ := bcell hb1; rw [H1.out])
    | (go_at_call 20; refine (rload_w _ _ _ _ _ _ _ _ hb _).mono ?_; rintro e w1 ⟨rfl, hb2⟩; have hz_hb2 := hb2.size; obtain ⟨hcc2, hff2⟩ := bcell hb2)
    | (go_at_call 21; refine (store_w x hx _).mono ?_; rintro e w1 ⟨rfl, hb3⟩; have hz_hb3 := hb3.size; obtain ⟨hcc3, hff3⟩ := bcell hb3)
    | (go_at_call 22; refine (rstore_w x hx _).mono ?_; rintro e w1 ⟨rfl, hb4⟩; have hz_hb4 := hb4.size; obtain ⟨hcc4, hff4⟩ := bcell hb4)
    | (go_at_call 23; refine (fill_w _ _).mono ?_; rintro e w1 ⟨rfl, rfl⟩; rw [H2.out])
    | (go_at_call 24; refine (rfill_w c hc _).mono ?_; rintro e w1 ⟨rfl, hb5⟩; have hz_hb5 := hb5.size; obtain ⟨hcc5, hff5⟩ := bcell hb5))
  go_wp2
  go_ret
  exact ⟨rfl, bthen (bthen (bthen (bthen (bthen ((Below.refl w.heap.size w).alloc (Nat.le_refl _) _).drew hb1) hb2) hb3) hb4) hb5⟩
end Go.Proofs.Ytjebhdncfjijgaa.Lanes
