/- The walks of lanes.Load, Store, Less, Sum and of the reference's Load, Store, Fill, Sum. -/
import Derived.Test.YtjebhdncfjijgaaLanesW
namespace Go.Proofs.Ytjebhdncfjijgaa.Lanes
set_option linter.unusedVariables false
set_option linter.unusedSimpArgs false
open Go.RowKit Go.Proofs.Ytjebhdncfjijgaa.Bytes

theorem bcell {W w1 : World} (hb : Below W.heap.size W w1) : (∀ b o, b < W.heap.size → w1.cell? ⟨b, o, none⟩ = W.cell? ⟨b, o, none⟩) ∧ (∀ b o, b < W.heap.size → w1.frozen? ⟨b, o, none⟩ = W.frozen? ⟨b, o, none⟩) :=
  ⟨fun b o h => hb.cell (p := ⟨b, o, none⟩) h, fun b o h => hb.frozen (p := ⟨b, o, none⟩) h⟩
def loadI (b0 b1 b2 b3 b4 b5 b6 b7 : Int) : Int := bits BinOp.or IntKind.u64
                        (bits BinOp.or IntKind.u64
                          (bits BinOp.or IntKind.u64
                            (bits BinOp.or IntKind.u64
                              (bits BinOp.or IntKind.u64
                                (bits BinOp.or IntKind.u64
                                  (bits BinOp.or IntKind.u64
                                    (bits BinOp.or IntKind.u64 0 (IntKind.u64.wrap (IntKind.u64.wrap b0)))
                                    (IntKind.u64.wrap (IntKind.u64.wrap b1 * 256)))
                                  (IntKind.u64.wrap (IntKind.u64.wrap b2 * 65536)))
                                (IntKind.u64.wrap (IntKind.u64.wrap b3 * 16777216)))
                              (IntKind.u64.wrap (IntKind.u64.wrap b4 * 4294967296)))
                            (IntKind.u64.wrap (IntKind.u64.wrap b5 * 1099511627776)))
                          (IntKind.u64.wrap (IntKind.u64.wrap b6 * 281474976710656)))
                        (IntKind.u64.wrap (IntKind.u64.wrap b7 * 72057594037927936))
theorem below_row (w : World) (cs : Array Value) (t n : Nat) : Below w.heap.size w ((w.alloc (.cells cs t)).drewN n) :=
  ⟨rfl, rfl, rfl, by simp [World.drewN], fun i hi => Below.heap_alloc w _ i hi⟩
set_option maxHeartbeats 4000000 in
theorem load_w (b0 b1 b2 b3 b4 b5 b6 b7 : Int) (w : World) : Calls Try.prog 19 #[.agg #[.int .u8 b0, .int .u8 b1, .int .u8 b2, .int .u8 b3, .int .u8 b4, .int .u8 b5, .int .u8 b6, .int .u8 b7]] w fun e w' => e = .returned (.int .u64 (loadI b0 b1 b2 b3 b4 b5 b6 b7)) ∧ Below w.heap.size w w' := by
  go_enter Try.func19, Try.ntmps19
  go_wp2
  refine wp_loop_rounds 9 ?_
  iterate 8 (rw [rounds_succ]; go_wp2; go_quiet (fail); go_wp2)
  rw [rounds_succ]; go_wp2
  go_ret
  exact ⟨rfl, below_row _ _ _ _⟩

theorem below_two (w : World) (a b : Obj) : Below w.heap.size w ((w.alloc a).alloc b) := ((Below.refl _ _).alloc (Nat.le_refl _) _).alloc (by simp) _
theorem cut_bytes (x : Nat) (hx : x < 18446744073709551616) : (#[.int .u8 ((x : Int) % 256), .int .u8 ((x : Int) / 256 % 256), .int .u8 ((x : Int) / 65536 % 256), .int .u8 ((x : Int) / 16777216 % 256), .int .u8 ((x : Int) / 4294967296 % 256), .int .u8 ((x : Int) / 1099511627776 % 256), .int .u8 ((x : Int) / 281474976710656 % 256), .int .u8 ((x : Int) / 72057594037927936)] : Array Value) = #[.int .u8 (byteN x 0), .int .u8 (byteN x 1), .int .u8 (byteN x 2), .int .u8 (byteN x 3), .int .u8 (byteN x 4), .int .u8 (byteN x 5), .int .u8 (byteN x 6), .int .u8 (byteN x 7)] := by
  have e0 : (x : Int) % 256 = (byteN x 0 : Int) := by simp [byteN]
  have e1 : (x : Int) / 256 % 256 = (byteN x 1 : Int) := by simp [byteN]
  have e2 : (x : Int) / 65536 % 256 = (byteN x 2 : Int) := by simp [byteN]
  have e3 : (x : Int) / 16777216 % 256 = (byteN x 3 : Int) := by simp [byteN]
  have e4 : (x : Int) / 4294967296 % 256 = (byteN x 4 : Int) := by simp [byteN]
  have e5 : (x : Int) / 1099511627776 % 256 = (byteN x 5 : Int) := by simp [byteN]
  have e6 : (x : Int) / 281474976710656 % 256 = (byteN x 6 : Int) := by simp [byteN]
  have e7 : (x : Int) / 72057594037927936 = (byteN x 7 : Int) := by simp [byteN]; omega
  rw [e0, e1, e2, e3, e4, e5, e6, e7]
set_option maxHeartbeats 4000000 in
theorem store_w (x : Nat) (hx : x < 18446744073709551616) (w : World) : Calls Try.prog 21 #[.int .u64 x] w fun e w' => e = .returned (.agg #[.int .u8 (byteN x 0), .int .u8 (byteN x 1), .int .u8 (byteN x 2), .int .u8 (byteN x 3), .int .u8 (byteN x 4), .int .u8 (byteN x 5), .int .u8 (byteN x 6), .int .u8 (byteN x 7)]) ∧ Below w.heap.size w w' := by
  go_enter Try.func21, Try.ntmps21
  go_wp2
  refine wp_loop_rounds 9 ?_
  iterate 8 (rw [rounds_succ]; go_wp2)
  rw [rounds_succ]; go_wp2
  exact bodyPost_ret (v := .agg #[.int .u8 ((x : Int) % 256), .int .u8 ((x : Int) / 256 % 256), .int .u8 ((x : Int) / 65536 % 256), .int .u8 ((x : Int) / 16777216 % 256), .int .u8 ((x : Int) / 4294967296 % 256), .int .u8 ((x : Int) / 1099511627776 % 256), .int .u8 ((x : Int) / 281474976710656 % 256), .int .u8 ((x : Int) / 72057594037927936)]) (by simp [results, Try.results21, go_sem]) rfl ⟨by rw [cut_bytes x hx], below_two _ _ _⟩
set_option maxHeartbeats 4000000 in
theorem rstore_w (x : Nat) (hx : x < 18446744073709551616) (w : World) : Calls Try.prog 22 #[.int .u64 x] w fun e w' => e = .returned (.agg #[.int .u8 (byteN x 0), .int .u8 (byteN x 1), .int .u8 (byteN x 2), .int .u8 (byteN x 3), .int .u8 (byteN x 4), .int .u8 (byteN x 5), .int .u8 (byteN x 6), .int .u8 (byteN x 7)]) ∧ Below w.heap.size w w' := by
  have B0 := byteN_lt x 0
  have B1 := byteN_lt x 1
  have B2 := byteN_lt x 2
  have B3 := byteN_lt x 3
  have B4 := byteN_lt x 4
  have B5 := byteN_lt x 5
  have B6 := byteN_lt x 6
  have B7 := byteN_lt x 7
  go_enter Try.func22, Try.ntmps22
  go_wp2_with fail
  refine wp_loop_rounds 9 ?_
  rw [rounds_succ]; go_wp2_with fail
  refine (byte_w x 0 hx (by omega) _).mono ?_
  rintro e w' ⟨rfl, rfl⟩
  go_wp2_with fail
  rw [rounds_succ]; go_wp2_with fail
  refine (byte_w x 1 hx (by omega) _).mono ?_
  rintro e w' ⟨rfl, rfl⟩
  go_wp2_with fail
  rw [rounds_succ]; go_wp2_with fail
  refine (byte_w x 2 hx (by omega) _).mono ?_
  rintro e w' ⟨rfl, rfl⟩
  go_wp2_with fail
  rw [rounds_succ]; go_wp2_with fail
  refine (byte_w x 3 hx (by omega) _).mono ?_
  rintro e w' ⟨rfl, rfl⟩
  go_wp2_with fail
  rw [rounds_succ]; go_wp2_with fail
  refine (byte_w x 4 hx (by omega) _).mono ?_
  rintro e w' ⟨rfl, rfl⟩
  go_wp2_with fail
  rw [rounds_succ]; go_wp2_with fail
  refine (byte_w x 5 hx (by omega) _).mono ?_
  rintro e w' ⟨rfl, rfl⟩
  go_wp2_with fail
  rw [rounds_succ]; go_wp2_with fail
  refine (byte_w x 6 hx (by omega) _).mono ?_
  rintro e w' ⟨rfl, rfl⟩
  go_wp2_with fail
  rw [rounds_succ]; go_wp2_with fail
  refine (byte_w x 7 hx (by omega) _).mono ?_
  rintro e w' ⟨rfl, rfl⟩
  go_wp2_with fail
  rw [rounds_succ]; go_wp2
  exact bodyPost_ret (v := .agg #[.int .u8 (byteN x 0), .int .u8 (byteN x 1), .int .u8 (byteN x 2), .int .u8 (byteN x 3), .int .u8 (byteN x 4), .int .u8 (byteN x 5), .int .u8 (byteN x 6), .int .u8 (byteN x 7)]) (by simp [results, Try.results22, go_sem]) rfl ⟨rfl, below_two _ _ _⟩
set_option maxHeartbeats 4000000 in
theorem rload_w (b0 b1 b2 b3 b4 b5 b6 b7 : Nat) (h : b0 < 256 ∧ b1 < 256 ∧ b2 < 256 ∧ b3 < 256 ∧ b4 < 256 ∧ b5 < 256 ∧ b6 < 256 ∧ b7 < 256) (w : World) : Calls Try.prog 20 #[.agg #[.int .u8 b0, .int .u8 b1, .int .u8 b2, .int .u8 b3, .int .u8 b4, .int .u8 b5, .int .u8 b6, .int .u8 b7]] w fun e w' => e = .returned (.int .u64 (pk b0 b1 b2 b3 b4 b5 b6 b7 : Nat)) ∧ Below w.heap.size w w' := by
  obtain ⟨h0, h1, h2, h3, h4, h5, h6, h7⟩ := h
  go_enter Try.func20, Try.ntmps20
  go_wp2_with fail
  refine wp_loop_rounds 9 ?_
  iterate 8 (rw [rounds_succ]; go_wp2)
  rw [rounds_succ]; go_wp2
  go_ret
  refine ⟨?_, (Below.refl _ _).alloc (Nat.le_refl _) _⟩
  have e : (((((((((b7 : Int) * 256 + b6) * 256 + b5) * 256 + b4) * 256 + b3) * 256 + b2) * 256 + b1) * 256 + b0)) = ((pk b0 b1 b2 b3 b4 b5 b6 b7 : Nat) : Int) := by unfold pk; omega
  exact congrArg (fun z => Ending.returned (.int .u64 z)) e
theorem rfill_w (c : Nat) (hc : c < 256) (w : World) : Calls Try.prog 24 #[.int .u8 c] w fun e w' => e = .returned (.int .u64 (pk c c c c c c c c : Nat)) ∧ Below w.heap.size w w' := by
  go_enter Try.func24, Try.ntmps24
  go_wp2_with fail
  refine (rload_w c c c c c c c c (by omega) _).mono ?_
  rintro e w' ⟨rfl, hb⟩
  go_wp2_with fail
  go_ret
  exact ⟨rfl, hb⟩
/-- Which of the eight are below c, each taken as a signed one, as lanes.Less puts it together. -/
def lessB (x : Nat) (c : Int) (i : Nat) : Bool := decide (IntKind.i8.wrap (byteN x i) < c)
theorem lessB_sgn (x : Nat) (c : Int) (i : Nat) : lessB x c i = decide (sgn (byteN x i) < c) := by
  have h := byteN_lt x i
  have : IntKind.i8.wrap (byteN x i) = sgn (byteN x i) := by
    simp only [IntKind.wrap, IntKind.bits, IntKind.signed, sgn]
    simp
    omega
  rw [lessB, this]
theorem or_pow (a k : Nat) (h : a < 2 ^ k) : a ||| 2 ^ k = a + 2 ^ k := by
  have := Nat.two_pow_add_eq_or_of_lt h 1
  rw [Nat.mul_one] at this
  rw [Nat.or_comm, ← this, Nat.add_comm]
theorem low_or (p : Nat → Bool) (k : Nat) (hk : k < 8) (hp : p k = true) : bits .or .u8 (low p k : Nat) ((2 ^ k : Nat) : Int) = (low p (k + 1) : Nat) := by
  have h := low_lt p k
  have h2 : 2 ^ k ≤ 128 := Nat.le_trans (Nat.pow_le_pow_right (n := 2) (by omega) (show k ≤ 7 by omega)) (by decide)
  rw [u8_or_nat _ _ (by omega) (by omega), or_pow _ _ h]
  simp [low, hp]
set_option maxHeartbeats 4000000 in
theorem less_w (x : Nat) (hx : x < 18446744073709551616) (c : Int) (w : World) : Calls Try.prog 25 #[.int .u64 x, .int .i8 c] w fun e w' => e = .returned (.int .u8 (low (lessB x c) 8)) ∧ Below w.heap.size w w' := by
  go_enter Try.func25, Try.ntmps25
  go_wp2_with fail
  refine (store_w x hx _).mono ?_
  rintro e w' ⟨rfl, hb⟩
  obtain ⟨hcell, hfr⟩ := bcell hb
  go_wp2_with fail
  have BS := fun i => byteN_lt x i
  have HL := Lib.hid (low_lt (lessB x c))
  go_loopw [5, 11] (fun m i wr => ∃ k n : Nat, k ≤ 8 ∧ i = .int .i64 k ∧ m = .int .u8 (low (lessB x c) k) ∧ wr = (w'.alloc (.cells #[.int .u8 (byteN x 0), .int .u8 (byteN x 1), .int .u8 (byteN x 2), .int .u8 (byteN x 3), .int .u8 (byteN x 4), .int .u8 (byteN x 5), .int .u8 (byteN x 6), .int .u8 (byteN x 7)] 29)).drewN n) (fun _ i _ => 8 - (intOf i).toNat)
  case atStart => exact ⟨0, 0, by omega, rfl, rfl, rfl⟩
  case round =>
    obtain ⟨k, n, hk, rfl, rfl, rfl⟩ := hrel
    by_cases hlt : k < 8
    · by_cases hp : lessB x c k = true
      · have hs : (low (lessB x c) (k + 1) : Int) = bits .or .u8 (low (lessB x c) k : Nat) ((2 ^ k : Nat) : Int) := (low_or _ k hlt hp).symm
        have hp' : IntKind.i8.wrap (byteN x k) < c := of_decide_eq_true hp
        have : k = 0 ∨ k = 1 ∨ k = 2 ∨ k = 3 ∨ k = 4 ∨ k = 5 ∨ k = 6 ∨ k = 7 := by omega
        have HS := Lib.hid hs; clear hs hp
        rcases this with rfl | rfl | rfl | rfl | rfl | rfl | rfl | rfl
        · go_wp2
          go_quiet (fail)
          go_wp2
          go_roundw
          case rel => exact ⟨1, _, by omega, rfl, by rw [HS.out]; rfl, rfl⟩
          case measure => simp [intOf]
        · go_wp2
          go_quiet (fail)
          go_wp2
          go_roundw
          case rel => exact ⟨2, _, by omega, rfl, by rw [HS.out]; rfl, rfl⟩
          case measure => simp [intOf]
        · go_wp2
          go_quiet (fail)
          go_wp2
          go_roundw
          case rel => exact ⟨3, _, by omega, rfl, by rw [HS.out]; rfl, rfl⟩
          case measure => simp [intOf]
        · go_wp2
          go_quiet (fail)
          go_wp2
          go_roundw
          case rel => exact ⟨4, _, by omega, rfl, by rw [HS.out]; rfl, rfl⟩
          case measure => simp [intOf]
        · go_wp2
          go_quiet (fail)
          go_wp2
          go_roundw
          case rel => exact ⟨5, _, by omega, rfl, by rw [HS.out]; rfl, rfl⟩
          case measure => simp [intOf]
        · go_wp2
          go_quiet (fail)
          go_wp2
          go_roundw
          case rel => exact ⟨6, _, by omega, rfl, by rw [HS.out]; rfl, rfl⟩
          case measure => simp [intOf]
        · go_wp2
          go_quiet (fail)
          go_wp2
          go_roundw
          case rel => exact ⟨7, _, by omega, rfl, by rw [HS.out]; rfl, rfl⟩
          case measure => simp [intOf]
        · go_wp2
          go_quiet (fail)
          go_wp2
          go_roundw
          case rel => exact ⟨8, _, by omega, rfl, by rw [HS.out]; rfl, rfl⟩
          case measure => simp [intOf]
      · have hs : low (lessB x c) (k + 1) = low (lessB x c) k := by simp [low, hp]
        have hp' : ¬ IntKind.i8.wrap (byteN x k) < c := of_decide_eq_false (by simpa [lessB] using hp)
        have : k = 0 ∨ k = 1 ∨ k = 2 ∨ k = 3 ∨ k = 4 ∨ k = 5 ∨ k = 6 ∨ k = 7 := by omega
        have HS := Lib.hid hs; clear hs hp
        rcases this with rfl | rfl | rfl | rfl | rfl | rfl | rfl | rfl
        · go_wp2
          go_quiet (fail)
          go_wp2
          go_roundw
          case rel => exact ⟨1, _, by omega, rfl, by rw [HS.out], rfl⟩
          case measure => simp [intOf]
        · go_wp2
          go_quiet (fail)
          go_wp2
          go_roundw
          case rel => exact ⟨2, _, by omega, rfl, by rw [HS.out], rfl⟩
          case measure => simp [intOf]
        · go_wp2
          go_quiet (fail)
          go_wp2
          go_roundw
          case rel => exact ⟨3, _, by omega, rfl, by rw [HS.out], rfl⟩
          case measure => simp [intOf]
        · go_wp2
          go_quiet (fail)
          go_wp2
          go_roundw
          case rel => exact ⟨4, _, by omega, rfl, by rw [HS.out], rfl⟩
          case measure => simp [intOf]
        · go_wp2
          go_quiet (fail)
          go_wp2
          go_roundw
          case rel => exact ⟨5, _, by omega, rfl, by rw [HS.out], rfl⟩
          case measure => simp [intOf]
        · go_wp2
          go_quiet (fail)
          go_wp2
          go_roundw
          case rel => exact ⟨6, _, by omega, rfl, by rw [HS.out], rfl⟩
          case measure => simp [intOf]
        · go_wp2
          go_quiet (fail)
          go_wp2
          go_roundw
          case rel => exact ⟨7, _, by omega, rfl, by rw [HS.out], rfl⟩
          case measure => simp [intOf]
        · go_wp2
          go_quiet (fail)
          go_wp2
          go_roundw
          case rel => exact ⟨8, _, by omega, rfl, by rw [HS.out], rfl⟩
          case measure => simp [intOf]
    · obtain rfl : k = 8 := by omega
      go_wp2
      go_ret
      exact ⟨rfl, hb.trans ((below_row w' _ _ _).mono hb.size)⟩
def sumI (x : Int) : Int := wrap64
      (IntKind.u64.wrap
          (IntKind.u64.wrap
              (bits BinOp.and IntKind.u64 x 71777214294589695 +
                bits BinOp.and IntKind.u64 (x / 256) 71777214294589695) *
            281479271743489) /
        281474976710656)
theorem sum_w (x : Int) (w : World) : Calls Try.prog 11 #[.int .u64 x] w fun e w' => e = .returned (.int .i64 (sumI x)) ∧ w = w' := by
  go_enter Try.func11, Try.ntmps11
  go_wp2
  go_ret
  exact ⟨rfl, rfl⟩
set_option maxHeartbeats 1000000 in
theorem rsum_w (x : Nat) (hx : x < 18446744073709551616) (w : World) : Calls Try.prog 12 #[.int .u64 x] w fun e w' => e = .returned (.int .i64 ((byteN x 0 + byteN x 1 + byteN x 2 + byteN x 3 + byteN x 4 + byteN x 5 + byteN x 6 + byteN x 7 : Nat) : Int)) ∧ w = w' := by
  have B0 := byteN_lt x 0
  have B1 := byteN_lt x 1
  have B2 := byteN_lt x 2
  have B3 := byteN_lt x 3
  have B4 := byteN_lt x 4
  have B5 := byteN_lt x 5
  have B6 := byteN_lt x 6
  have B7 := byteN_lt x 7
  go_enter Try.func12, Try.ntmps12
  go_wp2_with fail
  refine wp_loop_rounds 9 ?_
  rw [rounds_succ]; go_wp2_with fail
  refine (byte_w x 0 hx (by omega) _).mono ?_
  rintro e w' ⟨rfl, rfl⟩
  go_wp2_with fail
  rw [rounds_succ]; go_wp2_with fail
  refine (byte_w x 1 hx (by omega) _).mono ?_
  rintro e w' ⟨rfl, rfl⟩
  go_wp2_with fail
  rw [rounds_succ]; go_wp2_with fail
  refine (byte_w x 2 hx (by omega) _).mono ?_
  rintro e w' ⟨rfl, rfl⟩
  go_wp2_with fail
  rw [rounds_succ]; go_wp2_with fail
  refine (byte_w x 3 hx (by omega) _).mono ?_
  rintro e w' ⟨rfl, rfl⟩
  go_wp2_with fail
  rw [rounds_succ]; go_wp2_with fail
  refine (byte_w x 4 hx (by omega) _).mono ?_
  rintro e w' ⟨rfl, rfl⟩
  go_wp2_with fail
  rw [rounds_succ]; go_wp2_with fail
  refine (byte_w x 5 hx (by omega) _).mono ?_
  rintro e w' ⟨rfl, rfl⟩
  go_wp2_with fail
  rw [rounds_succ]; go_wp2_with fail
  refine (byte_w x 6 hx (by omega) _).mono ?_
  rintro e w' ⟨rfl, rfl⟩
  go_wp2_with fail
  rw [rounds_succ]; go_wp2_with fail
  refine (byte_w x 7 hx (by omega) _).mono ?_
  rintro e w' ⟨rfl, rfl⟩
  go_wp2_with fail
  rw [rounds_succ]; go_wp2
  go_ret
  exact ⟨by simp, rfl⟩
end Go.Proofs.Ytjebhdncfjijgaa.Lanes
