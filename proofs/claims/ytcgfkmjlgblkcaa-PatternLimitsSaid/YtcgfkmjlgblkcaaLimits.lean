/- The walk of PatternLimits. -/
import Derived.Test.YtcgfkmjlgblkcaaBounds
import Derived.Laws.OwnMore
namespace Go.Proofs.Ytcgfkmjlgblkcaa.Pat
set_option linter.unusedVariables false
set_option linter.unusedSimpArgs false
open Go.RowKit Go.Proofs.Ytcgfkmjlgblkcaa.Mem Go.Proofs.Ytcgfkmjlgblkcaa.Own

def lrec (i : Nat) : Rec := ⟨.empty, ⟨#[UInt8.ofNat (i % 256), UInt8.ofNat (i / 256)]⟩, (i : Int), 0⟩
def lrecs : List Rec := (List.range 4096).map lrec
theorem made (w : World) : ∃ cs : Array Value, (Instr.makeSlice 26 (.int .i64 4096) (.int .i64 4096)).run Try.prog w = .ok (.slice (some ⟨w.heap.size, 0, none⟩) 4096 4096) (w.alloc (.cells cs 31)) ∧ cs.size = 16384 := by
  obtain ⟨i, hi⟩ : ∃ i, Try.prog.info? 31 = some i := Option.isSome_iff_exists.1 (by kernel_rfl)
  have hz : ∃ z, i.zero = some z := ⟨(Try.prog.info? 31).bind (·.zero) |>.getD default, by
    have : ∀ j, Try.prog.info? 31 = some j → j.zero = some ((Try.prog.info? 31).bind (·.zero) |>.getD default) := by
      intro j hj
      rw [hj]
      cases hjz : j.zero with
      | some z => simp [hjz]
      | none => exact absurd (show (Try.prog.info? 31).bind (·.zero) = none by rw [hj]; exact hjz) (by
          have : ((Try.prog.info? 31).bind (·.zero)).isSome = true := by kernel_rfl
          intro e; rw [e] at this; exact absurd this (by simp))
    exact this i hi⟩
  obtain ⟨z, hz⟩ := hz
  have hs : i.size = 4 := by
    have : (Try.prog.info? 31).map (·.size) = some 4 := by kernel_rfl
    rw [hi] at this; simpa using this
  have hb : i.bytes = 48 := by
    have : (Try.prog.info? 31).map (·.bytes) = some 48 := by kernel_rfl
    rw [hi] at this; simpa using this
  have h := run_makeSlice (P := Try.prog) w 26 31 i z Try.underlying26 hi hz .i64 .i64 4096 4096 (by omega) (by omega) (by rw [hs]; simp) (by rw [hb]; omega) (by omega)
  refine ⟨_, h, ?_⟩
  rw [size_madeCells, hs]; rfl
theorem conv_k (k : Nat) (hk : k < 4096) (w : World) : (convert 33 9 (.slice (some ⟨w.heap.size, 0, none⟩) 2 2)).run Try.prog (w.alloc (.cells #[.int .u8 ((k : Int) % 256), .int .u8 ((k : Int) / 256)] 5)) = .ok (.string (lrec k).name) (w.alloc (.cells #[.int .u8 ((k : Int) % 256), .int .u8 ((k : Int) / 256)] 5)) := by
  have hb := Blk.new w 5 #[.int .u8 ((k : Int) % 256), .int .u8 ((k : Int) / 256)]
  refine run_convert_bytes_back (P := Try.prog) _ 33 9 5 ⟨w.heap.size, 0, none⟩ 2 [UInt8.ofNat (k % 256), UInt8.ofNat (k / 256)] Try.underlying33 Try.underlying5 Try.underlying9 (fun j hj => ?_)
  match j, hj with
  | 0, _ =>
    refine (Blk.cell hb 0).trans ?_
    show some (Value.int .u8 ((k : Int) % 256)) = some (Value.int .u8 ((UInt8.ofNat (k % 256)).toNat : Int))
    rw [UInt8.toNat_ofNat', show k % 256 % 2 ^ 8 = k % 256 by omega]; congr 2
  | 1, _ =>
    refine (Blk.cell hb 1).trans ?_
    show some (Value.int .u8 ((k : Int) / 256)) = some (Value.int .u8 ((UInt8.ofNat (k / 256)).toNat : Int))
    rw [UInt8.toNat_ofNat', show k / 256 % 2 ^ 8 = k / 256 by omega]; congr 2
def set4 (c : Array Value) (k : Nat) (x : Rec) : Array Value := (((c.setIfInBounds (k * 4) (.string x.route)).setIfInBounds (k * 4 + 1) (.string x.name)).setIfInBounds (k * 4 + 2) (.int .i64 x.place)).setIfInBounds (k * 4 + 3) (.int .i64 x.hits)
theorem set4_size (c : Array Value) (k : Nat) (x : Rec) : (set4 c k x).size = c.size := by simp [set4]
theorem set4_at {c : Array Value} {k : Nat} {f : Nat → Rec} (hs : c.size = 16384) (hk : k < 4096) (h : ∀ a, a < k → ∀ j, j < 4 → c[a * 4 + j]? = (f a).cs[j]?) :
    ∀ a, a < k + 1 → ∀ j, j < 4 → (set4 c k (f k))[a * 4 + j]? = (f a).cs[j]? := by
  intro a ha j hj
  unfold set4
  rw [Array.getElem?_setIfInBounds, Array.getElem?_setIfInBounds, Array.getElem?_setIfInBounds, Array.getElem?_setIfInBounds]
  simp only [Array.size_setIfInBounds, hs]
  by_cases hak : a < k
  · rw [if_neg (by omega), if_neg (by omega), if_neg (by omega), if_neg (by omega)]
    exact h a hak j hj
  · obtain rfl : a = k := by omega
    match j, hj with
    | 0, _ => rw [if_neg (by omega), if_neg (by omega), if_neg (by omega), if_pos (by omega), if_pos (by omega)]; rfl
    | 1, _ => rw [if_neg (by omega), if_neg (by omega), if_pos (by omega), if_pos (by omega)]; rfl
    | 2, _ => rw [if_neg (by omega), if_pos (by omega), if_pos (by omega)]; rfl
    | 3, _ => rw [if_pos (by omega), if_pos (by omega)]; rfl
theorem lrecs_len : lrecs.length = 4096 := by simp [lrecs]
theorem lrecs_at {i : Nat} (h : i < 4096) : ra lrecs i = lrec i := by
  have h1 := ra_get lrecs i (by rw [lrecs_len]; exact h)
  unfold lrecs at h1 ⊢
  rw [List.getElem?_map, List.getElem?_range h] at h1
  exact (Option.some.inj h1).symm
theorem lrec_name {i j : Nat} (hi : i < 4096) (hj : j < 4096) (h : (lrec i).name = (lrec j).name) : i = j := by
  have h1 : UInt8.ofNat (i % 256) = UInt8.ofNat (j % 256) ∧ UInt8.ofNat (i / 256) = UInt8.ofNat (j / 256) := by simpa [lrec] using h
  have h2 := congrArg UInt8.toNat h1.1
  have h3 := congrArg UInt8.toNat h1.2
  rw [UInt8.toNat_ofNat', UInt8.toNat_ofNat'] at h2 h3
  omega
theorem lrecs_ok : OkR 4096 lrecs := by
  refine ⟨.inl (by rw [lrecs_len]; exact Int.le_refl _), fun x hx => ?_, ?_⟩
  · obtain ⟨i, hi, rfl⟩ := List.mem_map.1 hx
    exact ⟨Int.natCast_nonneg i, Int.le_refl _, by show (0 : Int) ≤ _; omega⟩
  · rw [List.pairwise_iff_getElem]
    intro i j hi hj hij
    rw [lrecs_len] at hi hj
    have a1 := ra_get lrecs i (by rw [lrecs_len]; exact hi)
    have a2 := ra_get lrecs j (by rw [lrecs_len]; exact hj)
    rw [List.getElem?_eq_getElem (by rw [lrecs_len]; exact hi), lrecs_at hi] at a1
    rw [List.getElem?_eq_getElem (by rw [lrecs_len]; exact hj), lrecs_at hj] at a2
    rw [Option.some.inj a1, Option.some.inj a2]
    exact fun h => absurd (lrec_name hi hj h.2) (by omega)
theorem lrecs_wf : ∀ x ∈ lrecs, rWf x := by
  intro x hx
  obtain ⟨i, hi, rfl⟩ := List.mem_map.1 hx
  have hi := List.mem_range.1 hi
  refine ⟨by show (0 : Nat) ≤ _; omega, by show (2 : Nat) ≤ maxLen; unfold maxLen; omega, ?_, ?_, ?_, ?_⟩
  · show _ ≤ (i : Int); omega
  · show (i : Int) ≤ _; omega
  · show _ ≤ (0 : Int); omega
  · show (0 : Int) ≤ _; omega
/-- A list of one, written out, lies where it is built. -/
theorem recs_one (w : World) (x : Rec) : RecsAt (w.alloc (.cells #[.string x.route, .string x.name, .int .i64 x.place, .int .i64 x.hits] 31)) (some ⟨w.heap.size, 0, none⟩) [x] := by
  have hb := Blk.new w 31 #[.string x.route, .string x.name, .int .i64 x.place, .int .i64 x.hits]
  refine ⟨fun i hi => ?_⟩
  match i, hi with
  | 0, _ => exact ⟨_, _, rfl, by simp, Blk.cell hb 0, Blk.cell hb 1, Blk.cell hb 2, Blk.cell hb 3⟩
  | i + 1, hi => exact absurd hi (by simp)
theorem big_ok : OkR 1 [⟨.empty, .empty, 0, 4611686018427387904⟩] := ⟨.inl (by simp), by simp [rFine], by simp⟩
theorem big_bad : ¬ OkR 1 [⟨.empty, .empty, 0, 4611686018427387905⟩] := fun h => by
  have := h.2.1 _ (List.mem_singleton.2 rfl)
  exact absurd this.2.2 (by simp)
theorem big_learn : learnF 1 [⟨.empty, .empty, 0, 4611686018427387904⟩] .empty .empty 0 = [⟨.empty, .empty, 0, 4611686018427387904⟩] := by
  unfold learnF
  rw [if_neg (by omega), if_pos ⟨_, List.mem_singleton.2 rfl, rfl, rfl⟩]
  simp [hitL, keyR, hitR]
  omega
theorem allF_one (x : Rec) : allF [x] = [x] := by simp [allF, srt]
theorem lrecs_learn (s : ByteArray) (hs : s ≠ .empty) (n : ByteArray) (pl : Int) (h0 : 0 ≤ pl) : (learnF 4096 lrecs s n pl).length = 4096 := by
  unfold learnF
  rw [if_neg (by omega), if_neg, if_neg (by omega), lrecs_len, if_pos (show ((4096 : Nat) : Int) = 4096 from rfl), List.length_append]
  · unfold dropLeast
    rw [List.length_eraseIdx, lrecs_len, if_pos]
    · rfl
    · have := (least_spec lrecs lrecs.length (by rw [lrecs_len]; omega)).1
      rw [lrecs_len] at this
      unfold leastI
      rw [lrecs_len]; exact this
  · rintro ⟨x, hx, hk⟩
    obtain ⟨i, hi, rfl⟩ := List.mem_map.1 hx
    exact hs hk.1.symm
set_option maxHeartbeats 4000000 in
set_option maxRecDepth 100000 in
theorem limits (w : World) : Calls Try.prog 4 #[] w (LawPost w) := by
  obtain ⟨cs, hmk, hcs⟩ := made w
  have hb0 := Blk.new w 31 cs
  have hbel := (Below.refl w.heap.size w).alloc (Nat.le_refl _) (.cells cs 31)
  go_enter Try.func4, Try.ntmps4
  go_wp2_with fail
  generalize hw0 : w.alloc (.cells cs 31) = w0 at *
  go_loopw [2] (fun i wr => ∃ (k : Nat) (c : Array Value), k ≤ 4096 ∧ i = .int .i64 k ∧ Blk wr w.heap.size 31 c ∧ c.size = 16384 ∧ (∀ a, a < k → ∀ j, j < 4 → c[a * 4 + j]? = (lrec a).cs[j]?) ∧ Below w.heap.size w wr) (fun i _ => 4096 - (intOf i).toNat)
  case atStart => exact ⟨0, cs, by omega, rfl, hb0, hcs, fun a ha => by omega, hbel⟩
  case round =>
    obtain ⟨k, c, hk, rfl, hblk, hc, hcell, hb⟩ := hrel
    by_cases hkn : k < 4096
    · have tk : decide ((k : Int) < 4096) = true := by simp; omega
      have g0 : (0 : Int) ≤ (k : Int) := by omega
      have g1 : (k : Int) < 4096 := by omega
      have hcv := conv_k k hkn wr
      have hb2 := (hblk.alloc (.cells #[.int .u8 ((k : Int) % 256), .int .u8 ((k : Int) / 256)] 5))
      obtain ⟨nm, hnm⟩ : ∃ nm, (lrec k).name = nm := ⟨_, rfl⟩
      rw [hnm] at hcv
      have HNM := Lib.hid hnm
      have hin : ∀ j, j < 4 → ∃ u, c[k * 4 + j]? = some u := fun j hj => ⟨_, Array.getElem?_eq_getElem (by omega)⟩
      obtain ⟨u0, e0⟩ := hin 0 (by omega)
      obtain ⟨u1, e1⟩ := hin 1 (by omega)
      obtain ⟨u2, e2⟩ := hin 2 (by omega)
      obtain ⟨u3, e3⟩ := hin 3 (by omega)
      have c0 := (hb2.cell (k * 4)).trans e0
      have c1 := (hb2.cell (k * 4 + 1)).trans e1
      have c2 := (hb2.cell (k * 4 + 2)).trans e2
      have c3 := (hb2.cell (k * 4 + 3)).trans e3
      have f0 := hb2.frozen (k * 4)
      have f1 := hb2.frozen (k * 4 + 1)
      have f2 := hb2.frozen (k * 4 + 2)
      have f3 := hb2.frozen (k * 4 + 3)
      clear hnm hin e0 e1 e2 e3
      have HCELL := Lib.hid hcell
      clear hcell
      go_wp2_with fail
      go_roundw
      case rel =>
        rw [← HNM.out]
        refine ⟨k + 1, set4 c k (lrec k), by omega, by go_num, (((hb2.set_ _ _).set_ _ _).set_ _ _).set_ _ _, by rw [set4_size]; exact hc, set4_at hc hkn HCELL.out, ?_⟩
        exact ((((hb.alloc hb.size _).setCell (Nat.le_refl _) _).setCell (Nat.le_refl _) _).setCell (Nat.le_refl _) _).setCell (Nat.le_refl _) _
      case measure => simp [intOf]; omega
    · obtain rfl : k = 4096 := by omega
      have tk : decide (((4096 : Nat) : Int) < 4096) = false := rfl
      have hrec : RecsAt wr (some ⟨w.heap.size, 0, none⟩) lrecs := by
        refine ⟨fun i hi => ?_⟩
        rw [lrecs_len] at hi
        rw [lrecs_at hi]
        exact ⟨_, 0, rfl, hblk.lt, by rw [Nat.zero_add]; exact (hblk.cell _).trans (hcell i hi 0 (by omega)), by rw [Nat.zero_add]; exact (hblk.cell _).trans (hcell i hi 1 (by omega)), by rw [Nat.zero_add]; exact (hblk.cell _).trans (hcell i hi 2 (by omega)), by rw [Nat.zero_add]; exact (hblk.cell _).trans (hcell i hi 3 (by omega))⟩
      have HN := Lib.hid (new_s 4096 (some ⟨w.heap.size, 0, none⟩) 4096 4096 lrecs wr (by omega) (by omega) lrecs_len.symm (by omega) hrec lrecs_wf lrecs_ok)
      have HNR := Lib.hid new_range
      clear hblk hcell hrec hcs hmk hb0 hw0 hbel hc
      go_wp2_with fail
      refine HN.out.mono ?_; rintro e w1 ⟨p, F, rfl, hp, hb1⟩
      have hb01 := hb.trans (hb1.mono hb.size)
      go_wp2_with fail
      refine (HNR.out 4097 none 0 0 _ (.inr (by omega))).mono ?_; rintro e w2 ⟨rfl, hb2⟩
      have hp2 := hp.below hb2
      have hb02 := hb01.trans (hb2.mono hb01.size)
      go_wp2_with fail
      refine (HNR.out (-1) none 0 0 _ (.inl (by omega))).mono ?_; rintro e w3 ⟨rfl, hb3⟩
      have hp3 := hp2.below hb3
      have hb03 := hb02.trans (hb3.mono hb02.size)
      go_wp2_with fail
      have ha3 := hb03.alloc hb03.size (.cells #[.string .empty, .string .empty, .int .i64 0, .int .i64 4611686018427387904] 31)
      have hp3a := hp3.below ((Below.refl w3.heap.size w3).alloc (Nat.le_refl _) (.cells #[.string .empty, .string .empty, .int .i64 0, .int .i64 4611686018427387904] 31))
      have HN1 := Lib.hid (new_s 1 (some ⟨w3.heap.size, 0, none⟩) 1 1 [⟨.empty, .empty, 0, 4611686018427387904⟩] (w3.alloc (.cells #[.string .empty, .string .empty, .int .i64 0, .int .i64 4611686018427387904] 31)) (by omega) (by omega) rfl (by omega) (recs_one w3 ⟨.empty, .empty, 0, 4611686018427387904⟩) (by simp [rWf, maxLen]) big_ok)
      refine HN1.out.mono ?_; rintro e w4 ⟨q, G, rfl, hq, hb4⟩
      have hs34 : w3.heap.size < w4.heap.size := by have := hb4.size; simp at this; omega
      have hb04 := ha3.trans (hb4.mono ha3.size)
      have hdis : ∀ b, F b → ¬ G b := fun b h1 h2 => by
        have e1 := (hp3.lt h1).1
        have e2 := (hq.lt h2).2
        simp at e2
        omega
      have hp4 := hp3a.below hb4
      clear HN1 ha3 hp3a
      go_wp2_with fail
      have ha4 := hb04.alloc hb04.size (.cells #[.string .empty, .string .empty, .int .i64 0, .int .i64 4611686018427387905] 31)
      have hp4a := hp4.below ((Below.refl w4.heap.size w4).alloc (Nat.le_refl _) (.cells #[.string .empty, .string .empty, .int .i64 0, .int .i64 4611686018427387905] 31))
      have hq4a := hq.below ((Below.refl w4.heap.size w4).alloc (Nat.le_refl _) (.cells #[.string .empty, .string .empty, .int .i64 0, .int .i64 4611686018427387905] 31))
      have HN2 := Lib.hid (new_bad 1 (some ⟨w4.heap.size, 0, none⟩) 1 1 [⟨.empty, .empty, 0, 4611686018427387905⟩] (w4.alloc (.cells #[.string .empty, .string .empty, .int .i64 0, .int .i64 4611686018427387905] 31)) (by omega) (by omega) rfl (by omega) (recs_one w4 ⟨.empty, .empty, 0, 4611686018427387905⟩) (by simp [rWf, maxLen]) big_bad)
      refine HN2.out.mono ?_; rintro e w5 ⟨rfl, hb5⟩
      have hb05 := ha4.trans (hb5.mono ha4.size)
      have hp5 := hp4a.below hb5
      have hq5 := hq4a.below hb5
      clear HN2 ha4 hp4a hq4a hp4 hp3 hp2 hp HN HNR
      have HSZ := Lib.hid size_s
      have HL := Lib.hid learn_s
      have HALL := Lib.hid all_s
      have HSM := Lib.hid same_yes
      have tl : ((lrecs.length : Int) != 4096) = false := by rw [lrecs_len]; rfl
      go_wp2_with fail
      refine (HSZ.out w5 _ p F 4096 lrecs _ hp5).mono ?_; rintro e w5' ⟨rfl, rfl⟩
      go_wp2_with fail
      clear tl
      refine (HL.out w5' _ q G 1 _ _ .empty .empty 0 hq5 (by have := hb4.size; have := hb5.size; simp at *; omega) (by simp) (by simp [maxLen]) (by simp [maxLen]) (by omega)).mono ?_; rintro e w6 ⟨rfl, G2, hq6, hG2, t6⟩
      rw [big_learn] at hq6
      have hp6 := hp5.touch t6 hdis
      have hb06 : Below w.heap.size w w6 := hb05.trans (t6.below (fun b h => by have := (hq5.lt h).2; have := hb03.size; simp at *; omega) hb05.size)
      clear hp5 hq5
      go_wp2_with fail
      refine (HALL.out w6 _ q G2 1 _ _ hq6).mono ?_; rintro e w7 ⟨v7, rfl, hrow, hb7⟩
      rw [allF_one] at hrow
      obtain ⟨l0, lcap, rfl, hrec, -⟩ := hrow.form
      have hb07 := hb06.trans (hb7.mono hb06.size)
      have hp7 := hp6.below hb7
      clear hrow hp6
      have HREC := Lib.hid hrec
      clear hrec
      go_wp2_with fail
      have hr1 := HREC.out.below ((Below.refl w7.heap.size w7).alloc (Nat.le_refl _) (.cells #[.string .empty, .string .empty, .int .i64 0, .int .i64 4611686018427387904] 31))
      have hp8 := hp7.below ((Below.refl w7.heap.size w7).alloc (Nat.le_refl _) (.cells #[.string .empty, .string .empty, .int .i64 0, .int .i64 4611686018427387904] 31))
      have hb08 := hb07.alloc hb07.size (.cells #[.string .empty, .string .empty, .int .i64 0, .int .i64 4611686018427387904] 31)
      refine (HSM.out _ _ _ _ 1 _ _ rfl (by omega) hr1 (recs_one w7 ⟨.empty, .empty, 0, 4611686018427387904⟩)).mono ?_
      rintro e w8 ⟨rfl, n8, rfl⟩
      have hp9 := hp8.drewN n8
      have hb09 := bdrewN hb08 n8
      have hsz9 : wr.heap.size ≤ (w7.alloc (.cells #[.string .empty, .string .empty, .int .i64 0, .int .i64 4611686018427387904] 31)).heap.size := by
        have e1 := hb1.size; have e2 := hb2.size; have e3 := hb3.size; have e4 := hb4.size; have e5 := hb5.size; have e6 := t6.size; have e7 := hb7.size
        simp at *; omega
      clear hp8 hp7 hr1 hb08
      go_wp2_with fail
      refine (HL.out _ _ p F 4096 lrecs _ ⟨#[120]⟩ .empty 1 hp9 hsz9 (by rw [lrecs_len]; omega) (by simp [maxLen, ByteArray.size]) (by simp [maxLen]) (by omega)).mono ?_; rintro e w10 ⟨rfl, F2, hp10, hF2, t10⟩
      have hl10 := lrecs_learn ⟨#[120]⟩ (by intro e; cases e) .empty 1 (by omega)
      have hb10 : Below w.heap.size w w10 := hb09.trans (t10.below (fun b h => by have := (hp9.lt h).2; have := hb.size; omega) hb09.size)
      go_wp2_with fail
      refine (HSZ.out w10 _ p F2 4096 _ _ hp10).mono ?_; rintro e w10' ⟨rfl, rfl⟩
      rw [hl10]
      go_wp2_with fail
      go_ret
      exact ⟨rfl, hb10⟩
end Go.Proofs.Ytcgfkmjlgblkcaa.Pat
