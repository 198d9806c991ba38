/- Chapters 13 and 14 (floats, shortest): contracts of both told. No conditions beside those that each contract names. -/
import Derived.Test.YtabmalnandbocaaGreatDoorMF
import Derived.Test.YtabmalnandbocaaGreatDoorMD
import Derived.Test.YtabmalnandbocaaGreatDoorShelf
namespace Go.Proofs.YtabmalnandbocaaGreatDoor.Num
set_option exponentiation.threshold 3000
set_option linter.unusedVariables false
set_option linter.unusedSimpArgs false
open Go.RowKit Go.Proofs.YtabmalnandbocaaGreatDoor.Mem Go.Proofs.YtabmalnandbocaaGreatDoor.Own Go.Proofs.YtabmalnandbocaaGreatDoor.Big

/-- A decimal's value. -/
abbrev decV (neg : Bool) (l : List UInt8) (e : Int) : Value := .agg #[.bool neg, .string ⟨l.toArray⟩, .int .i64 e]
/-- A call comes to the decimal of a number by ten to a power. -/
def TolPost (w : World) (neg : Bool) (N : Nat) (e0 : Int) (e : Ending) (w' : World) : Prop := e = .returned (decV neg (tl N) (te N e0)) ∧ Below w.heap.size w w'
theorem powers_5 (A : Option Addr) (n c x k : Nat) (w : World) (ha : MAt w A n x) (hn : n < 15000000000000) (hk : k < 4000000000) :
    Calls Tryz.prog 104 #[.slice A n c, .int .i64 5, .int .i64 (k : Nat)] w (MPost w (x * 5 ^ k)) := powers_w A n c x 5 k w ha hn (by decide) (by decide) hk
theorem sub_string {wl : World} {base g cap n : Nat} {l : List Nat} (h : NRow .u8 5 wl base (.slice (some ⟨g, 0, none⟩) n cap) l) (f t c : Nat) (hft : f ≤ t) (ht : t ≤ l.length) (hs : ∀ d ∈ l, d < 256) :
    (convert 60 9 (.slice (some ⟨g, f, none⟩) (t - f) c)).run Tryz.prog wl = .ok (.string ⟨(((l.take t).drop f).map UInt8.ofNat).toArray⟩) wl := by
  have hlen : (((l.take t).drop f).map UInt8.ofNat).length = t - f := by rw [List.length_map, List.length_drop, List.length_take]; omega
  have := run_convert_bytes_back (P := Tryz.prog) wl 60 9 5 ⟨g, f, none⟩ c (((l.take t).drop f).map UInt8.ofNat) Tryz.underlying60 Tryz.underlying5 Tryz.underlying9 (fun j hj => by
    rw [hlen] at hj
    rw [show (⟨g, f, none⟩ : Addr).add j = ⟨g, f + j, none⟩ by unfold Addr.add; split <;> simp_all]
    rw [h.cell (f + j) (by omega)]
    have h3 := hs _ (List.getElem_mem (l := l) (n := f + j) (by omega))
    have h5 : (((l.take t).drop f).map UInt8.ofNat)[j]'(by rw [hlen]; exact hj) = UInt8.ofNat l[f + j] := by simp
    rw [h5, ofNat_48 h3, List.getD_eq_getElem?_getD, List.getElem?_eq_getElem (by omega), Option.getD_some])
  rw [hlen] at this
  exact this
theorem mat_far {w : World} {A : Option Addr} {n x g : Nat} {t : TypeId} {a : Bool} {s : ByteArray} (h : MAt w A n x) (hb : Blk w g t #[.bool a, .string s, .int .i64 0]) (u : Value) : MAt (w.setCell ⟨g, 2, none⟩ u) A n x := by
  refine ⟨h.1, ?_⟩
  rcases h.2 with h2 | ⟨b, off, rfl, hlt, hc⟩
  · exact .inl h2
  · by_cases hl : digs M x = []
    · exact .inl hl
    · refine .inr ⟨b, off, rfl, by simpa [World.setCell] using hlt, ?_⟩
      have hx : x ≠ 0 := by rintro rfl; exact hl digs_zero
      have hlen := digs_pos_len hM hx
      have htop := digs_top hM hx
      have hne : b ≠ g := by
        rintro rfl
        have h3 := hc ((digs M x).length - 1) (by omega)
        rw [hb.cell] at h3
        rcases Nat.lt_or_ge (off + ((digs M x).length - 1)) 3 with h4 | h4
        · have h5 : off + ((digs M x).length - 1) = 0 ∨ off + ((digs M x).length - 1) = 1 ∨ off + ((digs M x).length - 1) = 2 := by omega
          rcases h5 with h5 | h5 | h5
          · rw [h5] at h3; simp at h3
          · rw [h5] at h3; simp at h3
          · rw [h5] at h3
            simp only [List.getElem?_toArray, List.getElem?_cons_succ, List.getElem?_cons_zero, Option.some.injEq, Value.int.injEq, true_and] at h3
            exact htop (by omega)
        · rw [Array.getElem?_eq_none (by simpa using h4)] at h3
          cases h3
      intro j hj
      rw [← hc j hj]
      exact World.cell?_of_block (Below.heap_setCell w _ u b (fun e => hne e))
theorem nil_string (w : World) : (convert 60 9 (.slice none 0 0)).run Tryz.prog w = .ok (.string ⟨#[]⟩) w := by kernel_rfl
theorem div_nn (x P : Nat) : (0 : Int) ≤ (x : Int) / (P : Int) := Int.ediv_nonneg (Int.natCast_nonneg _) (Int.natCast_nonneg _)
theorem div_le9 (x P : Nat) (h : x < 1000000000) : (x : Int) / (P : Int) ≤ 1000000000 := by
  have h1 : ((x / P : Nat) : Int) = (x : Int) / (P : Int) := by simp
  have h2 := Nat.div_le_self x P
  rw [← h1]
  have h3 : x / P ≤ 1000000000 := Nat.le_trans h2 (Nat.le_of_lt h)
  exact Int.ofNat_le.2 h3
theorem nrow_only {k : IntKind} {e : TypeId} {w w' : World} {base g : Nat} {v : Value} {l : List Nat} (h : NRow k e w base v l) (ho : Only g w w') (hg : g < base) : NRow k e w' base v l := own_only h ho hg
set_option maxHeartbeats 8000000 in
set_option maxRecDepth 100000 in
theorem tol_w (neg : Bool) (m : Nat) (e e0 : Int) (N : Nat) (w : World) (hm : m < 18446744073709551616) (he1 : -100000 ≤ e) (he2 : e ≤ 100000) (h1 : 0 ≤ e → e0 = 0 ∧ N = m * 2 ^ e.toNat) (h2 : e < 0 → e0 = e ∧ N = m * 5 ^ (-e).toNat) :
    Calls Tryz.prog 72 #[.bool neg, .int .u64 (m : Nat), .int .i64 e] w (TolPost w neg N e0) := by
  have hl2 : (digs M m).length ≤ 20 := digs_len_le hM (Nat.lt_of_lt_of_le hm (by rw [M_eq]; decide))
  have hb0 := Blk.new w 32 #[.bool false, .string ⟨#[]⟩, .int .i64 0]
  have HB0 := Lib.hid hb0
  have HNW := Lib.hid (fun W => number_w m W hm)
  clear hb0
  go_enter Tryz.func72, Tryz.ntmps72
  go_wp2_with fail
  refine (HNW.out _).mono ?_
  rintro en w1 ⟨A1, n1, c1, rfl, hn1, b1⟩
  have H1 := Lib.hid hn1
  have HB1 := Lib.hid (HB0.out.below b1 HB0.out.lt)
  have HS1 := b1.size
  have B1 := Lib.hid (bthen ((Below.refl _ w).alloc (Nat.le_refl _) _) b1)
  simp at HS1
  have hn20 : n1 ≤ 20 := by rw [hn1.1]; exact hl2
  clear b1 hn1 hl2
  have hg : w.heap.size < w1.heap.size := by omega
  have HD1 := Lib.hid (Blk.new w1 32 #[.bool neg, .string ⟨#[]⟩, .int .i64 0])
  obtain ⟨i8, hi8, hz8, hs8, hb8⟩ := info_of u8_info
  by_cases hpos : 0 ≤ e
  · obtain ⟨k, rfl⟩ := Int.eq_ofNat_of_zero_le hpos
    obtain ⟨rfl, hN⟩ := h1 hpos
    have HN := Lib.hid hN
    have t1 : decide ((0 : Int) ≤ (k : Int)) = true := by simp
    clear h1 h2 hN
    have HP := Lib.hid (powers_2 A1 n1 c1 m k _ (H1.out.below ((Below.refl _ w1).alloc (Nat.le_refl _) (.cells #[.bool neg, .string ⟨#[]⟩, .int .i64 0] 32))) (by omega) (by omega))
    go_wp2_with fail
    refine HP.out.mono ?_
    rintro en W3 ⟨A3, n3, c3, rfl, h3, b3⟩
    have hn3 : n3 ≤ 200000 := by rw [h3.1]; exact Nat.le_trans (powl (by decide) (by decide)) (by rw [← H1.out.1]; omega)
    rw [show m * 2 ^ k = N by rw [HN.out]; simp] at h3
    have H3 := Lib.hid h3
    have HD3 := Lib.hid (HD1.out.below b3 (by simp))
    have HR3 := Lib.hid ((HB1.out.alloc (.cells #[.bool neg, .string ⟨#[]⟩, .int .i64 0] 32)).below b3 (by simp; omega))
    have B3 := Lib.hid (bthen (B1.out.alloc B1.out.size _) b3)
    have HS3 := b3.size
    simp at HS3
    clear h3 b3 HN HP
    go_wp2_with fail
    go_loopw [9, 10] (fun b i wl => ∃ (l : List Nat) (j : Nat), j ≤ n3 ∧ i = .int .i64 ((j : Int) - 1) ∧ NRow .u8 5 wl W3.heap.size b l ∧ Hid (BI l (N / M ^ j)) ∧ l.length ≤ 9 * (n3 - j) ∧ Hid (0 < l.length ∨ j = n3 ∧ l = [] ∧ b = .slice none 0 0) ∧ Below W3.heap.size W3 wl) (fun _ i _ => (intOf i + 1).toNat)
    case atStart => exact ⟨[], n3, Nat.le_refl _, rfl, NRow.nil _ _ _ _, Lib.hid (by rw [Nat.div_eq_of_lt (by rw [H3.out.1]; exact digs_lt hM N)]; exact BI.nil), by simp, Lib.hid (.inr ⟨rfl, rfl, rfl⟩), Below.refl _ _⟩
    case round =>
      obtain ⟨l, j, hj, hi, hrow, hbi, hll, hnil, hbel⟩ := hrel
      have HB := Lib.hid hbel
      have HROW := Lib.hid hrow
      clear hbel hrow
      by_cases hj0 : j = 0
      · subst hj0
        subst hi
        have HBI := Lib.hid (show BI l N from by have := hbi.out; rwa [Nat.pow_zero, Nat.div_one] at this)
        have HD4 := Lib.hid (HD3.out.below HB.out (by omega))
        have HR4 := Lib.hid (HR3.out.below HB.out (by omega))
        have HBW := Lib.hid (bthen B3.out HB.out)
        have HSW := HB.out.size
        clear hbi
        rcases hnil.out with hl0 | ⟨hn30, hl0, hu9⟩
        · obtain ⟨g, cap, rfl, hgb, hgl⟩ := HROW.out.slice hl0
          obtain ⟨L, hL⟩ : ∃ L, L = l.length := ⟨_, rfl⟩
          have HL := Lib.hid hL
          have HLC := Lib.hid HROW.out.form
          have hLc : L ≤ cap := by
            obtain ⟨A, c, hv, -, h⟩ := HLC.out
            injection hv with _ _ hc
            omega
          have hLm : L ≤ 9 * n3 := by omega
          rw [← hL] at hl0 HROW ⊢
          clear hll hL hnil HLC
          go_wp2_with fail
          go_loop [13] (fun f => ∃ k : Nat, k ≤ L ∧ f = .int .i64 (k : Nat) ∧ Hid (∀ i, i < k → l.getD i 0 = 48)) (fun f => L - (intOf f).toNat)
          case atStart => exact ⟨0, Nat.zero_le _, rfl, Lib.hid (fun i hi => absurd hi (Nat.not_lt_zero i))⟩
          case round =>
            obtain ⟨f, hf, rfl, hz⟩ := hrel
            by_cases hgo : f < L ∧ l.getD f 0 = 48
            · obtain ⟨hfl, h48⟩ := hgo
              have ca := HROW.out.cell f (by rw [← HL.out]; exact hfl)
              rw [h48] at ca
              have HZ := Lib.hid (show ∀ i, i < f + 1 → l.getD i 0 = 48 from fun i hi => by
                rcases Nat.lt_or_ge i f with h | h
                · exact hz.out i h
                · obtain rfl : i = f := by omega
                  exact h48)
              clear hz h48
              go_wp2_with fail
              go_round
              case rel => exact ⟨f + 1, by omega, by go_num, HZ⟩
              case measure => first | (simp [intOf]; omega) | simp [intOf]
            · have HH := Lib.hid (show f < L → l.getD f 0 ≠ 48 from fun h e => hgo ⟨h, e⟩)
              clear hgo
              have hN0 : N ≠ 0 := fun e => by
                have := H3.out.len_zero.2 e
                omega
              by_cases hfl : f < L
              · have hne := HH.out hfl
                have ca := HROW.out.cell f (by rw [← HL.out]; exact hfl)
                generalize hvv : l.getD f 0 = v at ca hne
                have HV := Lib.hid hvv
                have t5 : ((v : Int) == 48) = false := by rw [beq_eq_false_iff_ne]; omega
                have HNE := Lib.hid hne
                clear hvv hne
                go_wp2_with fail
                go_loopw [14] (fun t wl => ∃ (k : Nat) (ex : Int), f ≤ k ∧ k ≤ L ∧ t = .int .i64 (k : Nat) ∧ Hid (ex = (0 : Int) + ((L - k : Nat) : Int)) ∧ -100000 ≤ ex ∧ ex ≤ 2000000 ∧ Hid (∀ i, k ≤ i → i < L → l.getD i 0 = 48) ∧ Hid (Blk wl w1.heap.size 32 #[.bool neg, .string ⟨#[]⟩, .int .i64 ex]) ∧ Hid (Only w1.heap.size wr wl)) (fun t _ => (intOf t).toNat)
                case atStart => exact ⟨L, (0 : Int), hf, Nat.le_refl _, rfl, Lib.hid (by simp), by omega, by omega, Lib.hid (fun i h1 h2 => absurd h1 (by omega)), HD4, Lib.hid (Only.refl _ _)⟩
                case round =>
                  obtain ⟨k, ex, hfk, hkL, rfl, hex, hx1, hx2, hz2, hdk, hon⟩ := hrel
                  have dk0 := hdk.out.cell 0
                  have dk1 := hdk.out.cell 1
                  have dk2 := hdk.out.cell 2
                  simp at dk0 dk1 dk2
                  have fk1 := hdk.out.frozen 1
                  have fk2 := hdk.out.frozen 2
                  have hrw := nrow_only HROW.out hon.out (by omega)
                  by_cases hgo : f < k ∧ l.getD (k - 1) 0 = 48
                  · obtain ⟨hfk2, h48⟩ := hgo
                    obtain ⟨k2, rfl⟩ : ∃ k2, k = k2 + 1 := ⟨k - 1, by omega⟩
                    rw [Nat.add_sub_cancel] at h48
                    have cb := hrw.cell k2 (by rw [← HL.out]; omega)
                    rw [h48] at cb
                    have HZ2 := Lib.hid (show ∀ i, k2 ≤ i → i < L → l.getD i 0 = 48 from fun i h1 h2 => by
                      rcases Nat.lt_or_ge k2 i with h | h
                      · exact hz2.out i h h2
                      · obtain rfl : i = k2 := by omega
                        exact h48)
                    have HDK := Lib.hid (hdk.out.set_ 2 (.int .i64 (ex + 1)))
                    have HON := Lib.hid (hon.out.setCell 2 (.int .i64 (ex + 1)))
                    have HEX := Lib.hid (show ex + 1 = (0 : Int) + ((L - k2 : Nat) : Int) by have := hex.out; omega)
                    have hx3 : ex + 1 ≤ 2000000 := by have := HEX.out; have := hex.out; omega
                    have t6 : decide ((f : Int) < ((k2 + 1 : Nat) : Int)) = true := decide_eq_true (by omega)
                    have ek : ((k2 + 1 : Nat) : Int) - 1 = (k2 : Int) := by omega
                    clear h48 hz2 hdk hon hex hrw
                    go_wp2_with fail
                    go_roundw
                    case rel => exact ⟨k2, ex + 1, by omega, by omega, (by first | rfl | exact vint (by omega)), HEX, by omega, hx3, HZ2, HDK, HON⟩
                    case measure => first | (simp [intOf]; omega) | simp [intOf]
                  · have hT := BI.told HBI.out (f := f) (t := k) hfk (by rw [← HL.out]; exact hkL) hz.out (fun i h1 h2 => hz2.out i h1 (by rw [HL.out]; exact h2)) (fun _ => by rw [HV.out]; exact HNE.out) (fun h e => hgo ⟨h, e⟩)
                    have hfk3 : f < k := by
                      rcases Nat.lt_or_ge f k with h | h
                      · exact h
                      · exfalso
                        have hT2 := hT
                        rw [List.drop_of_length_le (by rw [List.length_take]; omega)] at hT2
                        exact hN0 (by rw [← hT2.val]; simp [dval])
                    have hlast : l.getD (k - 1) 0 ≠ 48 := fun e => hgo ⟨hfk3, e⟩
                    obtain ⟨k2, rfl⟩ : ∃ k2, k = k2 + 1 := ⟨k - 1, by omega⟩
                    rw [Nat.add_sub_cancel] at hlast
                    have cb := hrw.cell k2 (by rw [← HL.out]; omega)
                    generalize l.getD k2 0 = v2 at cb hlast
                    have t7 : ((v2 : Int) == 48) = false := by rw [beq_eq_false_iff_ne]; omega
                    have hconv := sub_string hrw f (k2 + 1) (cap - f) hfk (by rw [← HL.out]; exact hkL) (fun d hd => by have := HBI.out.small d hd; omega)
                    have hmid := hT.tl
                    have hmne := hT.ne hN0
                    generalize hmd : List.map UInt8.ofNat (List.drop f (List.take (k2 + 1) l)) = mid at hconv hmid hmne
                    have hne : (⟨mid.toArray⟩ : ByteArray).toList.isEmpty = false := str_ne0 (by simpa using hmne)
                    have hne2 : mid.isEmpty = false := by rw [List.isEmpty_eq_false_iff]; exact hmne
                    have hexv := hmid.2 (0 : Int)
                    rw [if_neg hmne, ← HL.out] at hexv
                    have HML := Lib.hid hmid.1
                    have HEX := Lib.hid (show ex = te N (0 : Int) from by rw [hex.out]; exact hexv)
                    have ek : ((k2 + 1 : Nat) : Int) - 1 = (k2 : Int) := by omega
                    have t6 : decide ((f : Int) < ((k2 + 1 : Nat) : Int)) = true := decide_eq_true (by omega)
                    have HDK := Lib.hid (hdk.out.set_ 1 (.string ⟨mid.toArray⟩))
                    have HRK := Lib.hid ((hon.out.blk HR4.out (by omega)).far (p := ⟨w1.heap.size, 1, none⟩) (by simp; omega) (.string ⟨mid.toArray⟩))
                    have HON := Lib.hid (hon.out.setCell 1 (.string ⟨mid.toArray⟩))
                    have hrb := hon.out.blk HR4.out (by omega)
                    have r0 := hrb.cell 0
                    have r1 := hrb.cell 1
                    have r2 := hrb.cell 2
                    simp at r0 r1 r2
                    have fr0 := hrb.frozen 0
                    have fr1 := hrb.frozen 1
                    have fr2 := hrb.frozen 2
                    clear hrb hT hmid hmne hmd hexv hgo hlast hz2 hex hdk hrw
                    go_wp2_with fail
                    have hk3 := ((HRK.out.set_ 0 (.bool neg)).set_ 1 (.string ⟨mid.toArray⟩)).set_ 2 (.int .i64 ex)
                    have hbf := (((HBW.out.trans (HON.out.below (B := w.heap.size) (by omega) (by omega))).setCell (p := ⟨w.heap.size, 0, none⟩) (Nat.le_refl _) (.bool neg)).setCell (p := ⟨w.heap.size, 1, none⟩) (Nat.le_refl _) (.string ⟨mid.toArray⟩)).setCell (p := ⟨w.heap.size, 2, none⟩) (Nat.le_refl _) (.int .i64 ex)
                    generalize (((wr.setCell _ _).setCell _ _).setCell _ _).setCell _ _ = Wf at hk3 hbf ⊢
                    have q0 : Wf.cell? ⟨w.heap.size, 0, none⟩ = some (.bool neg) := hk3.cell 0
                    have q1 : Wf.cell? ⟨w.heap.size, 1, none⟩ = some (.string ⟨mid.toArray⟩) := hk3.cell 1
                    have q2 : Wf.cell? ⟨w.heap.size, 2, none⟩ = some (.int .i64 ex) := hk3.cell 2
                    refine bodyPost_ret (v := decV neg mid ex) (by simp [results, Tryz.results72, go_sem, q0, q1, q2]) rfl ⟨?_, hbf⟩
                    rw [← HML.out, ← HEX.out]
              · exfalso
                obtain rfl : f = L := by omega
                have := BI.told HBI.out (f := f) (t := f) (Nat.le_refl _) (by rw [← HL.out]; exact Nat.le_refl _) hz.out (fun i h1 h2 => by rw [← HL.out] at h2; omega) (fun h => absurd h (Nat.lt_irrefl _)) (fun h => absurd h (Nat.lt_irrefl _))
                rw [List.drop_of_length_le (by rw [List.length_take]; omega)] at this
                exact hN0 (by rw [← this.val]; simp [dval])
        · subst hu9
          subst hl0
          have hN0 : N = 0 := H3.out.len_zero.1 hn30.symm
          have d0 := HD4.out.cell 0
          have d1 := HD4.out.cell 1
          have d2 := HD4.out.cell 2
          have r0 := HR4.out.cell 0
          have r1 := HR4.out.cell 1
          have r2 := HR4.out.cell 2
          simp at d0 d1 d2 r0 r1 r2
          have fd1 := HD4.out.frozen 1
          have fd2 := HD4.out.frozen 2
          have fr0 := HR4.out.frozen 0
          have fr1 := HR4.out.frozen 1
          have fr2 := HR4.out.frozen 2
          have HN0 := Lib.hid hN0
          have hcv := nil_string
          obtain rfl : n3 = 0 := hn30.symm
          have hwg : w.heap.size ≠ w1.heap.size := by omega
          clear hN0 hll hnil hn30
          go_wp2_with fail
          go_loop [13] (fun f => f = .int .i64 0) (fun _ => 0)
          case atStart => rfl
          case round =>
            subst hrel
            go_wp2_with fail
            go_loop [14] (fun f => f = .int .i64 0) (fun _ => 0)
            case atStart => rfl
            case round =>
              subst hrel
              go_wp2_with (simp only [hcv])
              have hk3 := ((((HR4.out.far (p := ⟨w1.heap.size, 1, none⟩) (by simp; omega) (.string ⟨#[]⟩)).far (p := ⟨w1.heap.size, 2, none⟩) (by simp; omega) (.int .i64 0)).set_ 0 (.bool neg)).set_ 1 (.string ⟨#[]⟩)).set_ 2 (.int .i64 0)
              have hbf := ((((HBW.out.setCell (p := ⟨w1.heap.size, 1, none⟩) (by simp; omega) (.string ⟨#[]⟩)).setCell (p := ⟨w1.heap.size, 2, none⟩) (by simp; omega) (.int .i64 0)).setCell (p := ⟨w.heap.size, 0, none⟩) (Nat.le_refl _) (.bool neg)).setCell (p := ⟨w.heap.size, 1, none⟩) (Nat.le_refl _) (.string ⟨#[]⟩)).setCell (p := ⟨w.heap.size, 2, none⟩) (Nat.le_refl _) (.int .i64 0)
              generalize ((((wr.setCell _ _).setCell _ _).setCell _ _).setCell _ _).setCell _ _ = Wf at hk3 hbf ⊢
              have q0 : Wf.cell? ⟨w.heap.size, 0, none⟩ = some (.bool neg) := hk3.cell 0
              have q1 : Wf.cell? ⟨w.heap.size, 1, none⟩ = some (.string ⟨#[]⟩) := hk3.cell 1
              have q2 : Wf.cell? ⟨w.heap.size, 2, none⟩ = some (.int .i64 0) := hk3.cell 2
              refine bodyPost_ret (v := decV neg [] 0) (by simp [results, Tryz.results72, go_sem, q0, q1, q2]) rfl ⟨?_, hbf⟩
              have hNz := HN0.out
              subst hNz
              rw [show tl 0 = [] from (told_tl 0).zero, show te 0 (0 : Int) = 0 from if_pos rfl]
      · obtain ⟨i, rfl⟩ : ∃ i, j = i + 1 := ⟨j - 1, by omega⟩
        rw [show ((i + 1 : Nat) : Int) - 1 = (i : Int) by omega] at hi
        subst hi
        obtain ⟨b, off, rfl, hblt, hac⟩ := H3.out.2.cells (by rw [← H3.out.1]; omega)
        have ca := (HB.out.cell (p := ⟨b, off + i, none⟩) hblt).trans (hac i (by rw [← H3.out.1]; omega))
        have hx := (digs_dig hM N).getD M_pos i
        have HX := Lib.hid (digs_getD hM N i)
        generalize (digs M N).getD i 0 = x at *
        rw [M_eq] at hx
        have HAC := Lib.hid hac
        clear hac
        go_wp2_with fail
        go_loopw [9, 12] (fun b p wl => ∃ (l : List Nat) (P q : Nat), q ≤ 9 ∧ Hid (P = 10 ^ q / 10) ∧ P ≤ 100000000 ∧ p = .int .i64 (P : Nat) ∧ NRow .u8 5 wl W3.heap.size b l ∧ Hid (BI l (N / (M ^ i * 10 ^ q))) ∧ l.length + q ≤ 9 * (n3 - i) ∧ Hid (0 < l.length ∨ q = 9) ∧ Below W3.heap.size W3 wl) (fun _ p _ => (intOf p).toNat)
        case atStart => exact ⟨l, 100000000, 9, Nat.le_refl _, Lib.hid (by decide), Nat.le_refl _, rfl, HROW.out, (by rw [M_ten9]; exact hbi), by omega, Lib.hid (.inr rfl), HB.out⟩
        case round =>
          obtain ⟨l2, P, q, hq, hP, hPb, rfl, hrow2, hbi2, hll2, hnil2, hbel2⟩ := hrel
          have HB2 := Lib.hid hbel2
          have HROW2 := Lib.hid hrow2
          clear hbel2 hrow2
          by_cases hq0 : q = 0
          · subst hq0
            obtain rfl : P = 0 := hP.out
            go_wp2_with fail
            go_roundw
            case rel => exact ⟨l2, i, by omega, (by first | rfl | exact vint (by omega)), HROW2.out, (by have := hbi2; rwa [Nat.pow_zero, Nat.mul_one] at this), by omega, Lib.hid (.inl (hnil2.out.resolve_right (by decide))), HB2.out⟩
            case measure => first | (simp [intOf]; omega) | simp [intOf]
          · obtain ⟨q2, rfl⟩ : ∃ q2, q = q2 + 1 := ⟨q - 1, by omega⟩
            have hPv : P = 10 ^ q2 := by rw [hP.out, Nat.pow_succ, Nat.mul_div_cancel _ (by decide)]
            have hP1 : 0 < P := by rw [hPv]; exact Nat.pow_pos (by decide)
            have t4 : decide ((0 : Int) < (P : Int)) = true := decide_eq_true (by omega)
            obtain ⟨d, hd⟩ : ∃ d, d = x / P % 10 := ⟨_, rfl⟩
            have hd10 : d < 10 := by rw [hd]; exact Nat.mod_lt _ (by decide)
            have ed : (x : Int) / (P : Int) % 10 = (d : Int) := by rw [hd]; simp
            have e0d : (0 : Int) ≤ (x : Int) / (P : Int) := div_nn x P
            have e1d : (x : Int) / (P : Int) ≤ 1000000000 := div_le9 x P hx
            have HST := Lib.hid (show BI (l2 ++ [48 + d]) (N / (M ^ i * 10 ^ q2)) from by
              rw [byte_step N i q2 (by omega), ← HX.out, ← hPv, ← hd]
              exact hbi2.out.snoc hd10)
            have hone := one_at wr (48 + d)
            have ed2 : ((48 + d : Nat) : Int) = 48 + (d : Int) := by omega
            rw [ed2] at hone
            have HONE := Lib.hid hone
            have ROWA := Lib.hid (HROW2.out.below ((Below.refl _ wr).alloc (Nat.le_refl _) (.cells #[.int .u8 (48 + (d : Int))] 5)))
            have hz2 := HB2.out.size
            have hb3 := HB2.out.alloc hz2 (.cells #[.int .u8 (48 + (d : Int))] 5)
            have HP2 := Lib.hid (show P / 10 = 10 ^ q2 / 10 by rw [hPv])
            have hlm : l2.length < 3000000 := by omega
            clear hd hPv hone ed2 hP HX hbi2
            go_wp2_with (at_builtin; refine wpList_append_num _ rfl _ _ 60 rfl .u8 W3.heap.size 5 (.int .u8 0) 1 i8 Tryz.underlying60 hi8 hz8 hs8 hb8 rfl _ l2 rfl ROWA.out (some ⟨wr.heap.size, 0, none⟩) 1 1 [48 + d] rfl rfl HONE.out ?c3 ?c4 ?c5 ?_)
            case c3 => unfold maxLen; simp; omega
            case c4 => simp; omega
            case c5 => simp; omega
            intro v' w' hown hg2
            have hbw := below_row hb3 ROWA.out hg2
            have HOWN := Lib.hid hown
            have HBW := Lib.hid hbw
            clear hown hg2 hbw hb3
            go_wp2_with fail
            go_roundw
            case rel => exact ⟨l2 ++ [48 + d], P / 10, q2, by omega, HP2, by omega, vint (by omega), HOWN.out, HST, by simp; omega, Lib.hid (.inl (by simp)), HBW.out⟩
            case measure => first | (simp [intOf]; omega) | simp [intOf]
  · obtain ⟨k, hk⟩ : ∃ k : Nat, k = (-e).toNat := ⟨_, rfl⟩
    obtain ⟨rfl, hN⟩ := h2 (by omega)
    rw [← hk] at hN
    have HN := Lib.hid hN
    have t1 : decide ((0 : Int) ≤ e0) = false := decide_eq_false hpos
    have eq1 : -e0 = (k : Int) := by omega
    have hkb : k ≤ 100000 := by omega
    clear h1 h2 hN hpos hk he1 he2
    have HP := Lib.hid (powers_5 A1 n1 c1 m k _ (H1.out.below ((Below.refl _ w1).alloc (Nat.le_refl _) (.cells #[.bool neg, .string ⟨#[]⟩, .int .i64 0] 32))) (by omega) (by omega))
    go_wp2_with fail
    refine HP.out.mono ?_
    rintro en w3 ⟨A3, n3, c3, rfl, h3, b3⟩
    have hn3 : n3 ≤ 200000 := by rw [h3.1]; exact Nat.le_trans (powl (by decide) (by decide)) (by rw [← H1.out.1]; omega)
    rw [show m * 5 ^ k = N from HN.out.symm] at h3
    have HD0 := Lib.hid (HD1.out.below b3 (by simp))
    have d0 := HD0.out.cell 2
    have f0 := HD0.out.frozen 2
    simp at d0
    have HR3 := Lib.hid (((HB1.out.alloc (.cells #[.bool neg, .string ⟨#[]⟩, .int .i64 0] 32)).below b3 (by simp; omega)).far (p := ⟨w1.heap.size, 2, none⟩) (by simp; omega) (.int .i64 e0))
    have HD3 := Lib.hid (HD0.out.set_ 2 (.int .i64 e0))
    have H3 := Lib.hid (mat_far h3 HD0.out (.int .i64 e0))
    have B3 := Lib.hid ((bthen (B1.out.alloc B1.out.size _) b3).setCell (p := ⟨w1.heap.size, 2, none⟩) (by simp; omega) (.int .i64 e0))
    have HS3 := b3.size
    simp at HS3
    clear h3 b3 HN HP
    go_wp2_with fail
    obtain ⟨W3, hW3⟩ : ∃ W, W = w3.setCell ⟨w1.heap.size, 2, none⟩ (.int .i64 e0) := ⟨_, rfl⟩
    rw [← hW3] at HD3 HR3 H3 B3 ⊢
    have HS3' : w1.heap.size + 1 ≤ W3.heap.size := by rw [hW3]; simpa [World.setCell] using HS3
    clear HS3 hW3 HD0 d0 f0
    have HS3 := HS3'
    clear HS3'
    go_loopw [9, 10] (fun b i wl => ∃ (l : List Nat) (j : Nat), j ≤ n3 ∧ i = .int .i64 ((j : Int) - 1) ∧ NRow .u8 5 wl W3.heap.size b l ∧ Hid (BI l (N / M ^ j)) ∧ l.length ≤ 9 * (n3 - j) ∧ Hid (0 < l.length ∨ j = n3 ∧ l = [] ∧ b = .slice none 0 0) ∧ Below W3.heap.size W3 wl) (fun _ i _ => (intOf i + 1).toNat)
    case atStart => exact ⟨[], n3, Nat.le_refl _, rfl, NRow.nil _ _ _ _, Lib.hid (by rw [Nat.div_eq_of_lt (by rw [H3.out.1]; exact digs_lt hM N)]; exact BI.nil), by simp, Lib.hid (.inr ⟨rfl, rfl, rfl⟩), Below.refl _ _⟩
    case round =>
      obtain ⟨l, j, hj, hi, hrow, hbi, hll, hnil, hbel⟩ := hrel
      have HB := Lib.hid hbel
      have HROW := Lib.hid hrow
      clear hbel hrow
      by_cases hj0 : j = 0
      · subst hj0
        subst hi
        have HBI := Lib.hid (show BI l N from by have := hbi.out; rwa [Nat.pow_zero, Nat.div_one] at this)
        have HD4 := Lib.hid (HD3.out.below HB.out (by omega))
        have HR4 := Lib.hid (HR3.out.below HB.out (by omega))
        have HBW := Lib.hid (bthen B3.out HB.out)
        have HSW := HB.out.size
        clear hbi
        rcases hnil.out with hl0 | ⟨hn30, hl0, hu9⟩
        · obtain ⟨g, cap, rfl, hgb, hgl⟩ := HROW.out.slice hl0
          obtain ⟨L, hL⟩ : ∃ L, L = l.length := ⟨_, rfl⟩
          have HL := Lib.hid hL
          have HLC := Lib.hid HROW.out.form
          have hLc : L ≤ cap := by
            obtain ⟨A, c, hv, -, h⟩ := HLC.out
            injection hv with _ _ hc
            omega
          have hLm : L ≤ 9 * n3 := by omega
          rw [← hL] at hl0 HROW ⊢
          clear hll hL hnil HLC
          go_wp2_with fail
          go_loop [13] (fun f => ∃ k : Nat, k ≤ L ∧ f = .int .i64 (k : Nat) ∧ Hid (∀ i, i < k → l.getD i 0 = 48)) (fun f => L - (intOf f).toNat)
          case atStart => exact ⟨0, Nat.zero_le _, rfl, Lib.hid (fun i hi => absurd hi (Nat.not_lt_zero i))⟩
          case round =>
            obtain ⟨f, hf, rfl, hz⟩ := hrel
            by_cases hgo : f < L ∧ l.getD f 0 = 48
            · obtain ⟨hfl, h48⟩ := hgo
              have ca := HROW.out.cell f (by rw [← HL.out]; exact hfl)
              rw [h48] at ca
              have HZ := Lib.hid (show ∀ i, i < f + 1 → l.getD i 0 = 48 from fun i hi => by
                rcases Nat.lt_or_ge i f with h | h
                · exact hz.out i h
                · obtain rfl : i = f := by omega
                  exact h48)
              clear hz h48
              go_wp2_with fail
              go_round
              case rel => exact ⟨f + 1, by omega, by go_num, HZ⟩
              case measure => first | (simp [intOf]; omega) | simp [intOf]
            · have HH := Lib.hid (show f < L → l.getD f 0 ≠ 48 from fun h e => hgo ⟨h, e⟩)
              clear hgo
              have hN0 : N ≠ 0 := fun e => by
                have := H3.out.len_zero.2 e
                omega
              by_cases hfl : f < L
              · have hne := HH.out hfl
                have ca := HROW.out.cell f (by rw [← HL.out]; exact hfl)
                generalize hvv : l.getD f 0 = v at ca hne
                have HV := Lib.hid hvv
                have t5 : ((v : Int) == 48) = false := by rw [beq_eq_false_iff_ne]; omega
                have HNE := Lib.hid hne
                clear hvv hne
                go_wp2_with fail
                go_loopw [14] (fun t wl => ∃ (k : Nat) (ex : Int), f ≤ k ∧ k ≤ L ∧ t = .int .i64 (k : Nat) ∧ Hid (ex = e0 + ((L - k : Nat) : Int)) ∧ -100000 ≤ ex ∧ ex ≤ 2000000 ∧ Hid (∀ i, k ≤ i → i < L → l.getD i 0 = 48) ∧ Hid (Blk wl w1.heap.size 32 #[.bool neg, .string ⟨#[]⟩, .int .i64 ex]) ∧ Hid (Only w1.heap.size wr wl)) (fun t _ => (intOf t).toNat)
                case atStart => exact ⟨L, e0, hf, Nat.le_refl _, rfl, Lib.hid (by simp), by omega, by omega, Lib.hid (fun i h1 h2 => absurd h1 (by omega)), HD4, Lib.hid (Only.refl _ _)⟩
                case round =>
                  obtain ⟨k, ex, hfk, hkL, rfl, hex, hx1, hx2, hz2, hdk, hon⟩ := hrel
                  have dk0 := hdk.out.cell 0
                  have dk1 := hdk.out.cell 1
                  have dk2 := hdk.out.cell 2
                  simp at dk0 dk1 dk2
                  have fk1 := hdk.out.frozen 1
                  have fk2 := hdk.out.frozen 2
                  have hrw := nrow_only HROW.out hon.out (by omega)
                  by_cases hgo : f < k ∧ l.getD (k - 1) 0 = 48
                  · obtain ⟨hfk2, h48⟩ := hgo
                    obtain ⟨k2, rfl⟩ : ∃ k2, k = k2 + 1 := ⟨k - 1, by omega⟩
                    rw [Nat.add_sub_cancel] at h48
                    have cb := hrw.cell k2 (by rw [← HL.out]; omega)
                    rw [h48] at cb
                    have HZ2 := Lib.hid (show ∀ i, k2 ≤ i → i < L → l.getD i 0 = 48 from fun i h1 h2 => by
                      rcases Nat.lt_or_ge k2 i with h | h
                      · exact hz2.out i h h2
                      · obtain rfl : i = k2 := by omega
                        exact h48)
                    have HDK := Lib.hid (hdk.out.set_ 2 (.int .i64 (ex + 1)))
                    have HON := Lib.hid (hon.out.setCell 2 (.int .i64 (ex + 1)))
                    have HEX := Lib.hid (show ex + 1 = e0 + ((L - k2 : Nat) : Int) by have := hex.out; omega)
                    have hx3 : ex + 1 ≤ 2000000 := by have := HEX.out; have := hex.out; omega
                    have t6 : decide ((f : Int) < ((k2 + 1 : Nat) : Int)) = true := decide_eq_true (by omega)
                    have ek : ((k2 + 1 : Nat) : Int) - 1 = (k2 : Int) := by omega
                    clear h48 hz2 hdk hon hex hrw
                    go_wp2_with fail
                    go_roundw
                    case rel => exact ⟨k2, ex + 1, by omega, by omega, (by first | rfl | exact vint (by omega)), HEX, by omega, hx3, HZ2, HDK, HON⟩
                    case measure => first | (simp [intOf]; omega) | simp [intOf]
                  · have hT := BI.told HBI.out (f := f) (t := k) hfk (by rw [← HL.out]; exact hkL) hz.out (fun i h1 h2 => hz2.out i h1 (by rw [HL.out]; exact h2)) (fun _ => by rw [HV.out]; exact HNE.out) (fun h e => hgo ⟨h, e⟩)
                    have hfk3 : f < k := by
                      rcases Nat.lt_or_ge f k with h | h
                      · exact h
                      · exfalso
                        have hT2 := hT
                        rw [List.drop_of_length_le (by rw [List.length_take]; omega)] at hT2
                        exact hN0 (by rw [← hT2.val]; simp [dval])
                    have hlast : l.getD (k - 1) 0 ≠ 48 := fun e => hgo ⟨hfk3, e⟩
                    obtain ⟨k2, rfl⟩ : ∃ k2, k = k2 + 1 := ⟨k - 1, by omega⟩
                    rw [Nat.add_sub_cancel] at hlast
                    have cb := hrw.cell k2 (by rw [← HL.out]; omega)
                    generalize l.getD k2 0 = v2 at cb hlast
                    have t7 : ((v2 : Int) == 48) = false := by rw [beq_eq_false_iff_ne]; omega
                    have hconv := sub_string hrw f (k2 + 1) (cap - f) hfk (by rw [← HL.out]; exact hkL) (fun d hd => by have := HBI.out.small d hd; omega)
                    have hmid := hT.tl
                    have hmne := hT.ne hN0
                    generalize hmd : List.map UInt8.ofNat (List.drop f (List.take (k2 + 1) l)) = mid at hconv hmid hmne
                    have hne : (⟨mid.toArray⟩ : ByteArray).toList.isEmpty = false := str_ne0 (by simpa using hmne)
                    have hne2 : mid.isEmpty = false := by rw [List.isEmpty_eq_false_iff]; exact hmne
                    have hexv := hmid.2 e0
                    rw [if_neg hmne, ← HL.out] at hexv
                    have HML := Lib.hid hmid.1
                    have HEX := Lib.hid (show ex = te N e0 from by rw [hex.out]; exact hexv)
                    have ek : ((k2 + 1 : Nat) : Int) - 1 = (k2 : Int) := by omega
                    have t6 : decide ((f : Int) < ((k2 + 1 : Nat) : Int)) = true := decide_eq_true (by omega)
                    have HDK := Lib.hid (hdk.out.set_ 1 (.string ⟨mid.toArray⟩))
                    have HRK := Lib.hid ((hon.out.blk HR4.out (by omega)).far (p := ⟨w1.heap.size, 1, none⟩) (by simp; omega) (.string ⟨mid.toArray⟩))
                    have HON := Lib.hid (hon.out.setCell 1 (.string ⟨mid.toArray⟩))
                    have hrb := hon.out.blk HR4.out (by omega)
                    have r0 := hrb.cell 0
                    have r1 := hrb.cell 1
                    have r2 := hrb.cell 2
                    simp at r0 r1 r2
                    have fr0 := hrb.frozen 0
                    have fr1 := hrb.frozen 1
                    have fr2 := hrb.frozen 2
                    clear hrb hT hmid hmne hmd hexv hgo hlast hz2 hex hdk hrw
                    go_wp2_with fail
                    have hk3 := ((HRK.out.set_ 0 (.bool neg)).set_ 1 (.string ⟨mid.toArray⟩)).set_ 2 (.int .i64 ex)
                    have hbf := (((HBW.out.trans (HON.out.below (B := w.heap.size) (by omega) (by omega))).setCell (p := ⟨w.heap.size, 0, none⟩) (Nat.le_refl _) (.bool neg)).setCell (p := ⟨w.heap.size, 1, none⟩) (Nat.le_refl _) (.string ⟨mid.toArray⟩)).setCell (p := ⟨w.heap.size, 2, none⟩) (Nat.le_refl _) (.int .i64 ex)
                    generalize (((wr.setCell _ _).setCell _ _).setCell _ _).setCell _ _ = Wf at hk3 hbf ⊢
                    have q0 : Wf.cell? ⟨w.heap.size, 0, none⟩ = some (.bool neg) := hk3.cell 0
                    have q1 : Wf.cell? ⟨w.heap.size, 1, none⟩ = some (.string ⟨mid.toArray⟩) := hk3.cell 1
                    have q2 : Wf.cell? ⟨w.heap.size, 2, none⟩ = some (.int .i64 ex) := hk3.cell 2
                    refine bodyPost_ret (v := decV neg mid ex) (by simp [results, Tryz.results72, go_sem, q0, q1, q2]) rfl ⟨?_, hbf⟩
                    rw [← HML.out, ← HEX.out]
              · exfalso
                obtain rfl : f = L := by omega
                have := BI.told HBI.out (f := f) (t := f) (Nat.le_refl _) (by rw [← HL.out]; exact Nat.le_refl _) hz.out (fun i h1 h2 => by rw [← HL.out] at h2; omega) (fun h => absurd h (Nat.lt_irrefl _)) (fun h => absurd h (Nat.lt_irrefl _))
                rw [List.drop_of_length_le (by rw [List.length_take]; omega)] at this
                exact hN0 (by rw [← this.val]; simp [dval])
        · subst hu9
          subst hl0
          have hN0 : N = 0 := H3.out.len_zero.1 hn30.symm
          have d0 := HD4.out.cell 0
          have d1 := HD4.out.cell 1
          have d2 := HD4.out.cell 2
          have r0 := HR4.out.cell 0
          have r1 := HR4.out.cell 1
          have r2 := HR4.out.cell 2
          simp at d0 d1 d2 r0 r1 r2
          have fd1 := HD4.out.frozen 1
          have fd2 := HD4.out.frozen 2
          have fr0 := HR4.out.frozen 0
          have fr1 := HR4.out.frozen 1
          have fr2 := HR4.out.frozen 2
          have HN0 := Lib.hid hN0
          have hcv := nil_string
          obtain rfl : n3 = 0 := hn30.symm
          have hwg : w.heap.size ≠ w1.heap.size := by omega
          clear hN0 hll hnil hn30
          go_wp2_with fail
          go_loop [13] (fun f => f = .int .i64 0) (fun _ => 0)
          case atStart => rfl
          case round =>
            subst hrel
            go_wp2_with fail
            go_loop [14] (fun f => f = .int .i64 0) (fun _ => 0)
            case atStart => rfl
            case round =>
              subst hrel
              go_wp2_with (simp only [hcv])
              have hk3 := ((((HR4.out.far (p := ⟨w1.heap.size, 1, none⟩) (by simp; omega) (.string ⟨#[]⟩)).far (p := ⟨w1.heap.size, 2, none⟩) (by simp; omega) (.int .i64 0)).set_ 0 (.bool neg)).set_ 1 (.string ⟨#[]⟩)).set_ 2 (.int .i64 0)
              have hbf := ((((HBW.out.setCell (p := ⟨w1.heap.size, 1, none⟩) (by simp; omega) (.string ⟨#[]⟩)).setCell (p := ⟨w1.heap.size, 2, none⟩) (by simp; omega) (.int .i64 0)).setCell (p := ⟨w.heap.size, 0, none⟩) (Nat.le_refl _) (.bool neg)).setCell (p := ⟨w.heap.size, 1, none⟩) (Nat.le_refl _) (.string ⟨#[]⟩)).setCell (p := ⟨w.heap.size, 2, none⟩) (Nat.le_refl _) (.int .i64 0)
              generalize ((((wr.setCell _ _).setCell _ _).setCell _ _).setCell _ _).setCell _ _ = Wf at hk3 hbf ⊢
              have q0 : Wf.cell? ⟨w.heap.size, 0, none⟩ = some (.bool neg) := hk3.cell 0
              have q1 : Wf.cell? ⟨w.heap.size, 1, none⟩ = some (.string ⟨#[]⟩) := hk3.cell 1
              have q2 : Wf.cell? ⟨w.heap.size, 2, none⟩ = some (.int .i64 0) := hk3.cell 2
              refine bodyPost_ret (v := decV neg [] 0) (by simp [results, Tryz.results72, go_sem, q0, q1, q2]) rfl ⟨?_, hbf⟩
              have hNz := HN0.out
              subst hNz
              rw [show tl 0 = [] from (told_tl 0).zero, show te 0 e0 = 0 from if_pos rfl]
      · obtain ⟨i, rfl⟩ : ∃ i, j = i + 1 := ⟨j - 1, by omega⟩
        rw [show ((i + 1 : Nat) : Int) - 1 = (i : Int) by omega] at hi
        subst hi
        obtain ⟨b, off, rfl, hblt, hac⟩ := H3.out.2.cells (by rw [← H3.out.1]; omega)
        have ca := (HB.out.cell (p := ⟨b, off + i, none⟩) hblt).trans (hac i (by rw [← H3.out.1]; omega))
        have hx := (digs_dig hM N).getD M_pos i
        have HX := Lib.hid (digs_getD hM N i)
        generalize (digs M N).getD i 0 = x at *
        rw [M_eq] at hx
        have HAC := Lib.hid hac
        clear hac
        go_wp2_with fail
        go_loopw [9, 12] (fun b p wl => ∃ (l : List Nat) (P q : Nat), q ≤ 9 ∧ Hid (P = 10 ^ q / 10) ∧ P ≤ 100000000 ∧ p = .int .i64 (P : Nat) ∧ NRow .u8 5 wl W3.heap.size b l ∧ Hid (BI l (N / (M ^ i * 10 ^ q))) ∧ l.length + q ≤ 9 * (n3 - i) ∧ Hid (0 < l.length ∨ q = 9) ∧ Below W3.heap.size W3 wl) (fun _ p _ => (intOf p).toNat)
        case atStart => exact ⟨l, 100000000, 9, Nat.le_refl _, Lib.hid (by decide), Nat.le_refl _, rfl, HROW.out, (by rw [M_ten9]; exact hbi), by omega, Lib.hid (.inr rfl), HB.out⟩
        case round =>
          obtain ⟨l2, P, q, hq, hP, hPb, rfl, hrow2, hbi2, hll2, hnil2, hbel2⟩ := hrel
          have HB2 := Lib.hid hbel2
          have HROW2 := Lib.hid hrow2
          clear hbel2 hrow2
          by_cases hq0 : q = 0
          · subst hq0
            obtain rfl : P = 0 := hP.out
            go_wp2_with fail
            go_roundw
            case rel => exact ⟨l2, i, by omega, (by first | rfl | exact vint (by omega)), HROW2.out, (by have := hbi2; rwa [Nat.pow_zero, Nat.mul_one] at this), by omega, Lib.hid (.inl (hnil2.out.resolve_right (by decide))), HB2.out⟩
            case measure => first | (simp [intOf]; omega) | simp [intOf]
          · obtain ⟨q2, rfl⟩ : ∃ q2, q = q2 + 1 := ⟨q - 1, by omega⟩
            have hPv : P = 10 ^ q2 := by rw [hP.out, Nat.pow_succ, Nat.mul_div_cancel _ (by decide)]
            have hP1 : 0 < P := by rw [hPv]; exact Nat.pow_pos (by decide)
            have t4 : decide ((0 : Int) < (P : Int)) = true := decide_eq_true (by omega)
            obtain ⟨d, hd⟩ : ∃ d, d = x / P % 10 := ⟨_, rfl⟩
            have hd10 : d < 10 := by rw [hd]; exact Nat.mod_lt _ (by decide)
            have ed : (x : Int) / (P : Int) % 10 = (d : Int) := by rw [hd]; simp
            have e0d : (0 : Int) ≤ (x : Int) / (P : Int) := div_nn x P
            have e1d : (x : Int) / (P : Int) ≤ 1000000000 := div_le9 x P hx
            have HST := Lib.hid (show BI (l2 ++ [48 + d]) (N / (M ^ i * 10 ^ q2)) from by
              rw [byte_step N i q2 (by omega), ← HX.out, ← hPv, ← hd]
              exact hbi2.out.snoc hd10)
            have hone := one_at wr (48 + d)
            have ed2 : ((48 + d : Nat) : Int) = 48 + (d : Int) := by omega
            rw [ed2] at hone
            have HONE := Lib.hid hone
            have ROWA := Lib.hid (HROW2.out.below ((Below.refl _ wr).alloc (Nat.le_refl _) (.cells #[.int .u8 (48 + (d : Int))] 5)))
            have hz2 := HB2.out.size
            have hb3 := HB2.out.alloc hz2 (.cells #[.int .u8 (48 + (d : Int))] 5)
            have HP2 := Lib.hid (show P / 10 = 10 ^ q2 / 10 by rw [hPv])
            have hlm : l2.length < 3000000 := by omega
            clear hd hPv hone ed2 hP HX hbi2
            go_wp2_with (at_builtin; refine wpList_append_num _ rfl _ _ 60 rfl .u8 W3.heap.size 5 (.int .u8 0) 1 i8 Tryz.underlying60 hi8 hz8 hs8 hb8 rfl _ l2 rfl ROWA.out (some ⟨wr.heap.size, 0, none⟩) 1 1 [48 + d] rfl rfl HONE.out ?c3 ?c4 ?c5 ?_)
            case c3 => unfold maxLen; simp; omega
            case c4 => simp; omega
            case c5 => simp; omega
            intro v' w' hown hg2
            have hbw := below_row hb3 ROWA.out hg2
            have HOWN := Lib.hid hown
            have HBW := Lib.hid hbw
            clear hown hg2 hbw hb3
            go_wp2_with fail
            go_roundw
            case rel => exact ⟨l2 ++ [48 + d], P / 10, q2, by omega, HP2, by omega, vint (by omega), HOWN.out, HST, by simp; omega, Lib.hid (.inl (by simp)), HBW.out⟩
            case measure => first | (simp [intOf]; omega) | simp [intOf]
end Go.Proofs.YtabmalnandbocaaGreatDoor.Num
namespace Go.Proofs.YtabmalnandbocaaGreatDoor.Num
set_option exponentiation.threshold 3000
set_option linter.unusedVariables false
set_option linter.unusedSimpArgs false
open Go.RowKit Go.Proofs.YtabmalnandbocaaGreatDoor.Mem Go.Proofs.YtabmalnandbocaaGreatDoor.Own Go.Proofs.YtabmalnandbocaaGreatDoor.Big

theorem drop_last (c : UInt8) (l : List UInt8) : ∃ z, l = (l.reverse.dropWhile (· == c)).reverse ++ List.replicate z c := by
  have key : ∀ m : List UInt8, ∃ z, m = List.replicate z c ++ m.dropWhile (· == c) := by
    intro m
    induction m with
    | nil => exact ⟨0, rfl⟩
    | cons d m ih =>
      by_cases h : d = c
      · obtain ⟨z, hz⟩ := ih
        refine ⟨z + 1, ?_⟩
        rw [List.dropWhile_cons_of_pos (by simpa using h), List.replicate_succ, List.cons_append, ← hz, h]
      · refine ⟨0, ?_⟩
        rw [List.dropWhile_cons_of_neg (by simpa using h)]; rfl
  obtain ⟨z, hz⟩ := key l.reverse
  refine ⟨z, ?_⟩
  have := congrArg List.reverse hz
  rw [List.reverse_reverse, List.reverse_append, List.reverse_replicate] at this
  exact this
theorem trim_last (c : UInt8) (l : List UInt8) : ∀ d, (Lib.trimRightB l c).getLast? = some d → d ≠ c := by
  intro d hd
  unfold Lib.trimRightB at hd
  rw [List.getLast?_reverse] at hd
  intro e
  subst e
  have := List.head?_dropWhile_not (· == d) l.reverse
  rw [hd] at this
  simp at this
theorem trim_told (N : Nat) : Told N (Lib.trimRightB (decL N) 48) ((decL N).length - (Lib.trimRightB (decL N) 48).length) := by
  obtain ⟨z, hz⟩ := drop_last 48 (decL N)
  have hz' : decL N = Lib.trimRightB (decL N) 48 ++ List.replicate z 48 := hz
  have hlen := congrArg List.length hz'
  rw [List.length_append, List.length_replicate] at hlen
  have e1 : (decL N).length - (Lib.trimRightB (decL N) 48).length = z := by omega
  rw [e1]
  refine Told.of (a := 0) (decL_digs N) (decL_dval N) (by simpa using hz') (fun c hc => ?_) (fun c hc => ?_)
  · by_cases hN : N = 0
    · subst hN
      have : Lib.trimRightB (decL 0) 48 = [] := rfl
      rw [this] at hc; simp at hc
    · refine decL_head hN c ?_
      rw [hz']
      cases hl : Lib.trimRightB (decL N) 48 with
      | nil => rw [hl] at hc; simp at hc
      | cons d l => rw [hl] at hc; simpa using hc
  · have := trim_last 48 (decL N) c hc
    exact fun e => this (UInt8.toNat_inj.1 e)
theorem decL_len (N : Nat) : (decL N).length ≤ (digs 10 N).length + 1 := by
  unfold decL
  split
  · simp
  · simp [decN]
set_option maxHeartbeats 8000000 in
set_option maxRecDepth 100000 in
theorem tlw_w (neg : Bool) (m : Nat) (e e0 : Int) (N : Nat) (w : World) (hm : m < 9223372036854775808) (he1 : -2000 ≤ e) (he2 : e ≤ 2000) (h1 : 0 ≤ e → e0 = 0 ∧ N = m * 2 ^ e.toNat) (h2 : e < 0 → e0 = e ∧ N = m * 5 ^ (-e).toNat) (hd1 : (digs B N).length < 90000) (hd2 : (digs 10 N).length < 90000) :
    Calls Tryz.prog 51 #[.bool neg, .int .i64 (m : Nat), .int .i64 e] w (TolPost w neg N e0) := by
  have hb0 := Blk.new w 32 #[.bool false, .string ⟨#[]⟩, .int .i64 0]
  have HB0 := Lib.hid hb0
  have HNW := Lib.hid (fun W => newint_w m W hm)
  have hml := small_len (x := m) (by omega)
  clear hb0
  go_enter Tryz.func51, Tryz.ntmps51
  go_wp2_with fail
  refine (HNW.out _).mono ?_
  rintro en w1 ⟨p, rfl, hp, hx1, b1⟩
  have H1 := Lib.hid hx1
  have HB1 := Lib.hid (HB0.out.below b1 HB0.out.lt)
  have B1 := Lib.hid (bthen ((Below.refl _ w).alloc (Nat.le_refl _) _) b1)
  have hpw : w.heap.size < p := by simp at hp; omega
  clear b1 hx1 hp
  by_cases hpos : 0 ≤ e
  · obtain ⟨k, rfl⟩ := Int.eq_ofNat_of_zero_le hpos
    obtain ⟨rfl, hN⟩ := h1 hpos
    have HN := Lib.hid hN
    have t1 : decide ((0 : Int) ≤ (k : Int)) = true := by simp
    have HL := Lib.hid (lsh_w p p m k w1 H1.out.any H1.out (by omega) (by omega))
    clear h1 h2 hN
    go_wp2_with fail
    refine HL.out.mono ?_
    rintro en w2 ⟨rfl, h2, o2⟩
    rw [show m * 2 ^ k = N from by rw [HN.out]; simp] at h2
    have H2 := Lib.hid h2
    have B2 := Lib.hid (B1.out.trans (o2.below (by omega) B1.out.size))
    have HB2 := Lib.hid (o2.blk HB1.out (by omega))
    have HS := Lib.hid (string_w p N w2 h2 (by omega) (by omega))
    clear h2 o2 HN HL
    go_wp2_with fail
    refine HS.out.mono ?_
    rintro en w3 ⟨rfl, b3⟩
    have B3 := Lib.hid (bthen B2.out b3)
    have HB3 := Lib.hid (HB2.out.below b3 HB2.out.lt)
    have hlen : (decL N).length ≤ 90000 := Nat.le_trans (decL_len N) hd2
    have HT := Lib.hid (show Calls Tryz.prog 53 #[.string ⟨(decL N).toArray⟩, .string ⟨#[48]⟩] w3 (fun e w' => e = .returned (.string ⟨(Lib.trimRightB (decL N) 48).toArray⟩) ∧ w' = w3) from Tryz.strings_TrimRight_one ⟨(decL N).toArray⟩ 48 (by decide) w3 (by simp [ByteArray.size]; omega))
    have HV := Lib.hid (trim_told N)
    have hle : (Lib.trimRightB (decL N) 48).length ≤ (decL N).length := by
      obtain ⟨z, hz⟩ := drop_last 48 (decL N)
      have := congrArg List.length hz
      rw [List.length_append] at this
      unfold Lib.trimRightB
      omega
    generalize decL N = dl at *
    generalize Lib.trimRightB dl 48 = tr at *
    have r0 := HB3.out.cell 0
    have r1 := HB3.out.cell 1
    have r2 := HB3.out.cell 2
    simp at r0 r1 r2
    have fr0 := HB3.out.frozen 0
    have fr1 := HB3.out.frozen 1
    have fr2 := HB3.out.frozen 2
    clear b3
    go_wp2_with fail
    refine HT.out.mono ?_
    rintro en w4 ⟨rfl, hw4⟩
    subst hw4
    by_cases hN0 : N = 0
    · have htr : tr = [] := by have := HV.out; rw [hN0] at this; exact this.zero
      subst htr
      have HN0 := Lib.hid hN0
      clear hN0 hle
      go_wp2_with fail
      have hk3 := ((HB3.out.set_ 0 (.bool neg)).set_ 1 (.string ⟨([] : List UInt8).toArray⟩)).set_ 2 (.int .i64 0)
      have hbf := ((B3.out.setCell (p := ⟨w.heap.size, 0, none⟩) (Nat.le_refl _) (.bool neg)).setCell (p := ⟨w.heap.size, 1, none⟩) (Nat.le_refl _) (.string ⟨([] : List UInt8).toArray⟩)).setCell (p := ⟨w.heap.size, 2, none⟩) (Nat.le_refl _) (.int .i64 0)
      generalize ((w4.setCell _ _).setCell _ _).setCell _ _ = Wf at hk3 hbf ⊢
      have q0 : Wf.cell? ⟨w.heap.size, 0, none⟩ = some (.bool neg) := hk3.cell 0
      have q1 : Wf.cell? ⟨w.heap.size, 1, none⟩ = some (.string ⟨#[]⟩) := hk3.cell 1
      have q2 : Wf.cell? ⟨w.heap.size, 2, none⟩ = some (.int .i64 0) := hk3.cell 2
      refine bodyPost_ret (v := decV neg [] 0) (by simp [results, Tryz.results51, go_sem, q0, q1, q2]) rfl ⟨?_, hbf⟩
      have hNz := HN0.out
      subst hNz
      rw [show tl 0 = [] from (told_tl 0).zero, show te 0 0 = 0 from if_pos rfl]
    · have htr := HV.out.ne hN0
      have htr2 : tr.isEmpty = false := by rw [List.isEmpty_eq_false_iff]; exact htr
      have hne : (⟨tr.toArray⟩ : ByteArray).toList.isEmpty = false := str_ne0 (by simpa using htr)
      have htl := HV.out.tl
      have hex := htl.2 0
      rw [if_neg htr] at hex
      have HEX := Lib.hid (show 0 + (dl.length : Int) - (tr.length : Int) = te N 0 from by rw [← hex]; omega)
      have HTL := Lib.hid htl.1
      clear htr htl hex hN0
      go_wp2_with fail
      have hk3 := ((HB3.out.set_ 0 (.bool neg)).set_ 1 (.string ⟨tr.toArray⟩)).set_ 2 (.int .i64 ((dl.length : Int) - (tr.length : Int)))
      have hbf := ((B3.out.setCell (p := ⟨w.heap.size, 0, none⟩) (Nat.le_refl _) (.bool neg)).setCell (p := ⟨w.heap.size, 1, none⟩) (Nat.le_refl _) (.string ⟨tr.toArray⟩)).setCell (p := ⟨w.heap.size, 2, none⟩) (Nat.le_refl _) (.int .i64 ((dl.length : Int) - (tr.length : Int)))
      generalize ((w4.setCell _ _).setCell _ _).setCell _ _ = Wf at hk3 hbf ⊢
      have q0 : Wf.cell? ⟨w.heap.size, 0, none⟩ = some (.bool neg) := hk3.cell 0
      have q1 : Wf.cell? ⟨w.heap.size, 1, none⟩ = some (.string ⟨tr.toArray⟩) := hk3.cell 1
      have q2 : Wf.cell? ⟨w.heap.size, 2, none⟩ = some (.int .i64 ((dl.length : Int) - (tr.length : Int))) := hk3.cell 2
      refine bodyPost_ret (v := decV neg tr ((dl.length : Int) - (tr.length : Int))) (by simp [results, Tryz.results51, go_sem, q0, q1, q2]) rfl ⟨?_, hbf⟩
      rw [← HTL.out, ← HEX.out]; simp
  · obtain ⟨k, hk⟩ : ∃ k : Nat, k = (-e).toNat := ⟨_, rfl⟩
    obtain ⟨rfl, hN⟩ := h2 (by omega)
    rw [← hk] at hN
    have HN := Lib.hid hN
    have t1 : decide ((0 : Int) ≤ e0) = false := decide_eq_false hpos
    have eq1 : -e0 = (k : Int) := by omega
    have hkb : k ≤ 2000 := by omega
    have hlo : -2000 ≤ e0 := he1
    have hhi : e0 < 0 := by omega
    have HPW := Lib.hid (fun W => power_w 5 k W (by decide) (by decide) (by omega))
    have hpl := pow_len (b := 5) (n := k) (by decide)
    clear h1 h2 hN hpos hk he1 he2
    go_wp2_with fail
    refine (HPW.out _).mono ?_
    rintro en w1' ⟨q, rfl, hq, hxq, b1'⟩
    have H1q := Lib.hid (H1.out.below b1')
    have B1q := Lib.hid (bthen B1.out b1')
    have HB1q := Lib.hid (HB1.out.below b1' HB1.out.lt)
    have HL := Lib.hid (imul_w p p q m (5 ^ k) w1' H1q.out.any H1q.out hxq (by omega) (by omega))
    clear hxq b1' HPW hpl
    go_wp2_with fail
    refine HL.out.mono ?_
    rintro en w2 ⟨rfl, h2, o2⟩
    rw [← HN.out] at h2
    have H2 := Lib.hid h2
    have B2 := Lib.hid (B1q.out.trans (o2.below (by omega) B1q.out.size))
    have HB2 := Lib.hid (o2.blk HB1q.out (by omega))
    have HS := Lib.hid (string_w p N w2 h2 (by omega) (by omega))
    clear h2 o2 HN HL
    go_wp2_with fail
    refine HS.out.mono ?_
    rintro en w3 ⟨rfl, b3⟩
    have B3 := Lib.hid (bthen B2.out b3)
    have HB3 := Lib.hid (HB2.out.below b3 HB2.out.lt)
    have hlen : (decL N).length ≤ 90000 := Nat.le_trans (decL_len N) hd2
    have HT := Lib.hid (show Calls Tryz.prog 53 #[.string ⟨(decL N).toArray⟩, .string ⟨#[48]⟩] w3 (fun e w' => e = .returned (.string ⟨(Lib.trimRightB (decL N) 48).toArray⟩) ∧ w' = w3) from Tryz.strings_TrimRight_one ⟨(decL N).toArray⟩ 48 (by decide) w3 (by simp [ByteArray.size]; omega))
    have HV := Lib.hid (trim_told N)
    have hle : (Lib.trimRightB (decL N) 48).length ≤ (decL N).length := by
      obtain ⟨z, hz⟩ := drop_last 48 (decL N)
      have := congrArg List.length hz
      rw [List.length_append] at this
      unfold Lib.trimRightB
      omega
    generalize decL N = dl at *
    generalize Lib.trimRightB dl 48 = tr at *
    have r0 := HB3.out.cell 0
    have r1 := HB3.out.cell 1
    have r2 := HB3.out.cell 2
    simp at r0 r1 r2
    have fr0 := HB3.out.frozen 0
    have fr1 := HB3.out.frozen 1
    have fr2 := HB3.out.frozen 2
    clear b3
    go_wp2_with fail
    refine HT.out.mono ?_
    rintro en w4 ⟨rfl, hw4⟩
    subst hw4
    by_cases hN0 : N = 0
    · have htr : tr = [] := by have := HV.out; rw [hN0] at this; exact this.zero
      subst htr
      have HN0 := Lib.hid hN0
      clear hN0 hle
      go_wp2_with fail
      have hk3 := ((HB3.out.set_ 0 (.bool neg)).set_ 1 (.string ⟨([] : List UInt8).toArray⟩)).set_ 2 (.int .i64 0)
      have hbf := ((B3.out.setCell (p := ⟨w.heap.size, 0, none⟩) (Nat.le_refl _) (.bool neg)).setCell (p := ⟨w.heap.size, 1, none⟩) (Nat.le_refl _) (.string ⟨([] : List UInt8).toArray⟩)).setCell (p := ⟨w.heap.size, 2, none⟩) (Nat.le_refl _) (.int .i64 0)
      generalize ((w4.setCell _ _).setCell _ _).setCell _ _ = Wf at hk3 hbf ⊢
      have q0 : Wf.cell? ⟨w.heap.size, 0, none⟩ = some (.bool neg) := hk3.cell 0
      have q1 : Wf.cell? ⟨w.heap.size, 1, none⟩ = some (.string ⟨#[]⟩) := hk3.cell 1
      have q2 : Wf.cell? ⟨w.heap.size, 2, none⟩ = some (.int .i64 0) := hk3.cell 2
      refine bodyPost_ret (v := decV neg [] 0) (by simp [results, Tryz.results51, go_sem, q0, q1, q2]) rfl ⟨?_, hbf⟩
      have hNz := HN0.out
      subst hNz
      rw [show tl 0 = [] from (told_tl 0).zero, show te 0 e0 = 0 from if_pos rfl]
    · have htr := HV.out.ne hN0
      have htr2 : tr.isEmpty = false := by rw [List.isEmpty_eq_false_iff]; exact htr
      have hne : (⟨tr.toArray⟩ : ByteArray).toList.isEmpty = false := str_ne0 (by simpa using htr)
      have htl := HV.out.tl
      have hex := htl.2 e0
      rw [if_neg htr] at hex
      have HEX := Lib.hid (show e0 + (dl.length : Int) - (tr.length : Int) = te N e0 from by rw [← hex]; omega)
      have HTL := Lib.hid htl.1
      clear htr htl hex hN0
      go_wp2_with fail
      have hk3 := ((HB3.out.set_ 0 (.bool neg)).set_ 1 (.string ⟨tr.toArray⟩)).set_ 2 (.int .i64 (e0 + (dl.length : Int) - (tr.length : Int)))
      have hbf := ((B3.out.setCell (p := ⟨w.heap.size, 0, none⟩) (Nat.le_refl _) (.bool neg)).setCell (p := ⟨w.heap.size, 1, none⟩) (Nat.le_refl _) (.string ⟨tr.toArray⟩)).setCell (p := ⟨w.heap.size, 2, none⟩) (Nat.le_refl _) (.int .i64 (e0 + (dl.length : Int) - (tr.length : Int)))
      generalize ((w4.setCell _ _).setCell _ _).setCell _ _ = Wf at hk3 hbf ⊢
      have q0 : Wf.cell? ⟨w.heap.size, 0, none⟩ = some (.bool neg) := hk3.cell 0
      have q1 : Wf.cell? ⟨w.heap.size, 1, none⟩ = some (.string ⟨tr.toArray⟩) := hk3.cell 1
      have q2 : Wf.cell? ⟨w.heap.size, 2, none⟩ = some (.int .i64 (e0 + (dl.length : Int) - (tr.length : Int))) := hk3.cell 2
      refine bodyPost_ret (v := decV neg tr (e0 + (dl.length : Int) - (tr.length : Int))) (by simp [results, Tryz.results51, go_sem, q0, q1, q2]) rfl ⟨?_, hbf⟩
      rw [← HTL.out, ← HEX.out]
end Go.Proofs.YtabmalnandbocaaGreatDoor.Num
