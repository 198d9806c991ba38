/- The walk of quarryref15.Unescape. -/
import Derived.Test.YtlfkhfmepcnfeaaUnP
import Derived.Handy
namespace Go.Proofs.Ytlfkhfmepcnfeaa.Txt
set_option linter.unusedVariables false
set_option linter.unusedSimpArgs false
open Go.RowKit Go.Proofs.Ytlfkhfmepcnfeaa.Mem Go.Proofs.Ytlfkhfmepcnfeaa.Own Go.Proofs.Ytlfkhfmepcnfeaa.Utf Go.Proofs.Ytlfkhfmepcnfeaa.Bld

set_option maxHeartbeats 4000000 in
set_option maxRecDepth 100000 in
theorem run_w (s : ByteArray) (hs : s.size ≤ 8796093022208) (w : World) : Calls Try.prog 12 #[.string s] w fun e w' => e = .returned (.tuple #[.string (unB s), .int .i64 (unE s)]) ∧ Below w.heap.size w w' := by
  have HB := Lib.hid (rbad_w s hs)
  by_cases hb : badF s = -1
  · have tb : decide (0 ≤ badF s) = false := by rw [hb]; decide
    have HBD := Lib.hid hb
    clear hb
    go_enter Try.func12, Try.ntmps12
    go_wp2_with fail
    refine (HB.out _).mono ?_; rintro e w1 ⟨rfl, hb1⟩
    go_wp2_with fail
    have hsz1 := hb1.size
    obtain ⟨i0, hi, hz0, hz1, hz2⟩ := info_parts3 y_info
    go_loopw [0, 4] (fun raw ov wr => ∃ (t : ByteArray) (out : List UInt8) (op : Option Addr) (oc : Nat), raw = .string t ∧ ov = .slice op out.length oc ∧ Hid (unF s.data.toList = (unF t.data.toList).map (out ++ ·)) ∧ out.length + t.size ≤ s.size ∧ wr.ownsRow w.heap.size 5 1 (.slice op out.length oc) out.length (Lib.byteCells out) ∧ Below w.heap.size w wr) (fun raw _ _ => strSize raw)
    case atStart => exact ⟨s, [], none, 0, rfl, rfl, by show unF _ = _; simp, by simp, World.ownsRow_nil _ _ _ _, hb1⟩
    case round =>
      obtain ⟨t, out, op, oc, rfl, rfl, hU, hlen, hown, hbel⟩ := hrel
      clear hb1
      have hszr := hbel.size
      by_cases ht : t.size = 0
      · have te : decide (0 < (t.size : Int)) = false := by rw [ht]; rfl
        have hcv := conv_own wr _ _ _ _ hown
        go_wp2_with fail
        go_ret2
        have hf : unF s.data.toList = some out := by rw [hU.out, list_nil ht, unF_nil]; simp
        obtain ⟨h1, h2⟩ := un_some HBD.out hf
        exact ⟨by rw [h1, h2]; rfl, hbel⟩
      · have te : decide (0 < (t.size : Int)) = true := by simp; omega
        have hne : t.data.toList ≠ [] := fun e => ht (by have := congrArg List.length e; rwa [Array.length_toList] at this)
        obtain ⟨n, m, f, hN⟩ : ∃ n m f, nextL t.data.toList = (n, m, f) := ⟨_, _, _, rfl⟩
        have HNX := Lib.hid (next_as hN (by omega))
        have hc := next_cases _ hne n m f hN
        have htl : t.data.toList.length = t.size := by simp
        rw [htl] at hc
        have HU := Lib.hid hU.out
        clear hN htl hU
        rcases hc with ⟨hn, hun⟩ | ⟨hn, hnl, rfl, hm0, hm1, hun⟩ | ⟨rfl, hnl, rfl, hm0, hm1, h9, hone⟩
        · have hf : unF s.data.toList = none := by rw [HU.out, hun]; rfl
          obtain ⟨h1, h2⟩ := un_none HBD.out hf
          have H1 := Lib.hid h1; have H2 := Lib.hid h2; clear h1 h2 hf hun
          have tn : ((n : Int) == 0) = true := by simp; omega
          clear hn hne
          go_wp2_with fail
          refine (HNX.out _).mono ?_; rintro e w2 ⟨rfl, hb2⟩
          go_wp2_with fail
          go_ret2
          exact ⟨by rw [H1.out, H2.out]; rfl, (bthen hbel hb2).alloc (by have := hb2.size; omega) _⟩
        · have tn : ((n : Int) == 0) = false := by simp; omega
          obtain ⟨B, hsB, hBl, hBs⟩ := sl_from t (n : Int) n rfl hnl
          have hF := fin1 HU.out hun
          rw [← hBl] at hF
          have HF := Lib.hid hF
          clear hF hun hne hBl
          go_wp2_with fail
          refine (HNX.out _).mono ?_; rintro e w2 ⟨rfl, hb2⟩
          have hbel2 := bthen hbel hb2
          have hown2 := own_below hown hb2
          have hs2 := hbel2.size
          have hkA : Blk (w2.alloc (.cells #[.int .i64 (n : Int), .int .i64 m, .bool false] 45)) w2.heap.size 45 #[.int .i64 (n : Int), .int .i64 m, .bool false] := Blk.new w2 _ _
          have hbelA := hbel2.alloc hs2 (.cells #[.int .i64 (n : Int), .int .i64 m, .bool false] 45)
          have hownA := hown2.alloc (.cells #[.int .i64 (n : Int), .int .i64 m, .bool false] 45)
          go_wp2_with fail
          refine (high_as high_no _).mono ?_; rintro e w3 ⟨rfl, hbw3⟩
          have hkw3 := hkA.below hbw3 hkA.lt
          have w30 : w3.cell? ⟨w2.heap.size, 0, none⟩ = some (.int .i64 (n : Int)) := hkw3.cell 0
          have w31 : w3.cell? ⟨w2.heap.size, 1, none⟩ = some (.int .i64 m) := hkw3.cell 1
          have w32 : w3.cell? ⟨w2.heap.size, 2, none⟩ = some (.bool false) := hkw3.cell 2
          have hbelw3 := bthen hbelA hbw3
          have hownw3 := own_below hownA hbw3
          have hsw3 := hbelw3.size
          go_wp2_with fail
          refine (high_as high_no _).mono ?_; rintro e w4 ⟨rfl, hbw4⟩
          have hkw4 := hkw3.below hbw4 hkw3.lt
          have w40 : w4.cell? ⟨w2.heap.size, 0, none⟩ = some (.int .i64 (n : Int)) := hkw4.cell 0
          have w41 : w4.cell? ⟨w2.heap.size, 1, none⟩ = some (.int .i64 m) := hkw4.cell 1
          have w42 : w4.cell? ⟨w2.heap.size, 2, none⟩ = some (.bool false) := hkw4.cell 2
          have hbelw4 := bthen hbelw3 hbw4
          have hownw4 := own_below hownw3 hbw4
          have hsw4 := hbelw4.size
          go_wp2_with fail
          refine (low_as low_no _).mono ?_; rintro e w5 ⟨rfl, hbw5⟩
          have hkw5 := hkw4.below hbw5 hkw4.lt
          have w50 : w5.cell? ⟨w2.heap.size, 0, none⟩ = some (.int .i64 (n : Int)) := hkw5.cell 0
          have w51 : w5.cell? ⟨w2.heap.size, 1, none⟩ = some (.int .i64 m) := hkw5.cell 1
          have w52 : w5.cell? ⟨w2.heap.size, 2, none⟩ = some (.bool false) := hkw5.cell 2
          have hbelw5 := bthen hbelw4 hbw5
          have hownw5 := own_below hownw4 hbw5
          have hsw5 := hbelw5.size
          go_wp2_with (at_builtin; refine wpList_append_own _ rfl _ _ 31 rfl w.heap.size 5 i0 (.int .u8 0) 1 1 Try.underlying31 hi hz0 hz1 hz2 rfl (by decide) _ _ _ rfl (hownw5.alloc _) ⟨w5.heap.size, 0, none⟩ 1 1 [.int .u8 m] rfl rfl ?c1 ?c2 ?c3 ?c4 ?c5 ?_)
          case c1 =>
            intro j u hj
            match j, hj with
            | 0, hj => simp at hj; subst hj; simp [Addr.add]
          case c2 => intro u hu; simp at hu; subst hu; rfl
          case c3 => unfold maxLen; omega
          case c4 => omega
          case c5 => simp; omega
          intro v' w9 hown' hgrow _
          go_wp2_with fail
          obtain ⟨vp, vc, rfl⟩ := own_form hown'
          refine ⟨⟨B, out ++ [toB m], vp, vc, rfl, by rw [List.length_append]; rfl, HF.out, by rw [List.length_append]; show out.length + 1 + B.size ≤ _; omega, ?_, ?_⟩, by show B.size < t.size; omega⟩
          · rw [Lib.byteCells_append, List.length_append]
            have e : Lib.byteCells [toB m] = [.int .u8 m] := by simp only [Lib.byteCells, List.map_cons, List.map_nil]; rw [toB_cell hm0 hm1]
            rw [e]; exact hown'
          · exact (hbelw5.alloc hsw5 _).grown hgrow (by simp; omega) (fun k hk => (hownw5.lt k hk).1)
        · obtain ⟨B, hsB, hBl, hBs⟩ := sl_from t (6 : Int) 6 rfl hnl
          have HBL := Lib.hid hBl; have HBS := Lib.hid hBs; clear hBl
          have HONE := Lib.hid hone; clear hone
          by_cases ca : 55296 ≤ m ∧ m < 56320
          · have h1 : highF (6, m, true) = true := high_yes ca
            have H1 := Lib.hid h1; clear h1
            by_cases hB0 : B.size = 0
            · have tb0 : decide (0 < (B.size : Int)) = false := by rw [hB0]; rfl
              have hnil : t.data.toList.drop 6 = [] := by rw [← HBL.out]; exact list_nil hB0
              have he := esc_high HONE.out ca (by rw [hnil]; rintro ⟨q, -⟩; cases q)
              have hF := fin2 HU.out hne h9 he
              have hG := (esc_facts he).2.2.2.2.2
              rw [← HBL.out] at hF
              have HF := Lib.hid hF
              clear hF he hne ca hnil hBs
              go_wp2_with fail
              refine (HNX.out _).mono ?_; rintro e w2 ⟨rfl, hb2⟩
              have hbel2 := bthen hbel hb2
              have hown2 := own_below hown hb2
              have hs2 := hbel2.size
              have hkA : Blk (w2.alloc (.cells #[.int .i64 (6 : Int), .int .i64 m, .bool true] 45)) w2.heap.size 45 #[.int .i64 (6 : Int), .int .i64 m, .bool true] := Blk.new w2 _ _
              have hbelA := hbel2.alloc hs2 (.cells #[.int .i64 (6 : Int), .int .i64 m, .bool true] 45)
              have hownA := hown2.alloc (.cells #[.int .i64 (6 : Int), .int .i64 m, .bool true] 45)
              go_wp2_with fail
              refine (high_as H1.out _).mono ?_; rintro e w3 ⟨rfl, hbw3⟩
              have hkw3 := hkA.below hbw3 hkA.lt
              have w30 : w3.cell? ⟨w2.heap.size, 0, none⟩ = some (.int .i64 (6 : Int)) := hkw3.cell 0
              have w31 : w3.cell? ⟨w2.heap.size, 1, none⟩ = some (.int .i64 m) := hkw3.cell 1
              have w32 : w3.cell? ⟨w2.heap.size, 2, none⟩ = some (.bool true) := hkw3.cell 2
              have hbelw3 := bthen hbelA hbw3
              have hownw3 := own_below hownA hbw3
              have hsw3 := hbelw3.size
              go_wp2_with fail
              refine (high_as H1.out _).mono ?_; rintro e w4 ⟨rfl, hbw4⟩
              have hkw4 := hkw3.below hbw4 hkw3.lt
              have w40 : w4.cell? ⟨w2.heap.size, 0, none⟩ = some (.int .i64 (6 : Int)) := hkw4.cell 0
              have w41 : w4.cell? ⟨w2.heap.size, 1, none⟩ = some (.int .i64 m) := hkw4.cell 1
              have w42 : w4.cell? ⟨w2.heap.size, 2, none⟩ = some (.bool true) := hkw4.cell 2
              have hbelw4 := bthen hbelw3 hbw4
              have hownw4 := own_below hownw3 hbw4
              have hsw4 := hbelw4.size
              go_wp2_with fail
              have hBs := HBS.out
              refine (char_w 65533 (by omega) (by omega) (by omega) _).mono ?_; rintro e w8 ⟨g8, cap8, rfl, hc8, hb8⟩
              have hown8 := own_below hownw4 hb8
              have hbel8 := bthen hbelw4 hb8
              have hs8 := hbel8.size
              go_wp2_with (at_builtin; refine wpList_append_own _ rfl _ _ 31 rfl w.heap.size 5 i0 (.int .u8 0) 1 1 Try.underlying31 hi hz0 hz1 hz2 rfl (by decide) _ _ _ rfl hown8 ⟨g8, 0, none⟩ _ _ (Lib.byteCells (encL 65533)) rfl (by rw [Lib.byteCells_length, Nat.mul_one]) ?c1 ?c2 ?c3 ?c4 ?c5 ?_)
              case c1 =>
                intro j u hj
                rw [show (⟨g8, 0, none⟩ : Addr).add j = ⟨g8, j, none⟩ by unfold Addr.add; split <;> simp_all]
                exact hc8 j u hj
              case c2 => exact byte_cells _
              case c3 => unfold maxLen; omega
              case c4 => omega
              case c5 => omega
              intro v' w9 hown' hgrow _
              go_wp2_with fail
              obtain ⟨vp, vc, rfl⟩ := own_form hown'
              refine ⟨⟨B, out ++ encL 65533, vp, vc, rfl, by rw [List.length_append], HF.out, by rw [List.length_append]; show out.length + _ + B.size ≤ _; omega, ?_, ?_⟩, by show B.size < t.size; omega⟩
              · rw [Lib.byteCells_append, List.length_append]; exact hown'
              · exact hbel8.grown hgrow (by omega) (fun k hk => (hown8.lt k hk).1)
            · have tb0 : decide (0 < (B.size : Int)) = true := by simp; omega
              have hBp : 0 < B.size := by omega
              have hneB : B.data.toList ≠ [] := fun e => hB0 (by have := congrArg List.length e; rwa [Array.length_toList] at this)
              obtain ⟨n2, m2, f2, hN2⟩ : ∃ n m f, nextL B.data.toList = (n, m, f) := ⟨_, _, _, rfl⟩
              have HN2 := Lib.hid (next_as hN2 (by omega))
              have hln := low_next _ hneB n2 m2 f2 hN2
              cases hlow : lowF (n2, m2, f2) with
              | false =>
                have H2 := Lib.hid hlow
                have he := esc_high HONE.out ca (by rw [← HBL.out]; exact hln.2 hlow)
                have hF := fin2 HU.out hne h9 he
                have hG := (esc_facts he).2.2.2.2.2
                rw [← HBL.out] at hF
                have HF := Lib.hid hF
                clear hF he hne ca hB0 hlow hln hN2 hneB hBs
                go_wp2_with fail
                refine (HNX.out _).mono ?_; rintro e w2 ⟨rfl, hb2⟩
                have hbel2 := bthen hbel hb2
                have hown2 := own_below hown hb2
                have hs2 := hbel2.size
                have hkA : Blk (w2.alloc (.cells #[.int .i64 (6 : Int), .int .i64 m, .bool true] 45)) w2.heap.size 45 #[.int .i64 (6 : Int), .int .i64 m, .bool true] := Blk.new w2 _ _
                have hbelA := hbel2.alloc hs2 (.cells #[.int .i64 (6 : Int), .int .i64 m, .bool true] 45)
                have hownA := hown2.alloc (.cells #[.int .i64 (6 : Int), .int .i64 m, .bool true] 45)
                go_wp2_with fail
                refine (high_as H1.out _).mono ?_; rintro e w3 ⟨rfl, hbw3⟩
                have hkw3 := hkA.below hbw3 hkA.lt
                have w30 : w3.cell? ⟨w2.heap.size, 0, none⟩ = some (.int .i64 (6 : Int)) := hkw3.cell 0
                have w31 : w3.cell? ⟨w2.heap.size, 1, none⟩ = some (.int .i64 m) := hkw3.cell 1
                have w32 : w3.cell? ⟨w2.heap.size, 2, none⟩ = some (.bool true) := hkw3.cell 2
                have hbelw3 := bthen hbelA hbw3
                have hownw3 := own_below hownA hbw3
                have hsw3 := hbelw3.size
                go_wp2_with fail
                refine (HN2.out _).mono ?_; rintro e w4 ⟨rfl, hbw4⟩
                have hkw4 := hkw3.below hbw4 hkw3.lt
                have w40 : w4.cell? ⟨w2.heap.size, 0, none⟩ = some (.int .i64 (6 : Int)) := hkw4.cell 0
                have w41 : w4.cell? ⟨w2.heap.size, 1, none⟩ = some (.int .i64 m) := hkw4.cell 1
                have w42 : w4.cell? ⟨w2.heap.size, 2, none⟩ = some (.bool true) := hkw4.cell 2
                have hbelw4 := bthen hbelw3 hbw4
                have hownw4 := own_below hownw3 hbw4
                have hsw4 := hbelw4.size
                go_wp2_with fail
                refine (low_as H2.out _).mono ?_; rintro e w5 ⟨rfl, hbw5⟩
                have hkw5 := hkw4.below hbw5 hkw4.lt
                have w50 : w5.cell? ⟨w2.heap.size, 0, none⟩ = some (.int .i64 (6 : Int)) := hkw5.cell 0
                have w51 : w5.cell? ⟨w2.heap.size, 1, none⟩ = some (.int .i64 m) := hkw5.cell 1
                have w52 : w5.cell? ⟨w2.heap.size, 2, none⟩ = some (.bool true) := hkw5.cell 2
                have hbelw5 := bthen hbelw4 hbw5
                have hownw5 := own_below hownw4 hbw5
                have hsw5 := hbelw5.size
                go_wp2_with fail
                refine (high_as H1.out _).mono ?_; rintro e w6 ⟨rfl, hbw6⟩
                have hkw6 := hkw5.below hbw6 hkw5.lt
                have w60 : w6.cell? ⟨w2.heap.size, 0, none⟩ = some (.int .i64 (6 : Int)) := hkw6.cell 0
                have w61 : w6.cell? ⟨w2.heap.size, 1, none⟩ = some (.int .i64 m) := hkw6.cell 1
                have w62 : w6.cell? ⟨w2.heap.size, 2, none⟩ = some (.bool true) := hkw6.cell 2
                have hbelw6 := bthen hbelw5 hbw6
                have hownw6 := own_below hownw5 hbw6
                have hsw6 := hbelw6.size
                go_wp2_with fail
                have hBs := HBS.out
                refine (char_w 65533 (by omega) (by omega) (by omega) _).mono ?_; rintro e w8 ⟨g8, cap8, rfl, hc8, hb8⟩
                have hown8 := own_below hownw6 hb8
                have hbel8 := bthen hbelw6 hb8
                have hs8 := hbel8.size
                go_wp2_with (at_builtin; refine wpList_append_own _ rfl _ _ 31 rfl w.heap.size 5 i0 (.int .u8 0) 1 1 Try.underlying31 hi hz0 hz1 hz2 rfl (by decide) _ _ _ rfl hown8 ⟨g8, 0, none⟩ _ _ (Lib.byteCells (encL 65533)) rfl (by rw [Lib.byteCells_length, Nat.mul_one]) ?c1 ?c2 ?c3 ?c4 ?c5 ?_)
                case c1 =>
                  intro j u hj
                  rw [show (⟨g8, 0, none⟩ : Addr).add j = ⟨g8, j, none⟩ by unfold Addr.add; split <;> simp_all]
                  exact hc8 j u hj
                case c2 => exact byte_cells _
                case c3 => unfold maxLen; omega
                case c4 => omega
                case c5 => omega
                intro v' w9 hown' hgrow _
                go_wp2_with fail
                obtain ⟨vp, vc, rfl⟩ := own_form hown'
                refine ⟨⟨B, out ++ encL 65533, vp, vc, rfl, by rw [List.length_append], HF.out, by rw [List.length_append]; show out.length + _ + B.size ≤ _; omega, ?_, ?_⟩, by show B.size < t.size; omega⟩
                · rw [Lib.byteCells_append, List.length_append]; exact hown'
                · exact hbel8.grown hgrow (by omega) (fun k hk => (hown8.lt k hk).1)
              | true =>
                have H2 := Lib.hid hlow
                obtain ⟨rfl, ho2, hm2⟩ := hln.1 hlow
                have hB6 : 6 ≤ B.size := by
                  rcases one_cases B.data.toList with q | q | q
                  · rw [ho2] at q; cases q
                  · rw [ho2] at q; omega
                  · rw [Array.length_toList] at q; exact q.1
                obtain ⟨C, hsC, hCl, hCs⟩ := sl_from B (6 : Int) 6 rfl hB6
                have he := esc_pair HONE.out ca (by rw [← HBL.out]; exact ho2) hm2
                have hF := fin2 HU.out hne h9 he
                have hR := esc_facts he
                have hG := hR.2.2.2.2.2
                have hR64 : 65536 ≤ 65536 + (m - 55296) * 1024 + (m2 - 56320) := by omega
                have eR : 65536 + (m - 55296) * 1024 + m2 - 56320 = 65536 + (m - 55296) * 1024 + (m2 - 56320) := by omega
                have hC2 : C.data.toList = t.data.toList.drop 12 := by rw [hCl, HBL.out, List.drop_drop]
                rw [← hC2] at hF
                have HF := Lib.hid hF
                clear hF he hne hB0 hlow hln hN2 hneB hC2 hCl ho2 hBs
                go_wp2_with fail
                refine (HNX.out _).mono ?_; rintro e w2 ⟨rfl, hb2⟩
                have hbel2 := bthen hbel hb2
                have hown2 := own_below hown hb2
                have hs2 := hbel2.size
                have hkA : Blk (w2.alloc (.cells #[.int .i64 (6 : Int), .int .i64 m, .bool true] 45)) w2.heap.size 45 #[.int .i64 (6 : Int), .int .i64 m, .bool true] := Blk.new w2 _ _
                have hbelA := hbel2.alloc hs2 (.cells #[.int .i64 (6 : Int), .int .i64 m, .bool true] 45)
                have hownA := hown2.alloc (.cells #[.int .i64 (6 : Int), .int .i64 m, .bool true] 45)
                go_wp2_with fail
                refine (high_as H1.out _).mono ?_; rintro e w3 ⟨rfl, hbw3⟩
                have hkw3 := hkA.below hbw3 hkA.lt
                have w30 : w3.cell? ⟨w2.heap.size, 0, none⟩ = some (.int .i64 (6 : Int)) := hkw3.cell 0
                have w31 : w3.cell? ⟨w2.heap.size, 1, none⟩ = some (.int .i64 m) := hkw3.cell 1
                have w32 : w3.cell? ⟨w2.heap.size, 2, none⟩ = some (.bool true) := hkw3.cell 2
                have hbelw3 := bthen hbelA hbw3
                have hownw3 := own_below hownA hbw3
                have hsw3 := hbelw3.size
                go_wp2_with fail
                refine (HN2.out _).mono ?_; rintro e w4 ⟨rfl, hbw4⟩
                have hkw4 := hkw3.below hbw4 hkw3.lt
                have w40 : w4.cell? ⟨w2.heap.size, 0, none⟩ = some (.int .i64 (6 : Int)) := hkw4.cell 0
                have w41 : w4.cell? ⟨w2.heap.size, 1, none⟩ = some (.int .i64 m) := hkw4.cell 1
                have w42 : w4.cell? ⟨w2.heap.size, 2, none⟩ = some (.bool true) := hkw4.cell 2
                have hbelw4 := bthen hbelw3 hbw4
                have hownw4 := own_below hownw3 hbw4
                have hsw4 := hbelw4.size
                go_wp2_with fail
                refine (low_as H2.out _).mono ?_; rintro e w5 ⟨rfl, hbw5⟩
                have hkw5 := hkw4.below hbw5 hkw4.lt
                have w50 : w5.cell? ⟨w2.heap.size, 0, none⟩ = some (.int .i64 (6 : Int)) := hkw5.cell 0
                have w51 : w5.cell? ⟨w2.heap.size, 1, none⟩ = some (.int .i64 m) := hkw5.cell 1
                have w52 : w5.cell? ⟨w2.heap.size, 2, none⟩ = some (.bool true) := hkw5.cell 2
                have hbelw5 := bthen hbelw4 hbw5
                have hownw5 := own_below hownw4 hbw5
                have hsw5 := hbelw5.size
                go_wp2_with fail
                refine (HN2.out _).mono ?_; rintro e w6 ⟨rfl, hbw6⟩
                have hkw6 := hkw5.below hbw6 hkw5.lt
                have w60 : w6.cell? ⟨w2.heap.size, 0, none⟩ = some (.int .i64 (6 : Int)) := hkw6.cell 0
                have w61 : w6.cell? ⟨w2.heap.size, 1, none⟩ = some (.int .i64 m) := hkw6.cell 1
                have w62 : w6.cell? ⟨w2.heap.size, 2, none⟩ = some (.bool true) := hkw6.cell 2
                have hbelw6 := bthen hbelw5 hbw6
                have hownw6 := own_below hownw5 hbw6
                have hsw6 := hbelw6.size
                have hsw6' := hkw6.lt
                have hkQ := hkw6.alloc (.cells #[.int .i64 ((6 : Nat) : Int), .int .i64 m2, .bool f2] 45)
                have hbelQ := hbelw6.alloc hsw6 (.cells #[.int .i64 ((6 : Nat) : Int), .int .i64 m2, .bool f2] 45)
                have hownQ := hownw6.alloc (.cells #[.int .i64 ((6 : Nat) : Int), .int .i64 m2, .bool f2] 45)
                have Q0 : (w6.alloc (.cells #[.int .i64 ((6 : Nat) : Int), .int .i64 m2, .bool f2] 45)).cell? ⟨w2.heap.size, 0, none⟩ = some (.int .i64 (6 : Int)) := hkQ.cell 0
                have Q1 : (w6.alloc (.cells #[.int .i64 ((6 : Nat) : Int), .int .i64 m2, .bool f2] 45)).cell? ⟨w2.heap.size, 1, none⟩ = some (.int .i64 m) := hkQ.cell 1
                have Q2 : (w6.alloc (.cells #[.int .i64 ((6 : Nat) : Int), .int .i64 m2, .bool f2] 45)).cell? ⟨w2.heap.size, 2, none⟩ = some (.bool true) := hkQ.cell 2
                go_wp2_with fail
                have hBs := HBS.out
                refine (char_w (65536 + (m - 55296) * 1024 + (m2 - 56320)) (by omega) (by omega) (by omega) _).mono ?_; rintro e w8 ⟨g8, cap8, rfl, hc8, hb8⟩
                have hown8 := own_below hownQ hb8
                have hbel8 := bthen hbelQ hb8
                have hs8 := hbel8.size
                go_wp2_with (at_builtin; refine wpList_append_own _ rfl _ _ 31 rfl w.heap.size 5 i0 (.int .u8 0) 1 1 Try.underlying31 hi hz0 hz1 hz2 rfl (by decide) _ _ _ rfl hown8 ⟨g8, 0, none⟩ _ _ (Lib.byteCells (encL (65536 + (m - 55296) * 1024 + (m2 - 56320)))) rfl (by rw [Lib.byteCells_length, Nat.mul_one]) ?c1 ?c2 ?c3 ?c4 ?c5 ?_)
                case c1 =>
                  intro j u hj
                  rw [show (⟨g8, 0, none⟩ : Addr).add j = ⟨g8, j, none⟩ by unfold Addr.add; split <;> simp_all]
                  exact hc8 j u hj
                case c2 => exact byte_cells _
                case c3 => unfold maxLen; omega
                case c4 => omega
                case c5 => omega
                intro v' w9 hown' hgrow _
                go_wp2_with fail
                obtain ⟨vp, vc, rfl⟩ := own_form hown'
                refine ⟨⟨C, out ++ encL (65536 + (m - 55296) * 1024 + (m2 - 56320)), vp, vc, rfl, by rw [List.length_append], HF.out, by rw [List.length_append]; show out.length + _ + C.size ≤ _; omega, ?_, ?_⟩, by show C.size < t.size; omega⟩
                · rw [Lib.byteCells_append, List.length_append]; exact hown'
                · exact hbel8.grown hgrow (by omega) (fun k hk => (hown8.lt k hk).1)
          by_cases cb : 56320 ≤ m ∧ m < 57344
          · have he := esc_low HONE.out cb
            have hF := fin2 HU.out hne h9 he
            have hG := (esc_facts he).2.2.2.2.2
            rw [← HBL.out] at hF
            have HF := Lib.hid hF
            clear hF he hne
            have h1 : highF (6, m, true) = false := high_not ca
            have h2 : lowF (6, m, true) = true := low_yes cb
            have H1 := Lib.hid h1; have H2 := Lib.hid h2; clear h1 h2 ca cb
            go_wp2_with fail
            refine (HNX.out _).mono ?_; rintro e w2 ⟨rfl, hb2⟩
            have hbel2 := bthen hbel hb2
            have hown2 := own_below hown hb2
            have hs2 := hbel2.size
            have hkA : Blk (w2.alloc (.cells #[.int .i64 (6 : Int), .int .i64 m, .bool true] 45)) w2.heap.size 45 #[.int .i64 (6 : Int), .int .i64 m, .bool true] := Blk.new w2 _ _
            have hbelA := hbel2.alloc hs2 (.cells #[.int .i64 (6 : Int), .int .i64 m, .bool true] 45)
            have hownA := hown2.alloc (.cells #[.int .i64 (6 : Int), .int .i64 m, .bool true] 45)
            go_wp2_with fail
            refine (high_as H1.out _).mono ?_; rintro e w3 ⟨rfl, hbw3⟩
            have hkw3 := hkA.below hbw3 hkA.lt
            have w30 : w3.cell? ⟨w2.heap.size, 0, none⟩ = some (.int .i64 (6 : Int)) := hkw3.cell 0
            have w31 : w3.cell? ⟨w2.heap.size, 1, none⟩ = some (.int .i64 m) := hkw3.cell 1
            have w32 : w3.cell? ⟨w2.heap.size, 2, none⟩ = some (.bool true) := hkw3.cell 2
            have hbelw3 := bthen hbelA hbw3
            have hownw3 := own_below hownA hbw3
            have hsw3 := hbelw3.size
            go_wp2_with fail
            refine (high_as H1.out _).mono ?_; rintro e w4 ⟨rfl, hbw4⟩
            have hkw4 := hkw3.below hbw4 hkw3.lt
            have w40 : w4.cell? ⟨w2.heap.size, 0, none⟩ = some (.int .i64 (6 : Int)) := hkw4.cell 0
            have w41 : w4.cell? ⟨w2.heap.size, 1, none⟩ = some (.int .i64 m) := hkw4.cell 1
            have w42 : w4.cell? ⟨w2.heap.size, 2, none⟩ = some (.bool true) := hkw4.cell 2
            have hbelw4 := bthen hbelw3 hbw4
            have hownw4 := own_below hownw3 hbw4
            have hsw4 := hbelw4.size
            go_wp2_with fail
            refine (low_as H2.out _).mono ?_; rintro e w5 ⟨rfl, hbw5⟩
            have hkw5 := hkw4.below hbw5 hkw4.lt
            have w50 : w5.cell? ⟨w2.heap.size, 0, none⟩ = some (.int .i64 (6 : Int)) := hkw5.cell 0
            have w51 : w5.cell? ⟨w2.heap.size, 1, none⟩ = some (.int .i64 m) := hkw5.cell 1
            have w52 : w5.cell? ⟨w2.heap.size, 2, none⟩ = some (.bool true) := hkw5.cell 2
            have hbelw5 := bthen hbelw4 hbw5
            have hownw5 := own_below hownw4 hbw5
            have hsw5 := hbelw5.size
            go_wp2_with fail
            have hBs := HBS.out
            refine (char_w 65533 (by omega) (by omega) (by omega) _).mono ?_; rintro e w8 ⟨g8, cap8, rfl, hc8, hb8⟩
            have hown8 := own_below hownw5 hb8
            have hbel8 := bthen hbelw5 hb8
            have hs8 := hbel8.size
            go_wp2_with (at_builtin; refine wpList_append_own _ rfl _ _ 31 rfl w.heap.size 5 i0 (.int .u8 0) 1 1 Try.underlying31 hi hz0 hz1 hz2 rfl (by decide) _ _ _ rfl hown8 ⟨g8, 0, none⟩ _ _ (Lib.byteCells (encL 65533)) rfl (by rw [Lib.byteCells_length, Nat.mul_one]) ?c1 ?c2 ?c3 ?c4 ?c5 ?_)
            case c1 =>
              intro j u hj
              rw [show (⟨g8, 0, none⟩ : Addr).add j = ⟨g8, j, none⟩ by unfold Addr.add; split <;> simp_all]
              exact hc8 j u hj
            case c2 => exact byte_cells _
            case c3 => unfold maxLen; omega
            case c4 => omega
            case c5 => omega
            intro v' w9 hown' hgrow _
            go_wp2_with fail
            obtain ⟨vp, vc, rfl⟩ := own_form hown'
            refine ⟨⟨B, out ++ encL 65533, vp, vc, rfl, by rw [List.length_append], HF.out, by rw [List.length_append]; show out.length + _ + B.size ≤ _; omega, ?_, ?_⟩, by show B.size < t.size; omega⟩
            · rw [Lib.byteCells_append, List.length_append]; exact hown'
            · exact hbel8.grown hgrow (by omega) (fun k hk => (hown8.lt k hk).1)
          · have he := esc_lone HONE.out (by omega)
            have hF := fin2 HU.out hne h9 he
            have hG := (esc_facts he).2.2.2.2.2
            rw [← HBL.out] at hF
            have HF := Lib.hid hF
            have hsur : ¬(55296 ≤ m ∧ m ≤ 57343) := by omega
            clear hF he hne
            have h1 : highF (6, m, true) = false := high_not ca
            have h2 : lowF (6, m, true) = false := low_not cb
            have H1 := Lib.hid h1; have H2 := Lib.hid h2; clear h1 h2 ca cb
            go_wp2_with fail
            refine (HNX.out _).mono ?_; rintro e w2 ⟨rfl, hb2⟩
            have hbel2 := bthen hbel hb2
            have hown2 := own_below hown hb2
            have hs2 := hbel2.size
            have hkA : Blk (w2.alloc (.cells #[.int .i64 (6 : Int), .int .i64 m, .bool true] 45)) w2.heap.size 45 #[.int .i64 (6 : Int), .int .i64 m, .bool true] := Blk.new w2 _ _
            have hbelA := hbel2.alloc hs2 (.cells #[.int .i64 (6 : Int), .int .i64 m, .bool true] 45)
            have hownA := hown2.alloc (.cells #[.int .i64 (6 : Int), .int .i64 m, .bool true] 45)
            go_wp2_with fail
            refine (high_as H1.out _).mono ?_; rintro e w3 ⟨rfl, hbw3⟩
            have hkw3 := hkA.below hbw3 hkA.lt
            have w30 : w3.cell? ⟨w2.heap.size, 0, none⟩ = some (.int .i64 (6 : Int)) := hkw3.cell 0
            have w31 : w3.cell? ⟨w2.heap.size, 1, none⟩ = some (.int .i64 m) := hkw3.cell 1
            have w32 : w3.cell? ⟨w2.heap.size, 2, none⟩ = some (.bool true) := hkw3.cell 2
            have hbelw3 := bthen hbelA hbw3
            have hownw3 := own_below hownA hbw3
            have hsw3 := hbelw3.size
            go_wp2_with fail
            refine (high_as H1.out _).mono ?_; rintro e w4 ⟨rfl, hbw4⟩
            have hkw4 := hkw3.below hbw4 hkw3.lt
            have w40 : w4.cell? ⟨w2.heap.size, 0, none⟩ = some (.int .i64 (6 : Int)) := hkw4.cell 0
            have w41 : w4.cell? ⟨w2.heap.size, 1, none⟩ = some (.int .i64 m) := hkw4.cell 1
            have w42 : w4.cell? ⟨w2.heap.size, 2, none⟩ = some (.bool true) := hkw4.cell 2
            have hbelw4 := bthen hbelw3 hbw4
            have hownw4 := own_below hownw3 hbw4
            have hsw4 := hbelw4.size
            go_wp2_with fail
            refine (low_as H2.out _).mono ?_; rintro e w5 ⟨rfl, hbw5⟩
            have hkw5 := hkw4.below hbw5 hkw4.lt
            have w50 : w5.cell? ⟨w2.heap.size, 0, none⟩ = some (.int .i64 (6 : Int)) := hkw5.cell 0
            have w51 : w5.cell? ⟨w2.heap.size, 1, none⟩ = some (.int .i64 m) := hkw5.cell 1
            have w52 : w5.cell? ⟨w2.heap.size, 2, none⟩ = some (.bool true) := hkw5.cell 2
            have hbelw5 := bthen hbelw4 hbw5
            have hownw5 := own_below hownw4 hbw5
            have hsw5 := hbelw5.size
            go_wp2_with fail
            have hBs := HBS.out
            refine (char_w m (by omega) (by omega) (by omega) _).mono ?_; rintro e w8 ⟨g8, cap8, rfl, hc8, hb8⟩
            have hown8 := own_below hownw5 hb8
            have hbel8 := bthen hbelw5 hb8
            have hs8 := hbel8.size
            go_wp2_with (at_builtin; refine wpList_append_own _ rfl _ _ 31 rfl w.heap.size 5 i0 (.int .u8 0) 1 1 Try.underlying31 hi hz0 hz1 hz2 rfl (by decide) _ _ _ rfl hown8 ⟨g8, 0, none⟩ _ _ (Lib.byteCells (encL m)) rfl (by rw [Lib.byteCells_length, Nat.mul_one]) ?c1 ?c2 ?c3 ?c4 ?c5 ?_)
            case c1 =>
              intro j u hj
              rw [show (⟨g8, 0, none⟩ : Addr).add j = ⟨g8, j, none⟩ by unfold Addr.add; split <;> simp_all]
              exact hc8 j u hj
            case c2 => exact byte_cells _
            case c3 => unfold maxLen; omega
            case c4 => omega
            case c5 => omega
            intro v' w9 hown' hgrow _
            go_wp2_with fail
            obtain ⟨vp, vc, rfl⟩ := own_form hown'
            refine ⟨⟨B, out ++ encL m, vp, vc, rfl, by rw [List.length_append], HF.out, by rw [List.length_append]; show out.length + _ + B.size ≤ _; omega, ?_, ?_⟩, by show B.size < t.size; omega⟩
            · rw [Lib.byteCells_append, List.length_append]; exact hown'
            · exact hbel8.grown hgrow (by omega) (fun k hk => (hown8.lt k hk).1)
  · have hbn := badF_nonneg s hb
    have tb : decide (0 ≤ badF s) = true := by simpa using hbn
    have hB : unB s = .empty ∧ unE s = 50 := by unfold unB unE; rw [if_pos hb, if_pos hb]; exact ⟨rfl, rfl⟩
    have H1 := Lib.hid hB
    clear hb hbn hB
    go_enter Try.func12, Try.ntmps12
    go_wp2_with fail
    refine (HB.out _).mono ?_; rintro e w1 ⟨rfl, hb1⟩
    go_wp2_with fail
    go_ret2
    exact ⟨by rw [H1.out.1, H1.out.2]; rfl, hb1⟩
end Go.Proofs.Ytlfkhfmepcnfeaa.Txt
