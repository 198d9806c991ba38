/- The walks of texts.Escape and quarryref15.Escape. -/
import Derived.Test.YtlfkhfmepcnfeaaEsc
import Derived.Test.YtlfkhfmepcnfeaaBldS
import Derived.Handy
namespace Go.Proofs.Ytlfkhfmepcnfeaa.Txt
set_option linter.unusedVariables false
set_option linter.unusedSimpArgs false
open Go.RowKit Go.Proofs.Ytlfkhfmepcnfeaa.Mem Go.Proofs.Ytlfkhfmepcnfeaa.Own Go.Proofs.Ytlfkhfmepcnfeaa.Utf Go.Proofs.Ytlfkhfmepcnfeaa.Bld

def esB (s : ByteArray) : ByteArray := if badF s ≠ -1 then .empty else ⟨(escL s.data.toList).toArray⟩
def esE (s : ByteArray) : Int := if badF s ≠ -1 then 50 else 0
def spI (x : UInt8) : Int := Lib.indexByte [34, 92, 8, 12, 10, 13, 9] x
theorem sp_w (x : UInt8) (w : World) : Calls Try.prog 23 #[.string ⟨#[34, 92, 8, 12, 10, 13, 9]⟩, .int .u8 (x.toNat : Int)] w fun e w' => e = .returned (.int .i64 (spI x)) ∧ w' = w := by
  have h := Try.strings_IndexByte ⟨#[34, 92, 8, 12, 10, 13, 9]⟩ (x.toNat : Int) w
  rw [show ((x.toNat : Int).toNat.toUInt8) = x by rw [Int.toNat_natCast]; exact UInt8.ofNat_toNat] at h
  exact h
def spB : ByteArray := ⟨#[34, 92, 98, 102, 110, 114, 116]⟩
theorem sps : ∀ n : Fin 256, (spI (UInt8.ofNat n.val) = -1 ∧ n.val ≠ 34 ∧ n.val ≠ 92 ∧ n.val ≠ 8 ∧ n.val ≠ 12 ∧ n.val ≠ 10 ∧ n.val ≠ 13 ∧ n.val ≠ 9) ∨
    (0 ≤ spI (UInt8.ofNat n.val) ∧ spI (UInt8.ofNat n.val) < 7 ∧ escN n.val = [92, spB.data.toList.getD (spI (UInt8.ofNat n.val)).toNat 0]) := by decide +kernel
theorem sp_cases (x : UInt8) : (spI x = -1 ∧ x.toNat ≠ 34 ∧ x.toNat ≠ 92 ∧ x.toNat ≠ 8 ∧ x.toNat ≠ 12 ∧ x.toNat ≠ 10 ∧ x.toNat ≠ 13 ∧ x.toNat ≠ 9) ∨
    ∃ k : Nat, k < 7 ∧ spI x = (k : Int) ∧ esc1 x = [92, spB.data.toList.getD k 0] := by
  have h := sps ⟨x.toNat, x.toNat_lt⟩
  simp only [UInt8.ofNat_toNat] at h
  rcases h with h | ⟨h1, h2, h3⟩
  · exact .inl h
  · exact .inr ⟨(spI x).toNat, by omega, by omega, h3⟩
theorem esc_len (x : UInt8) : (esc1 x).length ≤ 6 := by
  unfold esc1 escN
  repeat' split
  all_goals simp
theorem escL_len : ∀ l : List UInt8, (escL l).length ≤ 6 * l.length
  | [] => by simp [escL]
  | x :: l => by
    have h1 := escL_len l
    have h2 := esc_len x
    have : escL (x :: l) = esc1 x ++ escL l := rfl
    rw [this, List.length_append, List.length_cons]; omega
theorem escL_app (a b : List UInt8) : escL (a ++ b) = escL a ++ escL b := by simp [escL]
theorem escL_step (l : List UInt8) (k : Nat) (h : k < l.length) : escL (l.take (k + 1)) = escL (l.take k) ++ esc1 l[k] := by
  rw [List.take_succ_eq_append_getElem h, escL_app]; simp [escL]
theorem byteI_w (B b : Nat) (l : List UInt8) (c : UInt8) (v : Int) (hv : v = (c.toNat : Int)) (w : World) (h : Bld B b l w) (hlen : l.length + 1 ≤ 140737488355328) (hBw : B ≤ w.heap.size) :
    Calls Try.prog 35 #[.pointer (some ⟨b, 0, none⟩), .int .u8 v] w fun e w' => e = .returned .nilIface ∧ (Bld B b (l ++ [c]) w' ∧ Below B w w') := by
  subst hv; exact byte_w B b l c w h hlen hBw
theorem hexA : ∀ n : Fin 16, ((⟨#[48, 49, 50, 51, 52, 53, 54, 55, 56, 57, 97, 98, 99, 100, 101, 102]⟩ : ByteArray).data.toList.getD n.val 0) = hexD n.val := by decide +kernel
set_option maxHeartbeats 4000000 in
set_option maxRecDepth 100000 in
theorem esc_w (s : ByteArray) (hs : s.size ≤ 8796093022208) (w : World) : Calls Try.prog 17 #[.string s] w fun e w' => e = .returned (.tuple #[.string (esB s), .int .i64 (esE s)]) ∧ Below w.heap.size w w' := by
  have HB := Lib.hid (bad_w s (by omega))
  by_cases hb : badF s = -1
  · have tb : decide (0 ≤ badF s) = false := by rw [hb]; decide
    have hB : esB s = ⟨(escL s.data.toList).toArray⟩ ∧ esE s = 0 := by unfold esB esE; rw [if_neg (by simp [hb]), if_neg (by simp [hb])]; exact ⟨rfl, rfl⟩
    have H1 := Lib.hid hB
    clear hb hB
    go_enter Try.func17, Try.ntmps17
    go_wp2_with fail
    refine (HB.out _).mono ?_; rintro e w1 ⟨rfl, hb1⟩
    go_wp2_with fail
    have hfr : Bld w1.heap.size w1.heap.size [] (w1.alloc (.cells #[.pointer none, .slice none 0 0] 51)) := Lib.fresh_isBuilder _ _ w1
    have hsz1 := hb1.size
    go_loopw [13] (fun i wr => ∃ k : Nat, k ≤ s.size ∧ i = .int .i64 (k : Int) ∧ Bld w1.heap.size w1.heap.size (escL (s.data.toList.take k)) wr ∧ Below w.heap.size w wr ∧ w1.heap.size < wr.heap.size) (fun i _ => s.size - (intOf i).toNat)
    case atStart => exact ⟨0, by omega, rfl, by simpa [escL] using hfr, hb1.alloc hsz1 _, by simp⟩
    case round =>
      obtain ⟨k, hk, rfl, hbl, hbel, hszr⟩ := hrel
      clear hfr hb1
      by_cases hlt : k < s.size
      · have t0 : decide ((k : Int) < (s.size : Int)) = true := by simp; omega
        have hst : escL (s.data.toList.take (k + 1)) = escL (s.data.toList.take k) ++ esc1 s[k] := escL_step s.data.toList k (by simpa using hlt)
        have hlen := escL_len (s.data.toList.take k)
        have hlk : (s.data.toList.take k).length ≤ k := by simp; omega
        have HST := Lib.hid hst
        clear hst
        rcases sp_cases s[k] with ⟨h1, n1, n2, n3, n4, n5, n6, n7⟩ | ⟨m, hm, h1, h2⟩
        · have t1 : decide (0 ≤ spI s[k]) = false := by rw [h1]; decide
          by_cases c1 : s[k].toNat < 32
          · have t2 : decide ((s[k].toNat : Int) < 32) = true := by simp; omega
            have he : esc1 s[k] = [92, 117, 48, 48, hexD (s[k].toNat / 16), hexD (s[k].toNat % 16)] := escN_low c1 n3 n4 n5 n6 n7
            have HE := Lib.hid he
            clear h1 he n1 n2 n3 n4 n5 n6 n7
            go_wp2_with fail
            refine (sp_w s[k] _).mono ?_; rintro e w' ⟨rfl, rfl⟩
            go_wp2_with fail
            refine (str_w w1.heap.size w1.heap.size _ _ _ hbl (by show _ + 4 ≤ _; omega) (by omega)).mono ?_; rintro e w2 ⟨rfl, hbl2, hb2⟩
            have hs2 := hb2.size
            go_wp2_with fail
            have hv1 : (48 : Int) + (s[k].toNat : Int) / 16 = ((hexD (s[k].toNat / 16)).toNat : Int) := by
              unfold hexD; rw [if_pos (by omega), UInt8.toNat_ofNat']; omega
            refine (byteI_w w1.heap.size w1.heap.size _ _ _ hv1 _ hbl2 (by rw [List.length_append]; show _ + 4 + 1 ≤ _; omega) (by omega)).mono ?_; rintro e w3 ⟨rfl, hbl3, hb3⟩
            have hs3 := hb3.size
            have hml : s[k].toNat % 16 < (⟨#[48, 49, 50, 51, 52, 53, 54, 55, 56, 57, 97, 98, 99, 100, 101, 102]⟩ : ByteArray).size := by show _ < 16; omega
            have hm15 : (s[k].toNat : Int) % 16 < 16 := by omega
            go_wp2_with fail
            have hv2 : (((⟨#[48, 49, 50, 51, 52, 53, 54, 55, 56, 57, 97, 98, 99, 100, 101, 102]⟩ : ByteArray)[s[k].toNat % 16]).toNat : Int) = ((hexD (s[k].toNat % 16)).toNat : Int) := by
              rw [Ends.get_eq _ _ hml]
              exact congrArg (fun x : UInt8 => (x.toNat : Int)) (hexA ⟨s[k].toNat % 16, hml⟩)
            refine (byteI_w w1.heap.size w1.heap.size _ _ _ hv2 _ hbl3 (by rw [List.length_append, List.length_append]; show _ + 4 + 1 + 1 ≤ _; omega) (by omega)).mono ?_; rintro e w4 ⟨rfl, hbl4, hb4⟩
            have hs4 := hb4.size
            go_wp2_with fail
            refine ⟨⟨k + 1, by omega, by congr 1, ?_, ((hbel.trans (hb2.mono (by omega))).trans (hb3.mono (by omega))).trans (hb4.mono (by omega)), by omega⟩, by simp [intOf]; omega⟩
            rw [HST.out, HE.out, show ([92, 117, 48, 48, hexD (s[k].toNat / 16), hexD (s[k].toNat % 16)] : List UInt8) = [92, 117, 48, 48] ++ [hexD (s[k].toNat / 16)] ++ [hexD (s[k].toNat % 16)] from rfl, ← List.append_assoc, ← List.append_assoc]
            exact hbl4
          · have t2 : decide ((s[k].toNat : Int) < 32) = false := by simp; omega
            have he : esc1 s[k] = [s[k]] := by
              have := escN_self c1 n1 n2
              rw [UInt8.ofNat_toNat] at this
              exact this
            have HE := Lib.hid he
            clear h1 he n1 n2 n3 n4 n5 n6 n7
            go_wp2_with fail
            refine (sp_w s[k] _).mono ?_; rintro e w' ⟨rfl, rfl⟩
            go_wp2_with fail
            refine (byte_w w1.heap.size w1.heap.size _ s[k] _ hbl (by omega) (by omega)).mono ?_; rintro e w2 ⟨rfl, hbl2, hb2⟩
            have hs2 := hb2.size
            go_wp2_with fail
            refine ⟨⟨k + 1, by omega, by congr 1, ?_, hbel.trans (hb2.mono (by omega)), by omega⟩, by simp [intOf]; omega⟩
            rw [HST.out, HE.out]; exact hbl2
        · have t1 : decide (0 ≤ (m : Int)) = true := by simp
          have HE := Lib.hid h2; have H1 := Lib.hid h1
          clear h1 h2
          go_wp2_with fail
          refine (sp_w s[k] _).mono ?_; rintro e w' ⟨rfl, rfl⟩
          rw [H1.out]
          go_wp2_with fail
          refine (byteI_w w1.heap.size w1.heap.size _ 92 92 rfl _ hbl (by omega) (by omega)).mono ?_; rintro e w2 ⟨rfl, hbl2, hb2⟩
          have hs2 := hb2.size
          have hml : m < (⟨#[34, 92, 98, 102, 110, 114, 116]⟩ : ByteArray).size := hm
          go_wp2_with fail
          have hv1 : (((⟨#[34, 92, 98, 102, 110, 114, 116]⟩ : ByteArray)[m]).toNat : Int) = ((spB.data.toList.getD m 0).toNat : Int) := by rw [← Ends.get_eq spB m hml]; rfl
          refine (byteI_w w1.heap.size w1.heap.size _ _ _ hv1 _ hbl2 (by rw [List.length_append]; show _ + 1 + 1 ≤ _; omega) (by omega)).mono ?_; rintro e w3 ⟨rfl, hbl3, hb3⟩
          have hs3 := hb3.size
          go_wp2_with fail
          refine ⟨⟨k + 1, by omega, by congr 1, ?_, (hbel.trans (hb2.mono (by omega))).trans (hb3.mono (by omega)), by omega⟩, by simp [intOf]; omega⟩
          rw [HST.out, HE.out, show ([92, spB.data.toList.getD m 0] : List UInt8) = [92] ++ [spB.data.toList.getD m 0] from rfl, ← List.append_assoc]
          exact hbl3
      · obtain rfl : k = s.size := by omega
        have t0 : decide ((s.size : Int) < (s.size : Int)) = false := by simp
        go_wp2_with fail
        refine (string_w w1.heap.size w1.heap.size _ wr hbl (by omega)).mono ?_; rintro e w3 ⟨rfl, hb3⟩
        go_wp2_with fail
        go_ret2
        refine ⟨?_, hbel.trans (hb3.mono (by omega))⟩
        rw [List.take_of_length_le (by simp), H1.out.1, H1.out.2]
        rfl
  · have hbn := badF_nonneg s hb
    have tb : decide (0 ≤ badF s) = true := by simpa using hbn
    have hB : esB s = .empty ∧ esE s = 50 := by unfold esB esE; rw [if_pos hb, if_pos hb]; exact ⟨rfl, rfl⟩
    have H1 := Lib.hid hB
    clear hb hbn hB
    go_enter Try.func17, Try.ntmps17
    go_wp2_with fail
    refine (HB.out _).mono ?_; rintro e w1 ⟨rfl, hb1⟩
    go_wp2_with fail
    go_ret2
    exact ⟨by rw [H1.out.1, H1.out.2]; rfl, hb1⟩
set_option maxHeartbeats 4000000 in
set_option maxRecDepth 100000 in
theorem resc_w (s : ByteArray) (hs : s.size ≤ 8796093022208) (w : World) : Calls Try.prog 18 #[.string s] w fun e w' => e = .returned (.tuple #[.string (esB s), .int .i64 (esE s)]) ∧ Below w.heap.size w w' := by
  have HB := Lib.hid (rbad_w s hs)
  by_cases hb : badF s = -1
  · have tb : decide (0 ≤ badF s) = false := by rw [hb]; decide
    have hB : esB s = ⟨(escL s.data.toList).toArray⟩ ∧ esE s = 0 := by unfold esB esE; rw [if_neg (by simp [hb]), if_neg (by simp [hb])]; exact ⟨rfl, rfl⟩
    have H1 := Lib.hid hB
    clear hb hB
    obtain ⟨i0, hi, hz0, hz1, hz2⟩ := info_parts3 y_info
    go_enter Try.func18, Try.ntmps18
    go_wp2_with fail
    refine (HB.out _).mono ?_; rintro e w1 ⟨rfl, hb1⟩
    go_wp2_with fail
    go_loopw [4, 5] (fun ov i wr => ∃ (k : Nat) (op : Option Addr) (oc : Nat), k ≤ s.size ∧ i = .int .i64 (k : Int) ∧ ov = .slice op (escL (s.data.toList.take k)).length oc ∧ wr.ownsRow w.heap.size 5 1 (.slice op (escL (s.data.toList.take k)).length oc) (escL (s.data.toList.take k)).length (Lib.byteCells (escL (s.data.toList.take k))) ∧ Below w.heap.size w wr) (fun _ i _ => s.size - (intOf i).toNat)
    case atStart => exact ⟨0, none, 0, by omega, rfl, by simp [escL], by simpa [escL, Lib.byteCells] using World.ownsRow_nil _ _ _ _, hb1⟩
    case round =>
      obtain ⟨k, op, oc, hk, rfl, rfl, hown, hbel⟩ := hrel
      clear hb1
      have hszr := hbel.size
      by_cases hlt : k < s.size
      · have t0 : decide ((k : Int) < (s.size : Int)) = true := by simp; omega
        have hst : escL (s.data.toList.take (k + 1)) = escL (s.data.toList.take k) ++ esc1 s[k] := escL_step s.data.toList k (by simpa using hlt)
        have hlen := escL_len (s.data.toList.take k)
        have hlk : (s.data.toList.take k).length ≤ k := by simp; omega
        have hel := esc_len s[k]
        have hes : (⟨(esc1 s[k]).toArray⟩ : ByteArray).size = (esc1 s[k]).length := by show (esc1 s[k]).toArray.size = _; simp
        have HST := Lib.hid hst
        have HES := Lib.hid hes
        clear hst hes
        go_wp2_with fail
        refine (rone_w s[k] _).mono ?_; rintro e w2 ⟨rfl, hb2⟩
        have hown2 := own_below hown hb2
        have hbel2 := bthen hbel hb2
        have hs2 := hbel2.size
        have hes := HES.out
        go_wp2_with (at_builtin; refine Lib.wpList_append_own_string _ rfl _ _ 31 9 rfl w.heap.size 5 i0 Try.underlying31 Try.underlying9 hi hz0 hz1 hz2 _ _ _ rfl hown2 _ rfl ?c3 ?c4 ?c5 ?_)
        case c3 => unfold maxLen; omega
        case c4 => omega
        case c5 => omega
        intro v' w9 hown' hgrow _
        go_wp2_with fail
        obtain ⟨vp, vc, rfl⟩ := own_form hown'
        have e1 : (escL (s.data.toList.take (k + 1))).length = (escL (s.data.toList.take k)).length + (⟨(esc1 s[k]).toArray⟩ : ByteArray).size := by rw [HST.out, List.length_append, HES.out]
        refine ⟨⟨k + 1, vp, vc, by omega, by congr 1, by rw [e1, hes], ?_, ?_⟩, by simp [intOf]; omega⟩
        · have e2 : Lib.byteCells (escL (s.data.toList.take (k + 1))) = Lib.byteCells (escL (s.data.toList.take k)) ++ Lib.strCells ⟨(esc1 s[k]).toArray⟩ := by rw [HST.out, Lib.byteCells_append]; rfl
          rw [e1, e2]; simpa only [hes] using hown'
        · exact hbel2.grown hgrow (by omega) (fun k hk => (hown2.lt k hk).1)
      · obtain rfl : k = s.size := by omega
        have t0 : decide ((s.size : Int) < (s.size : Int)) = false := by simp
        have hcv := conv_own wr _ _ _ _ hown
        go_wp2_with fail
        go_ret2
        refine ⟨?_, hbel⟩
        rw [List.take_of_length_le (by simp), H1.out.1, H1.out.2]
        rfl
  · have hbn := badF_nonneg s hb
    have tb : decide (0 ≤ badF s) = true := by simpa using hbn
    have hB : esB s = .empty ∧ esE s = 50 := by unfold esB esE; rw [if_pos hb, if_pos hb]; exact ⟨rfl, rfl⟩
    have H1 := Lib.hid hB
    clear hb hbn hB
    go_enter Try.func18, Try.ntmps18
    go_wp2_with fail
    refine (HB.out _).mono ?_; rintro e w1 ⟨rfl, hb1⟩
    go_wp2_with fail
    go_ret2
    exact ⟨by rw [H1.out.1, H1.out.2]; rfl, hb1⟩
end Go.Proofs.Ytlfkhfmepcnfeaa.Txt
