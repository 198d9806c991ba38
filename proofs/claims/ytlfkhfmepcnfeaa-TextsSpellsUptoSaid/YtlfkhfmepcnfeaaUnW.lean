/- The walk of texts.Unescape. -/
import Derived.Test.YtlfkhfmepcnfeaaUn
import Derived.Test.YtlfkhfmepcnfeaaBldS
import Derived.Handy
namespace Go.Proofs.Ytlfkhfmepcnfeaa.Txt
set_option linter.unusedVariables false
set_option linter.unusedSimpArgs false
open Go.RowKit Go.Proofs.Ytlfkhfmepcnfeaa.Mem Go.Proofs.Ytlfkhfmepcnfeaa.Own Go.Proofs.Ytlfkhfmepcnfeaa.Utf Go.Proofs.Ytlfkhfmepcnfeaa.Bld

def unB (s : ByteArray) : ByteArray := if badF s ≠ -1 then .empty else match unF s.data.toList with | none => .empty | some o => ⟨o.toArray⟩
def unE (s : ByteArray) : Int := if badF s ≠ -1 then 50 else match unF s.data.toList with | none => 150 | some _ => 0
theorem ne_empty {t : ByteArray} (h : t.size ≠ 0) : (!t.toList.isEmpty) = true := by
  rw [ByteArray.toList_eq, Bool.not_eq_true', List.isEmpty_eq_false_iff]
  intro e
  have := congrArg List.length e
  rw [Array.length_toList] at this
  exact h this
theorem is_empty {t : ByteArray} (h : t.size = 0) : (!t.toList.isEmpty) = false := by
  rw [ByteArray.toList_eq, Bool.not_eq_false', List.isEmpty_iff]
  exact List.eq_nil_of_length_eq_zero (by simpa using h)
theorem index_cases (l : List UInt8) (c : UInt8) : Lib.indexByte l c = -1 ∨ ∃ o : Nat, Lib.indexByte l c = (o : Int) := by
  have hge := Lib.indexByte_ge l c
  by_cases h : Lib.indexByte l c = -1
  · exact .inl h
  · exact .inr ⟨(Lib.indexByte l c).toNat, by omega⟩
theorem un_none {s : ByteArray} (hb : badF s = -1) (h : unF s.data.toList = none) : unB s = .empty ∧ unE s = 150 := by
  unfold unB unE
  rw [if_neg (by simp [hb]), if_neg (by simp [hb]), h]
  exact ⟨rfl, rfl⟩
theorem un_some {s : ByteArray} {o : List UInt8} (hb : badF s = -1) (h : unF s.data.toList = some o) : unB s = ⟨o.toArray⟩ ∧ unE s = 0 := by
  unfold unB unE
  rw [if_neg (by simp [hb]), if_neg (by simp [hb]), h]
  exact ⟨rfl, rfl⟩
theorem list_nil {t : ByteArray} (h : t.size = 0) : t.data.toList = [] := List.eq_nil_of_length_eq_zero (by simpa using h)
theorem list_take_at (l : List UInt8) (k : Nat) (h : k < l.length) : l = l.take k ++ l[k] :: l.drop (k + 1) := by
  rw [← List.drop_eq_getElem_cons h, List.take_append_drop]
/-- All the first n bytes stand for themselves. -/
def oks (l : List UInt8) (n : Nat) : Prop := ∀ j, j < n → okB (l.getD j 0) = true
theorem oks_take {l : List UInt8} {n : Nat} (h : oks l n) (hb : ∀ j, j < n → bs (l.getD j 0) = false) : ∀ x ∈ l.take n, okB x = true ∧ bs x = false := by
  intro x hx
  obtain ⟨j, hj, rfl⟩ := List.mem_iff_getElem.1 hx
  rw [List.length_take] at hj
  have h1 := h j (by omega)
  have h2 := hb j (by omega)
  rw [List.getD_eq_getElem?_getD, List.getElem?_eq_getElem (by omega)] at h1 h2
  rw [List.getElem_take]
  exact ⟨h1, h2⟩
theorem ok_false {x : UInt8} (h : (x.toNat : Int) < 32 ∨ (x.toNat : Int) = 34) : okB x = false := by
  unfold okB
  rcases h with h | h <;> simp [h]
theorem ok_true {x : UInt8} (h1 : ¬(x.toNat : Int) < 32) (h2 : ¬(x.toNat : Int) = 34) : okB x = true := by
  unfold okB
  simp [h1, h2]
theorem stop_at {l : List UInt8} {n : Nat} (hn : n < l.length) (h : oks l n) (hb : ∀ j, j < n → bs (l.getD j 0) = false) (hx : okB (l.getD n 0) = false) : unF l = none := by
  rw [list_take_at l n hn]
  refine unF_stop _ _ (oks_take h hb) ?_
  refine unF_bad _ _ ?_
  rwa [List.getD_eq_getElem?_getD, List.getElem?_eq_getElem hn] at hx
theorem bs_not {x : UInt8} (h : x ≠ 92) : bs x = false := by
  unfold bs
  rw [beq_eq_false_iff_ne]
  intro e
  exact h (UInt8.toNat_inj.1 (by show x.toNat = 92; omega))
theorem split_at (l : List UInt8) (o : Nat) : l = l.take o ++ l.drop o := (List.take_append_drop o l).symm
/-- An escape, behind bytes that stand for themselves. -/
theorem fin {L T out : List UInt8} {o : Nat} {r : Int} {c : Nat} (hU : unF L = (unF T).map (out ++ ·)) (hok : ∀ x ∈ T.take o, okB x = true ∧ bs x = false) (ho : o < T.length) (h9 : bs (T.getD o 0) = true) (he : escU (T.drop o) = some (r, c)) :
    unF L = (unF (T.drop (o + c))).map ((out ++ T.take o ++ encL r) ++ ·) := by
  have hd : T.drop o = T[o] :: T.drop (o + 1) := List.drop_eq_getElem_cons ho
  have h9' : bs T[o] = true := by rwa [List.getD_eq_getElem?_getD, List.getElem?_eq_getElem ho] at h9
  have e2 : unF (T.drop o) = (unF (T.drop (o + c))).map (encL r ++ ·) := by
    rw [hd, unF_esc _ _ h9', ← hd, he]
    simp only [List.drop_drop]
  rw [hU]
  conv => lhs; rw [split_at T o]
  rw [unF_stretch _ _ hok, e2]
  cases unF (T.drop (o + c)) <;> simp
theorem fin_none {L T out : List UInt8} {o : Nat} (hU : unF L = (unF T).map (out ++ ·)) (hok : ∀ x ∈ T.take o, okB x = true ∧ bs x = false) (ho : o < T.length) (h9 : bs (T.getD o 0) = true) (he : escU (T.drop o) = none) : unF L = none := by
  have hd : T.drop o = T[o] :: T.drop (o + 1) := List.drop_eq_getElem_cons ho
  have h9' : bs T[o] = true := by rwa [List.getD_eq_getElem?_getD, List.getElem?_eq_getElem ho] at h9
  have e2 : unF (T.drop o) = none := by rw [hd, unF_esc _ _ h9', ← hd, he]
  rw [hU]
  conv => lhs; rw [split_at T o]
  rw [unF_stretch _ _ hok, e2]
  rfl
theorem head_list (t : ByteArray) (o : Nat) : (t.extract 0 o).data.toList = t.data.toList.take o := by
  rw [ByteArray.data_extract, Array.toList_extract, List.extract_eq_take_drop]; simp
theorem sl_to (t : ByteArray) (o : Nat) (h : o ≤ t.size) : ∃ P : ByteArray, (∀ w1 : World, (Instr.slice 9 (.string t) none (some (.int .i64 (o : Int))) none).run Try.prog w1 = .ok (.string P) w1) ∧ P.data.toList = t.data.toList.take o ∧ P.size = o :=
  ⟨t.extract 0 o, fun w1 => by rw [run_slice_string_to_if w1 9 t .i64 (o : Int) Try.underlying9, if_pos ⟨by omega, by omega⟩]; rfl, head_list t o, by simp; omega⟩
theorem sl_from (t : ByteArray) (i : Int) (o : Nat) (hi : i = (o : Int)) (h : o ≤ t.size) : ∃ P : ByteArray, (∀ w1 : World, (Instr.slice 9 (.string t) (some (.int .i64 i)) none none).run Try.prog w1 = .ok (.string P) w1) ∧ P.data.toList = t.data.toList.drop o ∧ P.size = t.size - o :=
  ⟨t.extract o t.size, fun w1 => by subst hi; rw [run_slice_string_from_if w1 9 t .i64 (o : Int) Try.underlying9, if_pos ⟨by omega, by omega⟩]; rfl, Lib.extract_to_end t o, by simp⟩
theorem badF_nonneg (s : ByteArray) (h : badF s ≠ -1) : 0 ≤ badF s := by
  rw [badF_run] at h ⊢
  rcases bad_cases s.data.toList with ⟨h1, -⟩ | ⟨k, -, h1, -⟩
  · exact absurd h1 h
  · rw [h1]; omega
def strSize : Value → Nat
  | .string t => t.size
  | _ => 0
set_option maxHeartbeats 4000000 in
set_option maxRecDepth 100000 in
theorem un_w (s : ByteArray) (hs : s.size ≤ 8796093022208) (w : World) : Calls Try.prog 15 #[.string s] w fun e w' => e = .returned (.tuple #[.string (unB s), .int .i64 (unE s)]) ∧ Below w.heap.size w w' := by
  have HB := Lib.hid (bad_w s (by omega))
  by_cases hb : badF s = -1
  · have tb : decide (0 ≤ badF s) = false := by rw [hb]; decide
    have HBD := Lib.hid hb
    clear hb
    go_enter Try.func15, Try.ntmps15
    go_wp2_with fail
    refine (HB.out _).mono ?_; rintro e w1 ⟨rfl, hb1⟩
    go_wp2_with fail
    have hfr : Bld w1.heap.size w1.heap.size [] (w1.alloc (.cells #[.pointer none, .slice none 0 0] 51)) := Lib.fresh_isBuilder _ _ w1
    have hsz1 := hb1.size
    go_loopw [0] (fun raw wr => ∃ (t : ByteArray) (out : List UInt8), raw = .string t ∧ Hid (unF s.data.toList = (unF t.data.toList).map (out ++ ·)) ∧ out.length + t.size ≤ s.size ∧ Bld w1.heap.size w1.heap.size out wr ∧ Below w.heap.size w wr ∧ w1.heap.size < wr.heap.size) (fun raw _ => strSize raw)
    case atStart => exact ⟨s, [], rfl, by show unF _ = _; simp, by simp, hfr, hb1.alloc hsz1 _, by simp⟩
    case round =>
      obtain ⟨t, out, rfl, hU, hlen, hbl, hbel, hszr⟩ := hrel
      clear hfr
      by_cases ht : t.size = 0
      · have te := is_empty ht
        go_wp2_with fail
        refine (string_w w1.heap.size w1.heap.size out wr hbl (by omega)).mono ?_; rintro e w3 ⟨rfl, hb3⟩
        go_wp2_with fail
        go_ret2
        have hf : unF s.data.toList = some out := by rw [hU.out, list_nil ht, unF_nil]; simp
        obtain ⟨h1, h2⟩ := un_some HBD.out hf
        exact ⟨by rw [h1, h2]; rfl, hbel.trans (hb3.mono (by omega))⟩
      · have te := ne_empty ht
        rcases index_cases t.data.toList 92 with hm | ⟨o, ho⟩
        · have hnb : ∀ j, bs (t.data.toList.getD j 0) = false := fun j => by
            have := Lib.indexByte_none hm j
            refine bs_not fun e => ?_
            rw [List.getD_eq_getElem?_getD] at e
            cases hg : t.data.toList[j]? with
            | none => rw [hg] at e; simp at e
            | some x => rw [hg] at e this; simp at e; exact this (by rw [e])
          have HNB := Lib.hid hnb; clear hnb
          have HM := Lib.hid hm; clear hm
          go_wp2_with fail
          refine (Try.strings_IndexByte _ _ _).mono ?_
          rintro e w' ⟨rfl, rfl⟩
          rw [show ((92 : Int).toNat.toUInt8) = 92 from rfl, HM.out]
          go_wp2_with fail
          go_loop [27] (fun i => ∃ k : Nat, k ≤ t.size ∧ i = .int .i64 (k : Int) ∧ Hid (oks t.data.toList k)) (fun i => t.size - (intOf i).toNat)
          case atStart => exact ⟨0, by omega, rfl, fun j hj => by omega⟩
          case round =>
            obtain ⟨k, hk, rfl, hok⟩ := hrel
            by_cases hlt : k < t.size
            · have t0 : decide ((k : Int) < (t.size : Int)) = true := by simp; omega
              have hget := b_at t k hlt
              by_cases c1 : (t[k].toNat : Int) < 32 ∨ (t[k].toNat : Int) = 34
              · have hf : unF s.data.toList = none := by
                  rw [hU.out, stop_at (by simpa using hlt) hok.out (fun j _ => HNB.out j) (by rw [hget]; exact ok_false c1)]; rfl
                obtain ⟨h1, h2⟩ := un_none HBD.out hf
                have H1 := Lib.hid h1; have H2 := Lib.hid h2; clear h1 h2 hf hget
                by_cases c2 : (t[k].toNat : Int) < 32
                · have t1 : decide ((t[k].toNat : Int) < 32) = true := by simpa using c2
                  clear c1 c2
                  go_wp2_with fail
                  go_ret2
                  exact ⟨by rw [H1.out, H2.out]; rfl, hbel⟩
                · have t1 : decide ((t[k].toNat : Int) < 32) = false := by simpa using c2
                  have t2 : ((t[k].toNat : Int) == 34) = true := by simpa using c1.resolve_left c2
                  clear c1 c2
                  go_wp2_with fail
                  go_ret2
                  exact ⟨by rw [H1.out, H2.out]; rfl, hbel⟩
              · have t1 : decide ((t[k].toNat : Int) < 32) = false := by simp; omega
                have t2 : ((t[k].toNat : Int) == 34) = false := by simp; omega
                have hx : okB (t.data.toList.getD k 0) = true := by rw [hget]; exact ok_true (by omega) (by omega)
                have HX := Lib.hid hx
                clear hx hget c1
                go_wp2_with fail
                refine ⟨⟨k + 1, by omega, by congr 1, ?_⟩, by simp [intOf]; omega⟩
                intro j hj
                by_cases hjk : j < k
                · exact hok.out j hjk
                · obtain rfl : j = k := by omega
                  exact HX.out
            · obtain rfl : k = t.size := by omega
              have t0 : decide ((t.size : Int) < (t.size : Int)) = false := by simp
              go_wp2_with fail
              refine (str_w w1.heap.size w1.heap.size out t w' hbl (by omega) (by omega)).mono ?_
              rintro e w2 ⟨rfl, hbl2, hb2⟩
              have hs2 := hb2.size
              go_wp2_with fail
              refine (string_w w1.heap.size w1.heap.size _ w2 hbl2 (by omega)).mono ?_; rintro e w3 ⟨rfl, hb3⟩
              go_wp2_with fail
              go_ret2
              have hf : unF s.data.toList = some (out ++ t.data.toList) := by
                have e := unF_stretch (t.data.toList.take t.size) [] (oks_take hok.out fun j _ => HNB.out j)
                rw [List.append_nil, List.take_of_length_le (by simp), unF_nil] at e
                rw [hU.out, e]; simp
              obtain ⟨h1, h2⟩ := un_some HBD.out hf
              exact ⟨by rw [h1, h2]; rfl, (hbel.trans (hb2.mono (by omega))).trans (hb3.mono (by omega))⟩
        · obtain ⟨o1, o2⟩ := Lib.indexByte_some ho
          have olt : o < t.data.toList.length := (List.getElem?_eq_some_iff.1 o1).1
          have olt' : o < t.size := by simpa using olt
          have h92 : bs (t.data.toList.getD o 0) = true := by rw [List.getD_eq_getElem?_getD, o1]; rfl
          have hnb : ∀ j, j < o → bs (t.data.toList.getD j 0) = false := fun j hj => by
            have := o2 j hj
            refine bs_not fun e => ?_
            rw [List.getD_eq_getElem?_getD] at e
            cases hg : t.data.toList[j]? with
            | none => rw [hg] at e; simp at e
            | some x => rw [hg] at e this; simp at e; exact this (by rw [e])
          have HNB := Lib.hid hnb; have H92 := Lib.hid h92
          have HO := Lib.hid ho; clear ho o1 o2 hnb h92
          obtain ⟨P, hsP, hPl, hPs⟩ := sl_to t o (by omega)
          obtain ⟨A, hsA, hAl, hAs⟩ := sl_from t (o : Int) o rfl (by omega)
          have HPL := Lib.hid hPl; have HAL := Lib.hid hAl; clear hPl hAl
          go_wp2_with fail
          refine (Try.strings_IndexByte _ _ _).mono ?_
          rintro e w' ⟨rfl, rfl⟩
          rw [show ((92 : Int).toNat.toUInt8) = 92 from rfl, HO.out]
          go_wp2_with fail
          go_loop [27] (fun i => ∃ k : Nat, k ≤ P.size ∧ i = .int .i64 (k : Int) ∧ Hid (oks t.data.toList k)) (fun i => P.size - (intOf i).toNat)
          case atStart => exact ⟨0, by omega, rfl, fun j hj => by omega⟩
          case round =>
            obtain ⟨k, hk, rfl, hok⟩ := hrel
            by_cases hlt : k < P.size
            · have t0 : decide ((k : Int) < (P.size : Int)) = true := by simp; omega
              have hget : t.data.toList.getD k 0 = P[k] := by
                rw [← b_at P k hlt, HPL.out, List.getD_eq_getElem?_getD, List.getD_eq_getElem?_getD, List.getElem?_take_of_lt (by omega)]
              by_cases c1 : (P[k].toNat : Int) < 32 ∨ (P[k].toNat : Int) = 34
              · have hf : unF s.data.toList = none := by
                  rw [hU.out, stop_at (by omega) hok.out (fun j hj => HNB.out j (by omega)) (by rw [hget]; exact ok_false c1)]; rfl
                obtain ⟨h1, h2⟩ := un_none HBD.out hf
                have H1 := Lib.hid h1; have H2 := Lib.hid h2; clear h1 h2 hf hget
                by_cases c2 : (P[k].toNat : Int) < 32
                · have t1 : decide ((P[k].toNat : Int) < 32) = true := by simpa using c2
                  clear c1 c2
                  go_wp2_with fail
                  go_ret2
                  exact ⟨by rw [H1.out, H2.out]; rfl, hbel⟩
                · have t1 : decide ((P[k].toNat : Int) < 32) = false := by simpa using c2
                  have t2 : ((P[k].toNat : Int) == 34) = true := by simpa using c1.resolve_left c2
                  clear c1 c2
                  go_wp2_with fail
                  go_ret2
                  exact ⟨by rw [H1.out, H2.out]; rfl, hbel⟩
              · have t1 : decide ((P[k].toNat : Int) < 32) = false := by simp; omega
                have t2 : ((P[k].toNat : Int) == 34) = false := by simp; omega
                have hx : okB (t.data.toList.getD k 0) = true := by rw [hget]; exact ok_true (by omega) (by omega)
                have HX := Lib.hid hx
                clear hx hget c1
                go_wp2_with fail
                refine ⟨⟨k + 1, by omega, by congr 1, ?_⟩, by simp [intOf]; omega⟩
                intro j hj
                by_cases hjk : j < k
                · exact hok.out j hjk
                · obtain rfl : j = k := by omega
                  exact HX.out
            · obtain rfl : k = P.size := by omega
              have t0 : decide ((P.size : Int) < (P.size : Int)) = false := by simp
              have hst : ∀ x ∈ t.data.toList.take o, okB x = true ∧ bs x = false := by
                rw [← hPs]; exact oks_take hok.out fun j hj => HNB.out j (by omega)
              have HST := Lib.hid hst; clear hst
              have hone := one_cases A.data.toList
              have hAlen : A.data.toList.length = t.size - o := by simpa using hAs
              rw [hAlen] at hone
              clear hok hlt t0
              obtain ⟨r, hr⟩ : ∃ r, (oneL A.data.toList).1 = r := ⟨_, rfl⟩
              obtain ⟨n, hn⟩ : ∃ n, (oneL A.data.toList).2 = n := ⟨_, rfl⟩
              have h1w := one_w A
              rw [hr, hn] at h1w
              have hb : n = 0 ∨ (2 ≤ n ∧ o + n ≤ t.size ∧ 0 ≤ r ∧ r < 65536) := by
                rcases hone with h | h | h
                · left; rw [← hn, h]
                · right; rw [hr, hn] at h; omega
                · right; rw [hr, hn] at h; omega
              have hesc : escU A.data.toList = if n = 0 then none else if 55296 ≤ r ∧ r < 56320 then
                  if (oneL (A.data.toList.drop n)).2 = 6 ∧ 56320 ≤ (oneL (A.data.toList.drop n)).1 ∧ (oneL (A.data.toList.drop n)).1 < 57344 then some (65536 + (r - 55296) * 1024 + ((oneL (A.data.toList.drop n)).1 - 56320), n + 6) else some (65533, n)
                else if 56320 ≤ r ∧ r < 57344 then some (65533, n) else some (r, n) := by unfold escU; rw [hr, hn]
              have hfin : ∀ r' c, escU A.data.toList = some (r', c) → unF s.data.toList = (unF (t.data.toList.drop (o + c))).map ((out ++ P.data.toList ++ encL r') ++ ·) := fun r' c he => by
                rw [HPL.out]; exact fin hU.out HST.out olt H92.out (by rw [← HAL.out]; exact he)
              have hbnd : ∀ r' c, escU A.data.toList = some (r', c) → 0 ≤ r' ∧ r' ≤ 1114111 ∧ ¬(55296 ≤ r' ∧ r' ≤ 57343) ∧ 2 ≤ c ∧ c ≤ t.size - o ∧ (encL r').length + 1 ≤ c := fun r' c he => by rw [← hAlen]; exact esc_facts he
              have H1W := Lib.hid h1w; have HESC := Lib.hid hesc; have HFIN := Lib.hid hfin; have HBND := Lib.hid hbnd
              clear h1w hesc hfin hbnd hone hr hn
              by_cases hn0 : n = 0
              · have hf : unF s.data.toList = none := fin_none hU.out HST.out olt H92.out (by rw [← HAL.out, HESC.out, if_pos hn0])
                obtain ⟨h1, h2⟩ := un_none HBD.out hf
                have H1 := Lib.hid h1; have H2 := Lib.hid h2; clear h1 h2 hf hb
                have tn : ((n : Int) == 0) = true := by simp; omega
                clear hn0
                go_wp2_with fail
                refine (str_w w1.heap.size w1.heap.size out P w' hbl (by omega) (by omega)).mono ?_
                rintro e w2 ⟨rfl, hbl2, hb2⟩
                have hs2 := hb2.size
                go_wp2_with fail
                refine (H1W.out _).mono ?_; rintro e w2' ⟨rfl, rfl⟩
                go_wp2_with fail
                go_ret2
                exact ⟨by rw [H1.out, H2.out]; rfl, hbel.trans (hb2.mono (by omega))⟩
              · have hb' := hb.resolve_left hn0
                clear hb
                obtain ⟨hb2n, hbon, hr0, hr1⟩ := hb'
                have tn : ((n : Int) == 0) = false := by simp; omega
                obtain ⟨B, hsB, hBl, hBs⟩ := sl_from t ((o : Int) + (n : Int)) (o + n) (by omega) hbon
                have hBA : B.data.toList = A.data.toList.drop n := by rw [hBl, HAL.out, List.drop_drop]
                have HE := Lib.hid ((HESC.out).trans (if_neg hn0))
                have HBL := Lib.hid hBl; have HBA := Lib.hid hBA; clear hBl hBA HESC hn0
                by_cases ca : 55296 ≤ r ∧ r < 57344
                · have ta : decide (55296 ≤ r) = true := by simpa using ca.1
                  have tc : decide (r < 57344) = true := by simpa using ca.2
                  by_cases cb : r < 56320
                  · have tb2 : decide (r < 56320) = true := by simpa using cb
                    have hone2 := one_cases B.data.toList
                    have h2w := one_w B
                    have hBlen : B.data.toList.length = t.size - (o + n) := by simpa using hBs
                    rw [hBlen] at hone2
                    have HE2 := Lib.hid ((HE.out).trans (if_pos ⟨ca.1, cb⟩))
                    rw [← HBA.out] at HE2
                    obtain ⟨r2, hr2⟩ : ∃ r, (oneL B.data.toList).1 = r := ⟨_, rfl⟩
                    obtain ⟨n2, hn2⟩ : ∃ n, (oneL B.data.toList).2 = n := ⟨_, rfl⟩
                    rw [hr2, hn2] at h2w HE2
                    have hb2' : n2 = 6 → o + n + 6 ≤ t.size := by
                      intro e
                      rcases hone2 with h | h | h
                      · rw [h] at hn2; simp at hn2; omega
                      · omega
                      · omega
                    have H2W := Lib.hid h2w
                    clear hone2 h2w hr2 hn2 hBlen
                    by_cases cp : n2 = 6 ∧ 56320 ≤ r2 ∧ r2 < 57344
                    · obtain ⟨e6, cp1, cp2⟩ := cp
                      have t6 : ((n2 : Int) == 6) = true := by simp; omega
                      have t7 : decide (56320 ≤ r2) = true := by simpa using cp1
                      have t8 : decide (r2 < 57344) = true := by simpa using cp2
                      have he : escU A.data.toList = some (65536 + (r - 55296) * 1024 + (r2 - 56320), n + 6) := by rw [HE2.out, if_pos ⟨e6, cp1, cp2⟩]
                      have hb6 := hb2' e6
                      obtain ⟨C, hC⟩ : ∃ C : ByteArray, B.extract 6 (t.size - (o + n)) = C := ⟨_, rfl⟩
                      have hCs : C.size = t.size - (o + n) - 6 := by rw [← hC, ByteArray.size_extract, hBs]; omega
                      have hCB : C.data.toList = t.data.toList.drop (o + (n + 6)) := by rw [← hC, ← hBs, Lib.extract_to_end, HBL.out, List.drop_drop, Nat.add_assoc]
                      have HC := Lib.hid hC
                      have HCL := Lib.hid hCB; clear hCB hC
                      have hR := HBND.out _ _ he
                      have hR64 : 65536 ≤ 65536 + (r - 55296) * 1024 + (r2 - 56320) := by omega
                      have hF := HFIN.out _ _ he
                      have hG := (HBND.out _ _ he).2.2.2.2.2
                      rw [← HCL.out] at hF
                      have HF := Lib.hid hF; clear hF he 
                      go_wp2_with fail
                      refine (str_w w1.heap.size w1.heap.size out P w' hbl (by omega) (by omega)).mono ?_
                      rintro e w2 ⟨rfl, hbl2, hb2⟩
                      have hs2 := hb2.size
                      go_wp2_with fail
                      refine (H1W.out _).mono ?_; rintro e w2' ⟨rfl, rfl⟩
                      go_wp2_with fail
                      refine (H2W.out _).mono ?_; rintro e w2' ⟨rfl, rfl⟩
                      go_wp2_with fail
                      go_region
                      rw [HC.out]
                      have hbl2 : Bld w1.heap.size w1.heap.size (out ++ P.data.toList) w2.drew := by rcases hbl2 with h | h; exact .inl h.drew; exact .inr h.drew
                      have hs2 : w'.heap.size ≤ w2.drew.heap.size := hs2
                      have hb2 : Below w1.heap.size w' w2.drew := hb2.drew
                      generalize w2.drew = w2 at *
                      clear e6
                      generalize 65536 + (r - 55296) * 1024 + (r2 - 56320) = R at *
                      have tr1 : decide (55296 ≤ R) = true := by simp; omega
                      have tr2 : decide (R < 57344) = false := by simp; omega
                      go_wp2_with fail
                      refine (rune_w w1.heap.size w1.heap.size _ R (by omega) (by omega) (by omega) _ hbl2 (by rw [List.length_append, Array.length_toList]; show out.length + P.size + 4 ≤ _; omega) (by omega)).mono ?_
                      rintro e w3 ⟨k, rfl, hbl3, hb3⟩
                      have hs3 := hb3.size
                      go_wp2_with fail
                      refine ⟨⟨C, _, rfl, HF.out, ?_, hbl3, (hbel.trans (hb2.mono (by omega))).trans (hb3.mono (by omega)), by omega⟩, ?_⟩
                      · rw [List.length_append, List.length_append, Array.length_toList]; show out.length + P.size + _ + _ ≤ _; omega
                      · show C.size < t.size; omega
                    · have he : escU A.data.toList = some (65533, n) := by rw [HE2.out, if_neg cp]
                      have hF := HFIN.out _ _ he
                      have hG := (HBND.out _ _ he).2.2.2.2.2
                      rw [← HBL.out] at hF
                      have HF := Lib.hid hF; clear hF he 
                      by_cases e6 : n2 = 6
                      · have t6 : ((n2 : Int) == 6) = true := by simp; omega
                        by_cases cp1 : 56320 ≤ r2
                        · have t7 : decide (56320 ≤ r2) = true := by simpa using cp1
                          have t8 : decide (r2 < 57344) = false := by simp; omega
                          clear cp cp1 e6
                          go_wp2_with fail
                          refine (str_w w1.heap.size w1.heap.size out P w' hbl (by omega) (by omega)).mono ?_
                          rintro e w2 ⟨rfl, hbl2, hb2⟩
                          have hs2 := hb2.size
                          go_wp2_with fail
                          refine (H1W.out _).mono ?_; rintro e w2' ⟨rfl, rfl⟩
                          go_wp2_with fail
                          refine (H2W.out _).mono ?_; rintro e w2' ⟨rfl, rfl⟩
                          go_wp2_with fail
                          refine (rune_w w1.heap.size w1.heap.size _ 65533 (by omega) (by omega) (by omega) _ hbl2 (by rw [List.length_append, Array.length_toList]; show out.length + P.size + 4 ≤ _; omega) (by omega)).mono ?_
                          rintro e w3 ⟨k, rfl, hbl3, hb3⟩
                          have hs3 := hb3.size
                          go_wp2_with fail
                          refine ⟨⟨B, _, rfl, HF.out, ?_, hbl3, (hbel.trans (hb2.mono (by omega))).trans (hb3.mono (by omega)), by omega⟩, ?_⟩
                          · rw [List.length_append, List.length_append, Array.length_toList]; show out.length + P.size + _ + _ ≤ _; omega
                          · show B.size < t.size; omega
                        · have t7 : decide (56320 ≤ r2) = false := by simpa using cp1
                          clear cp cp1 e6
                          go_wp2_with fail
                          refine (str_w w1.heap.size w1.heap.size out P w' hbl (by omega) (by omega)).mono ?_
                          rintro e w2 ⟨rfl, hbl2, hb2⟩
                          have hs2 := hb2.size
                          go_wp2_with fail
                          refine (H1W.out _).mono ?_; rintro e w2' ⟨rfl, rfl⟩
                          go_wp2_with fail
                          refine (H2W.out _).mono ?_; rintro e w2' ⟨rfl, rfl⟩
                          go_wp2_with fail
                          refine (rune_w w1.heap.size w1.heap.size _ 65533 (by omega) (by omega) (by omega) _ hbl2 (by rw [List.length_append, Array.length_toList]; show out.length + P.size + 4 ≤ _; omega) (by omega)).mono ?_
                          rintro e w3 ⟨k, rfl, hbl3, hb3⟩
                          have hs3 := hb3.size
                          go_wp2_with fail
                          refine ⟨⟨B, _, rfl, HF.out, ?_, hbl3, (hbel.trans (hb2.mono (by omega))).trans (hb3.mono (by omega)), by omega⟩, ?_⟩
                          · rw [List.length_append, List.length_append, Array.length_toList]; show out.length + P.size + _ + _ ≤ _; omega
                          · show B.size < t.size; omega
                      · have t6 : ((n2 : Int) == 6) = false := by simp; omega
                        clear cp e6
                        go_wp2_with fail
                        refine (str_w w1.heap.size w1.heap.size out P w' hbl (by omega) (by omega)).mono ?_
                        rintro e w2 ⟨rfl, hbl2, hb2⟩
                        have hs2 := hb2.size
                        go_wp2_with fail
                        refine (H1W.out _).mono ?_; rintro e w2' ⟨rfl, rfl⟩
                        go_wp2_with fail
                        refine (H2W.out _).mono ?_; rintro e w2' ⟨rfl, rfl⟩
                        go_wp2_with fail
                        refine (rune_w w1.heap.size w1.heap.size _ 65533 (by omega) (by omega) (by omega) _ hbl2 (by rw [List.length_append, Array.length_toList]; show out.length + P.size + 4 ≤ _; omega) (by omega)).mono ?_
                        rintro e w3 ⟨k, rfl, hbl3, hb3⟩
                        have hs3 := hb3.size
                        go_wp2_with fail
                        refine ⟨⟨B, _, rfl, HF.out, ?_, hbl3, (hbel.trans (hb2.mono (by omega))).trans (hb3.mono (by omega)), by omega⟩, ?_⟩
                        · rw [List.length_append, List.length_append, Array.length_toList]; show out.length + P.size + _ + _ ≤ _; omega
                        · show B.size < t.size; omega
                  · have tb2 : decide (r < 56320) = false := by simpa using cb
                    have he : escU A.data.toList = some (65533, n) := by rw [HE.out, if_neg (by omega), if_pos (by omega)]
                    have hF := HFIN.out _ _ he
                    have hG := (HBND.out _ _ he).2.2.2.2.2
                    rw [← HBL.out] at hF
                    have HF := Lib.hid hF; clear hF he ca cb
                    go_wp2_with fail
                    refine (str_w w1.heap.size w1.heap.size out P w' hbl (by omega) (by omega)).mono ?_
                    rintro e w2 ⟨rfl, hbl2, hb2⟩
                    have hs2 := hb2.size
                    go_wp2_with fail
                    refine (H1W.out _).mono ?_; rintro e w2' ⟨rfl, rfl⟩
                    go_wp2_with fail
                    refine (rune_w w1.heap.size w1.heap.size _ 65533 (by omega) (by omega) (by omega) _ hbl2 (by rw [List.length_append, Array.length_toList]; show out.length + P.size + 4 ≤ _; omega) (by omega)).mono ?_
                    rintro e w3 ⟨k, rfl, hbl3, hb3⟩
                    have hs3 := hb3.size
                    go_wp2_with fail
                    refine ⟨⟨B, _, rfl, HF.out, ?_, hbl3, (hbel.trans (hb2.mono (by omega))).trans (hb3.mono (by omega)), by omega⟩, ?_⟩
                    · rw [List.length_append, List.length_append, Array.length_toList]; show out.length + P.size + _ + _ ≤ _; omega
                    · show B.size < t.size; omega
                · by_cases cl : r < 55296
                  · have ta : decide (55296 ≤ r) = false := by simpa using cl
                    have he : escU A.data.toList = some (r, n) := by rw [HE.out, if_neg (by omega), if_neg (by omega)]
                    have hF := HFIN.out _ _ he
                    have hG := (HBND.out _ _ he).2.2.2.2.2
                    rw [← HBL.out] at hF
                    have HF := Lib.hid hF; clear hF he ca
                    go_wp2_with fail
                    refine (str_w w1.heap.size w1.heap.size out P w' hbl (by omega) (by omega)).mono ?_
                    rintro e w2 ⟨rfl, hbl2, hb2⟩
                    have hs2 := hb2.size
                    go_wp2_with fail
                    refine (H1W.out _).mono ?_; rintro e w2' ⟨rfl, rfl⟩
                    go_wp2_with fail
                    refine (rune_w w1.heap.size w1.heap.size _ r (by omega) (by omega) (by omega) _ hbl2 (by rw [List.length_append, Array.length_toList]; show out.length + P.size + 4 ≤ _; omega) (by omega)).mono ?_
                    rintro e w3 ⟨k, rfl, hbl3, hb3⟩
                    have hs3 := hb3.size
                    go_wp2_with fail
                    refine ⟨⟨B, _, rfl, HF.out, ?_, hbl3, (hbel.trans (hb2.mono (by omega))).trans (hb3.mono (by omega)), by omega⟩, ?_⟩
                    · rw [List.length_append, List.length_append, Array.length_toList]; show out.length + P.size + _ + _ ≤ _; omega
                    · show B.size < t.size; omega
                  · have ta : decide (55296 ≤ r) = true := by simpa using cl
                    have tb2 : decide (r < 56320) = false := by simp; omega
                    have tc : decide (r < 57344) = false := by simp; omega
                    have c57 : 57344 ≤ r := by omega
                    have he : escU A.data.toList = some (r, n) := by rw [HE.out, if_neg (by omega), if_neg (by omega)]
                    have hF := HFIN.out _ _ he
                    have hG := (HBND.out _ _ he).2.2.2.2.2
                    rw [← HBL.out] at hF
                    have HF := Lib.hid hF; clear hF he ca
                    go_wp2_with fail
                    refine (str_w w1.heap.size w1.heap.size out P w' hbl (by omega) (by omega)).mono ?_
                    rintro e w2 ⟨rfl, hbl2, hb2⟩
                    have hs2 := hb2.size
                    go_wp2_with fail
                    refine (H1W.out _).mono ?_; rintro e w2' ⟨rfl, rfl⟩
                    go_wp2_with fail
                    refine (rune_w w1.heap.size w1.heap.size _ r (by omega) (by omega) (by omega) _ hbl2 (by rw [List.length_append, Array.length_toList]; show out.length + P.size + 4 ≤ _; omega) (by omega)).mono ?_
                    rintro e w3 ⟨k, rfl, hbl3, hb3⟩
                    have hs3 := hb3.size
                    go_wp2_with fail
                    refine ⟨⟨B, _, rfl, HF.out, ?_, hbl3, (hbel.trans (hb2.mono (by omega))).trans (hb3.mono (by omega)), by omega⟩, ?_⟩
                    · rw [List.length_append, List.length_append, Array.length_toList]; show out.length + P.size + _ + _ ≤ _; omega
                    · show B.size < t.size; omega
  · have hbn := badF_nonneg s hb
    have tb : decide (0 ≤ badF s) = true := by simpa using hbn
    have hB : unB s = .empty ∧ unE s = 50 := by unfold unB unE; rw [if_pos hb, if_pos hb]; exact ⟨rfl, rfl⟩
    have H1 := Lib.hid hB
    clear hb hbn hB
    go_enter Try.func15, Try.ntmps15
    go_wp2_with fail
    refine (HB.out _).mono ?_; rintro e w1 ⟨rfl, hb1⟩
    go_wp2_with fail
    go_ret2
    exact ⟨by rw [H1.out.1, H1.out.2]; rfl, hb1⟩
end Go.Proofs.Ytlfkhfmepcnfeaa.Txt
