/- The law Utf8Back: its walk. -/
import Derived.Test.YtpdglihihpopeaaUtfQ
import Derived.Test.YtpdglihihpopeaaUtfL
import Derived.Test.YtpdglihihpopeaaUtfN
import Derived.Laws.Cover4
import Derived.Stop.RegionWithIn
import Derived.Deep.RegionHeld3
import Derived.Deep.MidRow
namespace Go.Proofs.Ytpdglihihpopeaa.Utf
set_option linter.unusedVariables false
set_option linter.unusedSimpArgs false
open Go.RowKit Go.Proofs.Ytpdglihihpopeaa.Mem Go.Proofs.Ytpdglihihpopeaa.Iter

attribute [local go_sem] Oper.semAt_some
theorem inRow_at : ∀ (pre : List (Nat × Int)) (m : Nat) (x : Nat × Int) (post : List (Nat × Int)), InRow m (pre ++ x :: post) → x.1 = m + (forms pre).length ∧ sizeF x.2 = ((encL x.2).length : Int) ∧ sizeF x.2 ≠ 0
  | [], m, x, post, h => ⟨by simp [forms, h.1], h.2.1, h.2.2.1⟩
  | y :: pre, m, x, post, h => by
    obtain ⟨a, b, c⟩ := inRow_at pre _ x post h.2.2.2
    exact ⟨by rw [a, forms_cons, List.length_append, Nat.add_assoc], b, c⟩
theorem enc_good {r : Int} (h : sizeF r ≠ 0) : badL (encL r) = -1 := by
  have hr : 0 ≤ r ∧ r ≤ 1114111 ∧ ¬(55296 ≤ r ∧ r ≤ 57343) := by
    unfold sizeF at h
    split at h
    · exact absurd rfl h
    · omega
  have key : ∀ xs : List Int, (∀ x ∈ xs, 0 ≤ x ∧ x < 256) → endF (xs.foldl oneF sc0) = -1 → badL (xs.map toB) = -1 := fun xs hx he => by
    have := badF_str xs hx
    rw [badF_run] at this
    rw [show (strB xs).data.toList = xs.map toB by simp [strB]] at this
    rw [this, he]
  by_cases h1 : r < 128
  · rw [enc_one hr.1 h1]; exact key [r] (by intro x hm; simp at hm; omega) (good_one r hr.1 h1)
  by_cases h2 : r < 2048
  · rw [enc_two (by omega) h2]; exact key [192 + r / 64, 128 + r % 64] (by intro x hm; simp at hm; omega) (good_two r (by omega) h2)
  by_cases h3 : r < 65536
  · rw [enc_three (by omega) h3 hr.2.2]; exact key [224 + r / 4096, 128 + r / 64 % 64, 128 + r % 64] (by intro x hm; simp at hm; omega) (good_three r (by omega) h3 hr.2.2)
  · rw [enc_four (by omega) hr.2.1]; exact key [240 + r / 262144, 128 + r / 4096 % 64, 128 + r / 64 % 64, 128 + r % 64] (by intro x hm; simp at hm; omega) (good_four r (by omega) hr.2.1)
theorem forms_good : ∀ (rs : List (Nat × Int)) (m : Nat), InRow m rs → badL (forms rs) = -1
  | [], _, _ => by simp [forms, badL, runL, endF, sc0, st0]
  | x :: rs, m, h => by
    rw [forms_cons]
    exact good_app _ _ (enc_good h.2.2.1) (forms_good rs _ h.2.2.2)
/-- What the runes of a text are. -/
theorem runes_all (l : List UInt8) : InRow 0 (runesL l) ∧ (∃ rest, l = forms (runesL l) ++ rest ∧
    ((badL l = -1 ∧ rest = []) ∨ ∃ k : Nat, badL l = (k : Int) ∧ (forms (runesL l)).length ≤ k ∧ k ≤ l.length ∧ k < (forms (runesL l)).length + 4)) := by
  have h := runes_back l st0 [] 0 (.inl ⟨rfl, rfl⟩)
  simp only [List.length_nil, Nat.add_zero, List.nil_append, Nat.zero_add] at h
  exact h
def BackAt (w : World) (g0 g3 g4 : Nat) (pre : List (Nat × Int)) (r : Bool) (W : World) : Prop :=
  Below w.heap.size w W ∧ Blk W g0 4 #[.bool r] ∧ (∃ A : ByteArray, Blk W g3 9 #[.string A] ∧ A.data.toList = forms pre) ∧ Blk W g4 3 #[.int .i64 ((forms pre).length : Int)]
theorem backAt_below {w : World} {g0 g3 g4 B : Nat} {pre : List (Nat × Int)} {r : Bool} {W W' : World} (h : BackAt w g0 g3 g4 pre r W) (hB : w.heap.size ≤ B) (h0 : g0 < B) (h3 : g3 < B) (h4 : g4 < B) (hb : Below B W W') : BackAt w g0 g3 g4 pre r W' := by
  obtain ⟨a, b, ⟨A, c, d⟩, e⟩ := h
  exact ⟨a.trans (hb.mono hB), b.below hb h0, ⟨A, c.below hb h3, d⟩, e.below hb h4⟩
theorem take_of {l a b : List UInt8} (h : l = a ++ b) : l.take a.length = a := by rw [h, List.take_left]
theorem undrew {B : Nat} {A W : World} (h : Below B A.drew W) : Below B A W := ⟨h.os, h.tape, h.output, h.size, h.block⟩
theorem back_next {w : World} {g0 g3 g4 kb B : Nat} {pre : List (Nat × Int)} {x : Nat × Int} {A : ByteArray} {W W2 : World} {n : Int} (hbel : Below w.heap.size w W) (q0 : Blk W g0 4 #[.bool false]) (q3 : Blk W g3 9 #[.string A]) (hA : A.data.toList = forms pre)
    (q4 : Blk W g4 3 #[.int .i64 ((forms pre).length : Int)]) (hx : n = ((forms pre).length : Int) + ((encL x.2).length : Int)) (hb : Below W.heap.size (W.setCell ⟨g4, 0, none⟩ (.int .i64 n)) W2)
    (h03 : g0 < g3) (h34 : g3 < g4) (h4k : g4 < kb) (hkB : kb < B) (hw0 : w.heap.size ≤ g0) :
    Stays kb B W (W2.setCell ⟨g3, 0, none⟩ (.string (A ++ Utf8.encode x.2))) ∧ BackAt w g0 g3 g4 (pre ++ [x]) false (W2.setCell ⟨g3, 0, none⟩ (.string (A ++ Utf8.encode x.2))) := by
  have hz : (W.setCell ⟨g4, 0, none⟩ (.int .i64 n)).heap.size = W.heap.size := by simp [World.setCell]
  refine ⟨((Stays.setCell W ⟨g4, 0, none⟩ _ (by show g4 < B; omega) (by show g4 ≠ kb; omega)).trans (Stays.of_below (hb.mono (by omega)))).trans (Stays.setCell W2 ⟨g3, 0, none⟩ _ (by show g3 < B; omega) (by show g3 ≠ kb; omega)), ?_, ?_, ⟨A ++ Utf8.encode x.2, ?_, ?_⟩, ?_⟩
  · exact ((hbel.setCell (p := ⟨g4, 0, none⟩) (by show w.heap.size ≤ g4; omega) _).trans (hb.mono hbel.size)).setCell (p := ⟨g3, 0, none⟩) (by show w.heap.size ≤ g3; omega) _
  · exact ((q0.far (by show g0 ≠ g4; omega) _).below hb q0.lt).far (by show g0 ≠ g3; omega) _
  · exact ((q3.far (by show g3 ≠ g4; omega) _).below hb q3.lt).set_ 0 _
  · rw [forms_app, ← hA]; simp [forms, encL]
  · rw [show (((forms (pre ++ [x])).length : Nat) : Int) = n by rw [hx, forms_app]; simp [forms]]
    exact ((q4.set_ 0 _).below hb q4.lt).far (by show g4 ≠ g3; omega) _
set_option maxHeartbeats 4000000 in
set_option maxRecDepth 100000 in
theorem back (s : ByteArray) (hs : s.size ≤ 140737488351232) (w : World) : Calls Try.prog 8 #[.string s] w fun e w' => e = .returned (.bool true) ∧ Below w.heap.size w w' := by
  have b1 : badF ⟨#[255]⟩ = 0 := by decide
  have b2 : badF ⟨#[97]⟩ = -1 := by decide
  have HB1 := Lib.hid (fun w1 => b1 ▸ bad_w ⟨#[255]⟩ (by decide) w1)
  have HB2 := Lib.hid (fun w1 => b2 ▸ bad_w ⟨#[97]⟩ (by decide) w1)
  clear b1 b2
  have hnf := fn_nil (.func 23) #[]
  refine (callsIn_wide (n := 9)).1 ?_
  refine callsIn_of_wp_marks Try.func8 rfl trivial ?_ rfl
  simp only [Try.ntmps8, List.size_toArray, List.length_cons, List.length_nil, Nat.reduceAdd, Nat.reduceSub, Array.replicate_succ, Array.replicate_zero, List.push_toArray, List.append_toArray, List.nil_append, List.cons_append]
  gi_wp2_with fail
  refine ⟨trivial, ?_⟩
  refine (callsIn_wide.2 (HB1.out _)).mono ?_; rintro e w1 ⟨rfl, hb1⟩
  gi_wp2_with fail
  refine ⟨trivial, ?_⟩
  refine (callsIn_wide.2 (HB2.out _)).mono ?_; rintro e w2 ⟨rfl, hb2⟩
  have q0 : Blk w2 w.heap.size 4 #[.bool false] := ((Blk.new w _ _).below hb1 (by simp)).below hb2 (by have := hb1.size; simp at this; omega)
  have hbel : Below w.heap.size w w2 := bthen (bthen ((Below.refl _ w).alloc (Nat.le_refl _) _) hb1) hb2
  have hsz2 : w.heap.size < w2.heap.size := Blk.lt q0
  clear hb1 hb2
  gi_wp2_with fail
  refine ⟨trivial, ?_⟩
  have k3 : Blk ((w2.alloc (.cells #[.string ⟨#[]⟩] 9)).alloc (.cells #[.int .i64 0] 3)) w2.heap.size 9 #[.string ⟨#[]⟩] := (Blk.new w2 _ _).alloc _
  have k4 : Blk ((w2.alloc (.cells #[.string ⟨#[]⟩] 9)).alloc (.cells #[.int .i64 0] 3)) (w2.heap.size + 1) 3 #[.int .i64 0] := by
    have := Blk.new (w2.alloc (.cells #[.string ⟨#[]⟩] 9)) 3 #[.int .i64 0]
    simpa using this
  have k0 : Blk ((w2.alloc (.cells #[.string ⟨#[]⟩] 9)).alloc (.cells #[.int .i64 0] 3)) w.heap.size 4 #[.bool false] := (q0.alloc _).alloc _
  have kb : Below w.heap.size w ((w2.alloc (.cells #[.string ⟨#[]⟩] 9)).alloc (.cells #[.int .i64 0] 3)) := (hbel.alloc hbel.size _).alloc (by have := hbel.size; simp; omega) _
  have kz : ((w2.alloc (.cells #[.string ⟨#[]⟩] 9)).alloc (.cells #[.int .i64 0] 3)).heap.size = w2.heap.size + 2 := by simp
  have kz1 : w2.heap.size + 1 < ((w2.alloc (.cells #[.string ⟨#[]⟩] 9)).alloc (.cells #[.int .i64 0] 3)).heap.size := by omega
  clear kz
  clear q0 hbel
  generalize (w2.alloc (.cells #[.string ⟨#[]⟩] 9)).alloc (.cells #[.int .i64 0] 3) = w3 at *
  refine (callsIn_wide.2 (runes_w s w3)).mono ?_; rintro e w4 ⟨rfl, hk, hb4, hz4⟩
  have h0 : BackAt w w.heap.size w2.heap.size (w2.heap.size + 1) [] false w4 := ⟨bthen kb hb4, k0.below hb4 (by omega), ⟨⟨#[]⟩, k3.below hb4 (by omega), rfl⟩, k4.below hb4 (by omega)⟩
  have hz4' : w3.heap.size < w4.heap.size := by omega
  clear k0 k3 k4 kb hz4
  gi_wp2_with fail
  obtain ⟨hrow, rest, hL, hfin⟩ := runes_all s.data.toList
  have HROW := Lib.hid hrow; have HL := Lib.hid hL; have HFIN := Lib.hid hfin
  clear hrow hL hfin
  refine wpIn_rangeFunc_C rfl (by omega) (gf := 23) (lb := #[.pointer (some ⟨w3.heap.size, 0, none⟩)]) rfl trivial (enters_of Try.func23 (by kernel_rfl) rfl)
    (runes_seq s hs w3.heap.size w4 hk _) (by omega) (Below.refl _ _) (fun _ => rfl)
    (fun pre W => BackAt w w.heap.size w2.heap.size (w2.heap.size + 1) pre false W)
    (fun c pre W => False)
    (fun pre W W' h hb => backAt_below h (by omega) (by omega) (by omega) (by omega) hb)
    (fun c pre W W' h hb => h)
    h0
    (fun x => { tmps := #[.string s, undef, .pointer (some ⟨w.heap.size, 0, none⟩), .pointer (some ⟨w2.heap.size, 0, none⟩), .pointer (some ⟨w2.heap.size + 1, 0, none⟩), .func (.func 23) #[] #[.pointer (some ⟨w3.heap.size, 0, none⟩)], .int .i64 (x.1 : Int), .int .i32 x.2, undef, .int .i64 0, .bool false, .bool false, .int .i64 (-1), .bool false, .bool false, .string s, .func (.func 23) #[] #[.pointer (some ⟨w3.heap.size, 0, none⟩)], .func (.func 23) #[] #[.pointer (some ⟨w3.heap.size, 0, none⟩)], .bool false, .func (.func 23) #[] #[.pointer (some ⟨w3.heap.size, 0, none⟩)], .int .i64 (x.1 : Int), .int .i32 x.2, undef, undef, undef, undef, undef, undef, undef, undef, undef, undef, undef, undef, undef, undef, undef, undef, undef, undef, undef, undef, undef, undef, undef, undef, undef, undef, undef, undef, undef, undef, undef, undef, undef, undef, undef, undef, undef, undef, undef, undef, undef, undef, undef, undef, undef, undef, undef, undef, undef, undef, undef, undef, undef, undef, undef, undef, undef, undef, undef, undef, undef, undef, undef, undef, undef], defers := [] }) ?assign ?body ?done ?stop
  case assign =>
    intro l x W K hK
    simp only [encR]
    gi_wp2
    exact hK
  case body =>
    intro l pre x post W hxs hT hlW
    obtain ⟨hbel, q0, ⟨A, q3, hA⟩, q4⟩ := hT
    have hr := HROW.out
    rw [hxs] at hr
    obtain ⟨hx1, hx2, hx3⟩ := inRow_at pre 0 x post hr
    have hle : (forms pre).length + (encL x.2).length ≤ s.size := by
      have h := congrArg List.length HL.out
      rw [hxs, forms_app, forms_cons] at h
      simp at h
      omega
    have hAs : A.size = (forms pre).length := by rw [← hA]; simp
    have hEs : (Utf8.encode x.2).size = (encL x.2).length := by simp [encL]
    clear hr hxs
    rw [Nat.zero_add] at hx1
    have HX2 := Lib.hid hx2
    have hzz : ¬ (9223372036854775807 < A.size + (Utf8.encode x.2).size) := by omega
    have t1 : ((x.1 : Int) != (A.size : Int)) = false := by rw [hx1, hAs]; simp
    have t2 : (sizeF x.2 == 0) = false := by simpa using hx3
    have hsz1 : 0 ≤ sizeF x.2 ∧ sizeF x.2 ≤ 4 := by rw [hx2, ← hEs]; exact ⟨by omega, by have := encode_size_le x.2; omega⟩
    have c3 : W.cell? ⟨w2.heap.size, 0, none⟩ = some (.string A) := Blk.cell q3 0
    have c4 : W.cell? ⟨w2.heap.size + 1, 0, none⟩ = some (.int .i64 ((forms pre).length : Int)) := Blk.cell q4 0
    have f3 := Blk.frozen q3 0
    have f4 := Blk.frozen q4 0
    have HAS := Lib.hid hAs
    have HES := Lib.hid hEs
    have hAB : A.size ≤ 140737488351232 := by omega
    have hEB : (forms pre).length ≤ 140737488351232 := by omega
    clear hx1 hx2 hx3 hAs hEs
    have hsum : IntKind.i64.wrap (((forms pre).length : Int) + sizeF x.2) = ((forms pre).length : Int) + sizeF x.2 := IntWalk.i64_in _ (by omega)
    have hl3 : w2.heap.size < W.heap.size := Blk.lt q3
    have hl4 : w2.heap.size + 1 < W.heap.size := Blk.lt q4
    have HH := Lib.hid hA; clear hA
    gi_wp2_with fail
    refine ⟨trivial, ?_⟩
    refine (CallsIn.inRound l (callsIn_wide.2 (size_w x.2 _))).mono ?_; rintro e W1 ⟨rfl, rfl⟩
    gi_wp2_with fail
    gi_region_with (refine ⟨trivial, ?_⟩; gi_at_call 17; refine (CallsIn.inRound l (callsIn_wide.2 (size_w x.2 _))).mono ?_; rintro e W1 ⟨rfl, rfl⟩)
    all_goals gi_wp2_with fail
    all_goals gi_region_with (refine ⟨trivial, ?_⟩; gi_at_call 22; refine (CallsIn.inRound l (callsIn_wide.2 (form_w x.2 _))).mono ?_; rintro e W2 ⟨rfl, hb2⟩; obtain ⟨hc2, hf2⟩ := bcell hb2)
    all_goals gi_wp2_with fail
    all_goals exact back_next hbel q0 q3 HH.out q4 (by rw [HX2.out]) (undrew (undrew (hb2.mono (B' := W.heap.size) (by simp)))) hsz2 (by omega) kz1 hz4' (Nat.le_refl _)
  case done =>
    intro D W hD hT hK
    obtain ⟨hbel, q0, ⟨A, q3, hA⟩, q4⟩ := hT
    have hAs : A.size = (forms (runesL s.data.toList)).length := by rw [← hA]; simp
    have hgood : badF A = -1 := by rw [badF_run, hA]; exact forms_good _ 0 HROW.out
    have hle : A.size ≤ s.size := by
      have h := congrArg List.length HL.out
      simp at h
      omega
    have hcut : s.extract 0 A.size = A := by
      apply ByteArray.ext
      apply Array.toList_inj.1
      rw [show (s.extract 0 A.size).data.toList = s.data.toList.take A.size by simp, hA, hAs]
      exact take_of HL.out
    have HA1 := Lib.hid (fun w1 => hgood ▸ bad_w A (by omega) w1)
    have HS1 := Lib.hid (fun w1 => bad_w s (by omega) w1)
    rw [← hAs] at q4
    have HFA := Lib.hid hAs
    have HAA := Lib.hid hA
    clear hAs hgood hA
    have c3 : W.cell? ⟨w2.heap.size, 0, none⟩ = some (.string A) := Blk.cell q3 0
    have c4 : W.cell? ⟨w2.heap.size + 1, 0, none⟩ = some (.int .i64 (A.size : Int)) := Blk.cell q4 0
    have c0 : W.cell? ⟨w.heap.size, 0, none⟩ = some (.bool false) := Blk.cell q0 0
    have f0 := Blk.frozen q0 0
    have hl3 : w2.heap.size < W.heap.size := Blk.lt q3
    have hl4 : w2.heap.size + 1 < W.heap.size := Blk.lt q4
    have tg : decide ((A.size : Int) > (s.size : Int)) = false := by simp; omega
    have tg' : decide (s.size < A.size) = false := by simp; omega
    gi_wp2_with fail
    refine ⟨trivial, ?_⟩
    refine (callsIn_wide.2 (HS1.out _)).mono ?_; rintro e W1 ⟨rfl, hb1⟩
    obtain ⟨hc1, hf1⟩ := bcell hb1
    gi_wp2_with fail
    have c3' : W1.cell? ⟨w2.heap.size, 0, none⟩ = some (.string A) := (hc1 _ _ hl3).trans c3
    have c4' : W1.cell? ⟨w2.heap.size + 1, 0, none⟩ = some (.int .i64 (A.size : Int)) := (hc1 _ _ hl4).trans c4
    have hl3' : w2.heap.size < W1.heap.size := Nat.lt_of_lt_of_le hl3 hb1.size
    have hl4' : w2.heap.size + 1 < W1.heap.size := Nat.lt_of_lt_of_le hl4 hb1.size
    clear hc1 hf1 c3 c4 c0
    refine wpIn_wide.2 ?_
    go_region_held3 (fun w' => w2.heap.size + 1 < w'.heap.size ∧ w'.cell? ⟨w2.heap.size, 0, none⟩ = some (.string A) ∧ w'.cell? ⟨w2.heap.size + 1, 0, none⟩ = some (.int .i64 (A.size : Int))) ((go_split_ands; refine ⟨?_, ?_, ?_⟩ <;> first | assumption | omega | go_keep)) ((go_at_call 12; (with_reducible refine (HA1.out _).mono ?_); rintro e W2 ⟨rfl, hb2⟩; have hsz : w2.heap.size + 1 < W2.heap.size := Nat.lt_of_lt_of_le hl4' hb2.size; have g3 : W2.cell? ⟨w2.heap.size, 0, none⟩ = some (.string A) := (hb2.cell (p := ⟨w2.heap.size, 0, none⟩) hl3').trans c3'; have g4 : W2.cell? ⟨w2.heap.size + 1, 0, none⟩ = some (.int .i64 (A.size : Int)) := (hb2.cell (p := ⟨w2.heap.size + 1, 0, none⟩) hl4').trans c4'; have HB2' := Lib.hid hb2; clear hb2))
    have hlow : w2.heap.size + 1 < W2.heap.size := hsz
    have q0' : Blk W2 w.heap.size 4 #[.bool false] := (q0.below hb1 q0.lt).below (undrew HB2'.out) (by have := hb1.size; have := q0.lt; simp; omega)
    have hK3 : W2.heap[D]? = some (.deferred (some [])) := ((undrew HB2'.out).block D (by have := (Array.getElem?_eq_some_iff.1 hK).1; have := hb1.size; simp; omega)).trans ((hb1.block D (Array.getElem?_eq_some_iff.1 hK).1).trans hK)
    have hbel2 : Below w.heap.size w W2 := bthen (bthen hbel hb1) (undrew HB2'.out)
    clear hb1 HB2' q0 q3 q4 f0 hbel c3' c4' hl3' hl4'
    have c0 : W2.cell? ⟨w.heap.size, 0, none⟩ = some (.bool false) := Blk.cell q0' 0
    have f0 := Blk.frozen q0' 0
    rcases HFIN.out with ⟨hm, hr⟩ | ⟨k, hm, h1, h2, h3⟩
    · obtain rfl : A = s := by
        apply ByteArray.ext
        apply Array.toList_inj.1
        rw [HAA.out]
        conv => rhs; rw [HL.out, hr, List.append_nil]
      rw [← badF_run] at hm
      have t1 : (badF A == -1) = true := by simpa using hm
      clear hm hr
      gi_wp2_with fail
      have hK4 : (W2.setCell ⟨w.heap.size, 0, none⟩ (.bool true)).heap[D]? = some (.deferred (some [])) := (Below.heap_setCell W2 _ _ D (by show D ≠ w.heap.size; omega)).trans hK3
      refine ⟨by simp, .inl ⟨_, _, rfl, run_takeDeferred hK4, ?_⟩⟩
      have hr : ((W2.setCell ⟨w.heap.size, 0, none⟩ (.bool true)).putObj D (Obj.deferred none)).cell? ⟨w.heap.size, 0, none⟩ = some (.bool true) := by
        refine (World.cell?_of_block (World.putObj_heap_other (by show w.heap.size ≠ D; omega))).trans ?_
        exact Blk.cell (q0'.set_ 0 (.bool true)) 0
      refine ⟨.bool true, by simp [results, Try.results8, go_sem, hr], rfl, ?_⟩
      exact (hbel2.setCell (p := ⟨w.heap.size, 0, none⟩) (Nat.le_refl _) _).trans (below_putObj _ (by omega) hK4)
    · rw [← badF_run] at hm
      have t1 : (badF s == -1) = false := by rw [hm]; simp
      rw [← HFA.out] at h1 h3
      have h2' : k ≤ s.size := by simpa using h2
      clear h2
      rw [hm] at t1
      have hm' := Lib.hid hm
      have e1 : decide ((k : Int) ≥ (A.size : Int)) = true := by simp; omega
      have e1' : decide (A.size ≤ k) = true := by simp; omega
      have e2 : decide ((k : Int) ≤ (s.size : Int)) = true := by simp; omega
      have e2' : decide (k ≤ s.size) = true := by simp; omega
      have e3 : decide ((k : Int) < (A.size : Int) + 4) = true := by simp; omega
      gi_wp2_with fail
      have hK4 : (W2.setCell ⟨w.heap.size, 0, none⟩ (.bool true)).heap[D]? = some (.deferred (some [])) := (Below.heap_setCell W2 _ _ D (by show D ≠ w.heap.size; omega)).trans hK3
      refine ⟨by simp, .inl ⟨_, _, rfl, run_takeDeferred hK4, ?_⟩⟩
      have hr : ((W2.setCell ⟨w.heap.size, 0, none⟩ (.bool true)).putObj D (Obj.deferred none)).cell? ⟨w.heap.size, 0, none⟩ = some (.bool true) := by
        refine (World.cell?_of_block (World.putObj_heap_other (by show w.heap.size ≠ D; omega))).trans ?_
        exact Blk.cell (q0'.set_ 0 (.bool true)) 0
      refine ⟨.bool true, by simp [results, Try.results8, go_sem, hr], rfl, ?_⟩
      exact (hbel2.setCell (p := ⟨w.heap.size, 0, none⟩) (Nat.le_refl _) _).trans (below_putObj _ (by omega) hK4)
  case stop =>
    rintro D c pre x post W hD hxs h hK
    exact h.elim
end Go.Proofs.Ytpdglihihpopeaa.Utf
