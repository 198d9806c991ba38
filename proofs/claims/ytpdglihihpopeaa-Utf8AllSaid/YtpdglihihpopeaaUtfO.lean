/- The walk of quarrylaw05.one. -/
import Derived.Test.YtpdglihihpopeaaUtfE
import Derived.Test.YtpdglihihpopeaaUtfB
import Derived.Handy
namespace Go.Proofs.Ytpdglihihpopeaa.Utf
set_option linter.unusedVariables false
set_option linter.unusedSimpArgs false
open Go.RowKit Go.Proofs.Ytpdglihihpopeaa.Mem Go.Proofs.Ytpdglihihpopeaa.Iter

attribute [local go_sem] Oper.semAt_some
set_option maxHeartbeats 4000000 in
set_option maxRecDepth 100000 in
theorem one_bad (r : Int) (h : sizeF r = 0) (w : World) : Calls Try.prog 20 #[.int .i32 r] w fun e w' => e = .returned (.bool true) ∧ Below w.heap.size w w' := by
  have hc : r < 0 ∨ (0 ≤ r ∧ 1114111 < r) ∨ (55296 ≤ r ∧ r ≤ 57343) := by
    have := sizeF_one (r := r); unfold sizeF at h
    split at h
    · omega
    · split at h <;> (try split at h) <;> (try split at h) <;> omega
  have HS := Lib.hid (fun w1 => h ▸ size_w r w1)
  clear h
  rcases hc with hc | hc | hc
  · have t0 : decide (r < 0) = true := by simp; omega
    clear hc
    go_enter Try.func20, Try.ntmps20
    go_wp2_with fail
    refine (HS.out _).mono ?_; rintro e w1 ⟨rfl, rfl⟩
    go_wp2_with fail
    exact bodyPost_ret (v := .bool true) (by simp [results, Try.results20, go_sem]) rfl ⟨rfl, by go_grown⟩
  · have t0 : decide (r < 0) = false := by simp; omega
    have t1 : decide (r > 1114111) = true := by simp; omega
    have t2 : decide (1114111 < r) = true := by simp; omega
    clear hc
    go_enter Try.func20, Try.ntmps20
    go_wp2_with fail
    refine (HS.out _).mono ?_; rintro e w1 ⟨rfl, rfl⟩
    go_wp2_with fail
    exact bodyPost_ret (v := .bool true) (by simp [results, Try.results20, go_sem]) rfl ⟨rfl, by go_grown⟩
  · have t0 : decide (r < 0) = false := by simp; omega
    have t1 : decide (r > 1114111) = false := by simp; omega
    have t2 : decide (1114111 < r) = false := by simp; omega
    have t3 : decide (r ≥ 55296) = true := by simp; omega
    have t4 : decide (55296 ≤ r) = true := by simp; omega
    have t5 : decide (r ≤ 57343) = true := by simp; omega
    clear hc
    go_enter Try.func20, Try.ntmps20
    go_wp2_with fail
    refine (HS.out _).mono ?_; rintro e w1 ⟨rfl, rfl⟩
    go_wp2_with fail
    exact bodyPost_ret (v := .bool true) (by simp [results, Try.results20, go_sem]) rfl ⟨rfl, by go_grown⟩
theorem ext_list' (s : ByteArray) (k : Nat) : (s.extract 0 k).data.toList = s.data.toList.take k := by simp
/-- one's own blocks: the number, the result, the count. -/
def OneAt (w : World) (g1 g4 : Nat) (r : Int) (res : Bool) (n : Int) (W : World) : Prop :=
  Below w.heap.size w W ∧ Blk W w.heap.size 21 #[.int .i32 r] ∧ Blk W g1 4 #[.bool res] ∧ Blk W g4 3 #[.int .i64 n]
theorem oneAt_below {w : World} {g1 g4 B : Nat} {r : Int} {res : Bool} {n : Int} {W W' : World} (h : OneAt w g1 g4 r res n W) (h0 : w.heap.size < B) (h1 : g1 < B) (h4 : g4 < B) (hb : Below B W W') : OneAt w g1 g4 r res n W' :=
  ⟨h.1.trans (hb.mono (by omega)), h.2.1.below hb h0, h.2.2.1.below hb h1, h.2.2.2.below hb h4⟩
set_option maxHeartbeats 4000000 in
set_option maxRecDepth 100000 in
theorem one_good (r : Int) (h : sizeF r ≠ 0) (w : World) : Calls Try.prog 20 #[.int .i32 r] w fun e w' => e = .returned (.bool true) ∧ Below w.heap.size w w' := by
  have hv := valid_of h
  have hg := enc_good h
  have hlen : ((encL r).length : Int) = sizeF r := by
    by_cases h1 : r < 128
    · rw [enc_one hv.1 h1, sizeF_one hv.1 h1]; rfl
    by_cases h2 : r < 2048
    · rw [enc_two (by omega) h2, sizeF_two (by omega) h2]; rfl
    by_cases h3 : r < 65536
    · rw [enc_three (by omega) h3 hv.2.2, sizeF_three (by omega) h3 hv.2.2]; rfl
    · rw [enc_four (by omega) hv.2.1, sizeF_four (by omega) hv.2.1]; rfl
  have hne : encL r ≠ [] := by intro e; rw [e] at hlen; simp at hlen; omega
  have hru := enc_runes h hg hne
  have hsz : (Utf8.encode r).size = (encL r).length := by simp [encL]
  have hsz4 : (Utf8.encode r).size ≤ 4 := encode_size_le r
  have hcut := enc_lead h
  have hS : (Utf8.encode r).data.toList = encL r := rfl
  have hbs : badF (Utf8.encode r) = -1 := by rw [badF_run, hS]; exact hg
  have t0 : decide (r < 0) = false := by simp; omega
  have t1 : decide (r > 1114111) = false := by simp; omega
  have t2 : decide (1114111 < r) = false := by simp; omega
  have t6 : (decide (55296 ≤ r) && decide (r ≤ 57343)) = false := by
    rw [Bool.and_eq_false_iff]; simp only [decide_eq_false_iff_not]; omega
  rw [← hlen, ← hsz] at h
  have HB := Lib.hid (fun w1 => hbs ▸ bad_w (Utf8.encode r) (by omega) w1)
  have HS := Lib.hid (fun w1 => (show sizeF r = ((Utf8.encode r).size : Int) by rw [hsz, hlen]) ▸ size_w r w1)
  have HF := Lib.hid (fun w1 => form_w r w1)
  have HK : Hid (∀ k : Nat, 1 ≤ k → k < (Utf8.encode r).size → badL ((encL r).take k) = (k : Int) ∧ badL ((encL r).take k ++ [97]) = (k : Int) ∧ badL ((encL r).take k ++ encL r) = (k : Int)) := by
    intro k h1 h2
    rw [hsz] at h2
    obtain ⟨a, b⟩ := hcut.1 k h2 (by omega)
    obtain ⟨x, m, hx, hx2⟩ := hcut.2 (by omega)
    refine ⟨cut_bad hg h2 a b, cut_on hg h2 a b 97 (by decide) [], ?_⟩
    have := cut_on hg h2 a b x (.inr hx2) m
    rwa [← hx] at this
  have hseq := runes_seq (Utf8.encode r) (by omega)
  rw [hS, hru] at hseq
  have HQ := Lib.hid hseq
  have hpos : 0 < (Utf8.encode r).size := by omega
  have HLS := Lib.hid hS
  clear hv hg hlen hne hru hsz hcut hS hbs h hseq
  have hnf := fn_nil (.func 23) #[]
  generalize Utf8.encode r = S at *
  refine (callsIn_wide (n := 9)).1 ?_
  refine callsIn_of_wp_marks Try.func20 rfl trivial ?_ rfl
  simp only [Try.ntmps20, List.size_toArray, List.length_cons, List.length_nil, Nat.reduceAdd, Nat.reduceSub, Array.replicate_succ, Array.replicate_zero, List.push_toArray, List.append_toArray, List.nil_append, List.cons_append]
  have k0 : Blk ((w.alloc (.cells #[.int .i32 r] 21)).alloc (.cells #[.bool false] 4)) w.heap.size 21 #[.int .i32 r] := (Blk.new w _ _).alloc _
  have k1 : Blk ((w.alloc (.cells #[.int .i32 r] 21)).alloc (.cells #[.bool false] 4)) (w.heap.size + 1) 4 #[.bool false] := by
    have := Blk.new (w.alloc (.cells #[.int .i32 r] 21)) 4 #[.bool false]
    simpa using this
  have hbel : Below w.heap.size w ((w.alloc (.cells #[.int .i32 r] 21)).alloc (.cells #[.bool false] 4)) := ((Below.refl _ w).alloc (Nat.le_refl _) _).alloc (by simp) _
  by_cases h5 : 55296 ≤ r
  · have t3 : decide (r ≥ 55296) = true := by simp; omega
    have t4 : decide (55296 ≤ r) = true := by simp; omega
    have t5 : decide (r ≤ 57343) = false := by rw [t4] at t6; simpa using t6
    clear h5 t6
    gi_wp2_with fail
    refine ⟨trivial, ?_⟩
    refine (callsIn_wide.2 (HF.out _)).mono ?_; rintro e w1 ⟨rfl, hb1⟩
    have q0 := k0.below hb1 k0.lt
    have q1 := k1.below hb1 k1.lt
    have hbel1 := bthen hbel hb1
    have c0 : w1.cell? ⟨w.heap.size, 0, none⟩ = some (.int .i32 r) := Blk.cell q0 0
    clear hb1 k0 k1 hbel
    gi_wp2_with fail
    refine ⟨trivial, ?_⟩
    refine (callsIn_wide.2 (HS.out _)).mono ?_; rintro e w1' ⟨rfl, rfl⟩
    gi_wp2_with fail
    refine ⟨trivial, ?_⟩
    refine (callsIn_wide.2 (HB.out _)).mono ?_; rintro e w2 ⟨rfl, hb2⟩
    have p0 := q0.below hb2 q0.lt
    have p1 := q1.below hb2 q1.lt
    have hbel2 := bthen hbel1 hb2
    clear hb2 q0 q1 hbel1 c0
    gi_wp2_with fail
    refine ⟨trivial, ?_⟩
    have r0 : Blk (w2.alloc (.cells #[.int .i64 0] 3)) w.heap.size 21 #[.int .i32 r] := p0.alloc _
    have r1 : Blk (w2.alloc (.cells #[.int .i64 0] 3)) (w.heap.size + 1) 4 #[.bool false] := p1.alloc _
    have r4 : Blk (w2.alloc (.cells #[.int .i64 0] 3)) w2.heap.size 3 #[.int .i64 0] := Blk.new w2 _ _
    have hbel3 : Below w.heap.size w (w2.alloc (.cells #[.int .i64 0] 3)) := hbel2.alloc hbel2.size _
    have hl1 : w.heap.size + 1 < w2.heap.size := p1.lt
    have hl2 : w2.heap.size < (w2.alloc (.cells #[.int .i64 0] 3)).heap.size := r4.lt
    clear p0 p1 hbel2
    generalize w2.alloc (.cells #[.int .i64 0] 3) = w3 at *
    refine (callsIn_wide.2 (runes_w S w3)).mono ?_; rintro e w4 ⟨rfl, hk, hb4, hz4⟩
    have h0 : OneAt w (w.heap.size + 1) w2.heap.size r false 0 w4 := ⟨bthen hbel3 hb4, r0.below hb4 r0.lt, r1.below hb4 r1.lt, r4.below hb4 r4.lt⟩
    have hl3 : w3.heap.size < w4.heap.size := by omega
    have HQ' := HQ.out w3.heap.size w4 hk
    clear r0 r1 r4 hbel3 hz4 hb4 hk
    gi_wp2_with fail
    refine wpIn_rangeFunc_C rfl (by omega) (gf := 23) (lb := #[.pointer (some ⟨w3.heap.size, 0, none⟩)]) rfl trivial (enters_of Try.func23 (by kernel_rfl) rfl)
      (HQ' _) (by omega) (Below.refl _ _) (fun _ => rfl)
      (fun pre W => OneAt w (w.heap.size + 1) w2.heap.size r false (pre.length : Int) W)
      (fun c pre W => False)
      (fun pre W W' h hb => oneAt_below h (by omega) (by omega) (by omega) hb)
      (fun c pre W W' h hb => h)
      h0
      (fun x => { tmps := #[.int .i32 r, .pointer (some ⟨w.heap.size, 0, none⟩), .pointer (some ⟨w.heap.size + 1, 0, none⟩), .string S, .pointer (some ⟨w2.heap.size, 0, none⟩), .func (.func 23) #[] #[.pointer (some ⟨w3.heap.size, 0, none⟩)], .int .i64 (x.1 : Int), .int .i32 x.2, undef, .int .i32 r, .bool false, .bool false, .int .i32 r, .bool false, .bool false, .bool false, .int .i32 r, .bool true, .bool true, .int .i32 r, .bool false, .bool false, .bool false, undef, undef, undef, .int .i32 r, .string S, .int .i32 r, .int .i64 (S.size : Int), .string S, .int .i64 (S.size : Int), .bool false, .bool false, .string S, .int .i64 (-1), .bool false, .bool false, .string S, .func (.func 23) #[] #[.pointer (some ⟨w3.heap.size, 0, none⟩)], .func (.func 23) #[] #[.pointer (some ⟨w3.heap.size, 0, none⟩)], .bool false, .func (.func 23) #[] #[.pointer (some ⟨w3.heap.size, 0, none⟩)], .int .i64 (x.1 : Int), .int .i32 x.2, undef, undef, undef, undef, undef, undef, undef, undef, undef, undef, undef, undef, undef, undef, undef, undef, undef, undef, undef, undef, undef, undef, undef, undef, undef, undef, undef, undef, undef, undef, undef, undef, undef, undef, undef, undef, undef, undef, undef, undef, undef, undef], defers := [] }) ?assign1 ?body1 ?done1 ?stop1
    case assign1 =>
      intro l x W K hK
      simp only [encR]
      gi_wp2
      exact hK
    case body1 =>
      intro l pre x post W hxs hT hlW
      obtain ⟨rfl, rfl, rfl⟩ : pre = [] ∧ x = (0, r) ∧ post = [] := by
        cases pre with
        | nil => simp at hxs; exact ⟨rfl, hxs.1.symm, hxs.2⟩
        | cons y pre => simp at hxs
      obtain ⟨hbel, q0, q1, q4⟩ := hT
      have c0 : W.cell? ⟨w.heap.size, 0, none⟩ = some (.int .i32 r) := Blk.cell q0 0
      have c4 : W.cell? ⟨w2.heap.size, 0, none⟩ = some (.int .i64 0) := Blk.cell q4 0
      have f4 := Blk.frozen q4 0
      clear hxs
      gi_wp2_with fail
      refine ⟨Stays.setCell W _ _ (by show w2.heap.size < _; omega) (by show w2.heap.size ≠ _; omega), hbel.setCell (p := ⟨w2.heap.size, 0, none⟩) (by show w.heap.size ≤ w2.heap.size; omega) _, q0.far (by show w.heap.size ≠ w2.heap.size; omega) _, q1.far (by show w.heap.size + 1 ≠ w2.heap.size; omega) _, q4.set_ 0 _⟩
    case stop1 =>
      rintro D c pre x post W hD hxs h hK
      exact h.elim
    case done1 =>
      intro D W hD hT hK
      obtain ⟨hbel, q0, q1, q4⟩ := hT
      have hD1 : w.heap.size + 1 < D := by omega
      have hI : OneAt w (w.heap.size + 1) w2.heap.size r false 1 W := ⟨hbel, q0, q1, q4⟩
      have HI := hI
      clear hbel q0 q1 q4 h0 HQ'
      gi_wp2_with fail
      gi_loopw [8] (fun v wr => ∃ k : Nat, 1 ≤ k ∧ k ≤ S.size ∧ v = .int .i64 k ∧ OneAt w (w.heap.size + 1) w2.heap.size r false 1 wr ∧ wr.heap[D]? = some (.deferred (some []))) (fun v _ => S.size - (intOf v).toNat)
      case atStart => exact ⟨1, by omega, by omega, rfl, HI, hK⟩
      case round =>
        clear hI HI hK
        obtain ⟨k, hk1, hk2, rfl, hI, hK⟩ := hrel
        by_cases hks : k < S.size
        · obtain ⟨a1, a2, a3⟩ := HK.out k hk1 hks
          have x0 : (S.extract 0 k).data.toList = (encL r).take k := by rw [ext_list', HLS.out]
          have b1 : badF (S.extract 0 k) = (k : Int) := by rw [badF_run, x0, a1]
          have b2 : badF (S.extract 0 k ++ (⟨#[97]⟩ : ByteArray)) = (k : Int) := by rw [badF_run, ← a2]; congr 1; rw [← x0]; simp
          have b3 : badF (S.extract 0 k ++ S) = (k : Int) := by rw [badF_run, ← a3]; congr 1; rw [← x0, ← HLS.out]; simp
          have z0 : (S.extract 0 k).size = k := by simp; omega
          have B1 := Lib.hid (fun w1 => b1 ▸ bad_w (S.extract 0 k) (by omega) w1)
          have B2 := Lib.hid (fun w1 => b2 ▸ bad_w (S.extract 0 k ++ (⟨#[97]⟩ : ByteArray)) (by rw [ByteArray.size_append, z0]; show k + 1 ≤ _; omega) w1)
          have B3 := Lib.hid (fun w1 => b3 ▸ bad_w (S.extract 0 k ++ S) (by rw [ByteArray.size_append, z0]; omega) w1)
          have o2 : ¬ (9223372036854775807 < (S.extract 0 k).size + 1) := by omega
          have o3 : ¬ (9223372036854775807 < (S.extract 0 k).size + S.size) := by omega
          have t9 : decide ((k : Int) < (S.size : Int)) = true := by simp; omega
          have HZ0 := Lib.hid z0
          clear a1 a2 a3 x0 b1 b2 b3 z0
          gi_wp2_with fail
          refine ⟨trivial, ?_⟩
          refine (callsIn_wide.2 (B1.out _)).mono ?_; rintro e v1 ⟨rfl, u1⟩
          gi_wp2_with fail
          refine ⟨trivial, ?_⟩
          refine (callsIn_wide.2 (B2.out _)).mono ?_; rintro e v2 ⟨rfl, u2⟩
          gi_wp2_with fail
          refine ⟨trivial, ?_⟩
          refine (callsIn_wide.2 (B3.out _)).mono ?_; rintro e v3 ⟨rfl, u3⟩
          have hu := bthen (bthen u1 u2) u3
          have hlD := (Array.getElem?_eq_some_iff.1 hK).1
          have hI3 := oneAt_below hI (by omega) (by omega) (by omega) (hu.mono (B' := D) (by omega))
          have hK3 := (hu.block D hlD).trans hK
          clear u1 u2 u3 hu hI hK
          gi_wp2_with fail
          go_roundw
          case rel => exact ⟨k + 1, by omega, by omega, by go_num, hI3, hK3⟩
          case measure => simp [intOf]; omega
        · obtain rfl : k = S.size := by omega
          have t9 : decide ((S.size : Int) < (S.size : Int)) = false := by simp
          obtain ⟨hbel, q0, q1, q4⟩ := hI
          have c4 : wr.cell? ⟨w2.heap.size, 0, none⟩ = some (.int .i64 1) := Blk.cell q4 0
          have c1 : wr.cell? ⟨w.heap.size + 1, 0, none⟩ = some (.bool false) := Blk.cell q1 0
          have f1 := Blk.frozen q1 0
          gi_wp2_with fail
          have hK4 : (wr.setCell ⟨w.heap.size + 1, 0, none⟩ (.bool true)).heap[D]? = some (.deferred (some [])) := (Below.heap_setCell wr _ _ D (by show D ≠ w.heap.size + 1; omega)).trans hK
          refine ⟨by simp, .inl ⟨_, _, rfl, run_takeDeferred hK4, ?_⟩⟩
          have hr : ((wr.setCell ⟨w.heap.size + 1, 0, none⟩ (.bool true)).putObj D (Obj.deferred none)).cell? ⟨w.heap.size + 1, 0, none⟩ = some (.bool true) := by
            refine (World.cell?_of_block (World.putObj_heap_other (by show w.heap.size + 1 ≠ D; omega))).trans ?_
            exact Blk.cell (q1.set_ 0 (.bool true)) 0
          refine ⟨.bool true, by simp [results, Try.results20, go_sem, hr], rfl, ?_⟩
          exact (hbel.setCell (p := ⟨w.heap.size + 1, 0, none⟩) (by show w.heap.size ≤ w.heap.size + 1; omega) _).trans (below_putObj _ (by omega) hK4)
  · have t3 : decide (r ≥ 55296) = false := by simp; omega
    have t4 : decide (55296 ≤ r) = false := by simp; omega
    clear h5 t6
    gi_wp2_with fail
    refine ⟨trivial, ?_⟩
    refine (callsIn_wide.2 (HF.out _)).mono ?_; rintro e w1 ⟨rfl, hb1⟩
    have q0 := k0.below hb1 k0.lt
    have q1 := k1.below hb1 k1.lt
    have hbel1 := bthen hbel hb1
    have c0 : w1.cell? ⟨w.heap.size, 0, none⟩ = some (.int .i32 r) := Blk.cell q0 0
    clear hb1 k0 k1 hbel
    gi_wp2_with fail
    refine ⟨trivial, ?_⟩
    refine (callsIn_wide.2 (HS.out _)).mono ?_; rintro e w1' ⟨rfl, rfl⟩
    gi_wp2_with fail
    refine ⟨trivial, ?_⟩
    refine (callsIn_wide.2 (HB.out _)).mono ?_; rintro e w2 ⟨rfl, hb2⟩
    have p0 := q0.below hb2 q0.lt
    have p1 := q1.below hb2 q1.lt
    have hbel2 := bthen hbel1 hb2
    clear hb2 q0 q1 hbel1 c0
    gi_wp2_with fail
    refine ⟨trivial, ?_⟩
    have r0 : Blk (w2.alloc (.cells #[.int .i64 0] 3)) w.heap.size 21 #[.int .i32 r] := p0.alloc _
    have r1 : Blk (w2.alloc (.cells #[.int .i64 0] 3)) (w.heap.size + 1) 4 #[.bool false] := p1.alloc _
    have r4 : Blk (w2.alloc (.cells #[.int .i64 0] 3)) w2.heap.size 3 #[.int .i64 0] := Blk.new w2 _ _
    have hbel3 : Below w.heap.size w (w2.alloc (.cells #[.int .i64 0] 3)) := hbel2.alloc hbel2.size _
    have hl1 : w.heap.size + 1 < w2.heap.size := p1.lt
    have hl2 : w2.heap.size < (w2.alloc (.cells #[.int .i64 0] 3)).heap.size := r4.lt
    clear p0 p1 hbel2
    generalize w2.alloc (.cells #[.int .i64 0] 3) = w3 at *
    refine (callsIn_wide.2 (runes_w S w3)).mono ?_; rintro e w4 ⟨rfl, hk, hb4, hz4⟩
    have h0 : OneAt w (w.heap.size + 1) w2.heap.size r false 0 w4 := ⟨bthen hbel3 hb4, r0.below hb4 r0.lt, r1.below hb4 r1.lt, r4.below hb4 r4.lt⟩
    have hl3 : w3.heap.size < w4.heap.size := by omega
    have HQ' := HQ.out w3.heap.size w4 hk
    clear r0 r1 r4 hbel3 hz4 hb4 hk
    gi_wp2_with fail
    refine wpIn_rangeFunc_C rfl (by omega) (gf := 23) (lb := #[.pointer (some ⟨w3.heap.size, 0, none⟩)]) rfl trivial (enters_of Try.func23 (by kernel_rfl) rfl)
      (HQ' _) (by omega) (Below.refl _ _) (fun _ => rfl)
      (fun pre W => OneAt w (w.heap.size + 1) w2.heap.size r false (pre.length : Int) W)
      (fun c pre W => False)
      (fun pre W W' h hb => oneAt_below h (by omega) (by omega) (by omega) hb)
      (fun c pre W W' h hb => h)
      h0
      (fun x => { tmps := #[.int .i32 r, .pointer (some ⟨w.heap.size, 0, none⟩), .pointer (some ⟨w.heap.size + 1, 0, none⟩), .string S, .pointer (some ⟨w2.heap.size, 0, none⟩), .func (.func 23) #[] #[.pointer (some ⟨w3.heap.size, 0, none⟩)], .int .i64 (x.1 : Int), .int .i32 x.2, undef, .int .i32 r, .bool false, .bool false, .int .i32 r, .bool false, .bool false, .bool false, .int .i32 r, .bool false, .bool false, undef, undef, .bool false, .bool false, undef, undef, undef, .int .i32 r, .string S, .int .i32 r, .int .i64 (S.size : Int), .string S, .int .i64 (S.size : Int), .bool false, .bool false, .string S, .int .i64 (-1), .bool false, .bool false, .string S, .func (.func 23) #[] #[.pointer (some ⟨w3.heap.size, 0, none⟩)], .func (.func 23) #[] #[.pointer (some ⟨w3.heap.size, 0, none⟩)], .bool false, .func (.func 23) #[] #[.pointer (some ⟨w3.heap.size, 0, none⟩)], .int .i64 (x.1 : Int), .int .i32 x.2, undef, undef, undef, undef, undef, undef, undef, undef, undef, undef, undef, undef, undef, undef, undef, undef, undef, undef, undef, undef, undef, undef, undef, undef, undef, undef, undef, undef, undef, undef, undef, undef, undef, undef, undef, undef, undef, undef, undef, undef, undef, undef], defers := [] }) ?assign2 ?body2 ?done2 ?stop2
    case assign2 =>
      intro l x W K hK
      simp only [encR]
      gi_wp2
      exact hK
    case body2 =>
      intro l pre x post W hxs hT hlW
      obtain ⟨rfl, rfl, rfl⟩ : pre = [] ∧ x = (0, r) ∧ post = [] := by
        cases pre with
        | nil => simp at hxs; exact ⟨rfl, hxs.1.symm, hxs.2⟩
        | cons y pre => simp at hxs
      obtain ⟨hbel, q0, q1, q4⟩ := hT
      have c0 : W.cell? ⟨w.heap.size, 0, none⟩ = some (.int .i32 r) := Blk.cell q0 0
      have c4 : W.cell? ⟨w2.heap.size, 0, none⟩ = some (.int .i64 0) := Blk.cell q4 0
      have f4 := Blk.frozen q4 0
      clear hxs
      gi_wp2_with fail
      refine ⟨Stays.setCell W _ _ (by show w2.heap.size < _; omega) (by show w2.heap.size ≠ _; omega), hbel.setCell (p := ⟨w2.heap.size, 0, none⟩) (by show w.heap.size ≤ w2.heap.size; omega) _, q0.far (by show w.heap.size ≠ w2.heap.size; omega) _, q1.far (by show w.heap.size + 1 ≠ w2.heap.size; omega) _, q4.set_ 0 _⟩
    case stop2 =>
      rintro D c pre x post W hD hxs h hK
      exact h.elim
    case done2 =>
      intro D W hD hT hK
      obtain ⟨hbel, q0, q1, q4⟩ := hT
      have hD1 : w.heap.size + 1 < D := by omega
      have hI : OneAt w (w.heap.size + 1) w2.heap.size r false 1 W := ⟨hbel, q0, q1, q4⟩
      have HI := hI
      clear hbel q0 q1 q4 h0 HQ'
      gi_wp2_with fail
      gi_loopw [8] (fun v wr => ∃ k : Nat, 1 ≤ k ∧ k ≤ S.size ∧ v = .int .i64 k ∧ OneAt w (w.heap.size + 1) w2.heap.size r false 1 wr ∧ wr.heap[D]? = some (.deferred (some []))) (fun v _ => S.size - (intOf v).toNat)
      case atStart => exact ⟨1, by omega, by omega, rfl, HI, hK⟩
      case round =>
        clear hI HI hK
        obtain ⟨k, hk1, hk2, rfl, hI, hK⟩ := hrel
        by_cases hks : k < S.size
        · obtain ⟨a1, a2, a3⟩ := HK.out k hk1 hks
          have x0 : (S.extract 0 k).data.toList = (encL r).take k := by rw [ext_list', HLS.out]
          have b1 : badF (S.extract 0 k) = (k : Int) := by rw [badF_run, x0, a1]
          have b2 : badF (S.extract 0 k ++ (⟨#[97]⟩ : ByteArray)) = (k : Int) := by rw [badF_run, ← a2]; congr 1; rw [← x0]; simp
          have b3 : badF (S.extract 0 k ++ S) = (k : Int) := by rw [badF_run, ← a3]; congr 1; rw [← x0, ← HLS.out]; simp
          have z0 : (S.extract 0 k).size = k := by simp; omega
          have B1 := Lib.hid (fun w1 => b1 ▸ bad_w (S.extract 0 k) (by omega) w1)
          have B2 := Lib.hid (fun w1 => b2 ▸ bad_w (S.extract 0 k ++ (⟨#[97]⟩ : ByteArray)) (by rw [ByteArray.size_append, z0]; show k + 1 ≤ _; omega) w1)
          have B3 := Lib.hid (fun w1 => b3 ▸ bad_w (S.extract 0 k ++ S) (by rw [ByteArray.size_append, z0]; omega) w1)
          have o2 : ¬ (9223372036854775807 < (S.extract 0 k).size + 1) := by omega
          have o3 : ¬ (9223372036854775807 < (S.extract 0 k).size + S.size) := by omega
          have t9 : decide ((k : Int) < (S.size : Int)) = true := by simp; omega
          have HZ0 := Lib.hid z0
          clear a1 a2 a3 x0 b1 b2 b3 z0
          gi_wp2_with fail
          refine ⟨trivial, ?_⟩
          refine (callsIn_wide.2 (B1.out _)).mono ?_; rintro e v1 ⟨rfl, u1⟩
          gi_wp2_with fail
          refine ⟨trivial, ?_⟩
          refine (callsIn_wide.2 (B2.out _)).mono ?_; rintro e v2 ⟨rfl, u2⟩
          gi_wp2_with fail
          refine ⟨trivial, ?_⟩
          refine (callsIn_wide.2 (B3.out _)).mono ?_; rintro e v3 ⟨rfl, u3⟩
          have hu := bthen (bthen u1 u2) u3
          have hlD := (Array.getElem?_eq_some_iff.1 hK).1
          have hI3 := oneAt_below hI (by omega) (by omega) (by omega) (hu.mono (B' := D) (by omega))
          have hK3 := (hu.block D hlD).trans hK
          clear u1 u2 u3 hu hI hK
          gi_wp2_with fail
          go_roundw
          case rel => exact ⟨k + 1, by omega, by omega, by go_num, hI3, hK3⟩
          case measure => simp [intOf]; omega
        · obtain rfl : k = S.size := by omega
          have t9 : decide ((S.size : Int) < (S.size : Int)) = false := by simp
          obtain ⟨hbel, q0, q1, q4⟩ := hI
          have c4 : wr.cell? ⟨w2.heap.size, 0, none⟩ = some (.int .i64 1) := Blk.cell q4 0
          have c1 : wr.cell? ⟨w.heap.size + 1, 0, none⟩ = some (.bool false) := Blk.cell q1 0
          have f1 := Blk.frozen q1 0
          gi_wp2_with fail
          have hK4 : (wr.setCell ⟨w.heap.size + 1, 0, none⟩ (.bool true)).heap[D]? = some (.deferred (some [])) := (Below.heap_setCell wr _ _ D (by show D ≠ w.heap.size + 1; omega)).trans hK
          refine ⟨by simp, .inl ⟨_, _, rfl, run_takeDeferred hK4, ?_⟩⟩
          have hr : ((wr.setCell ⟨w.heap.size + 1, 0, none⟩ (.bool true)).putObj D (Obj.deferred none)).cell? ⟨w.heap.size + 1, 0, none⟩ = some (.bool true) := by
            refine (World.cell?_of_block (World.putObj_heap_other (by show w.heap.size + 1 ≠ D; omega))).trans ?_
            exact Blk.cell (q1.set_ 0 (.bool true)) 0
          refine ⟨.bool true, by simp [results, Try.results20, go_sem, hr], rfl, ?_⟩
          exact (hbel.setCell (p := ⟨w.heap.size + 1, 0, none⟩) (by show w.heap.size ≤ w.heap.size + 1; omega) _).trans (below_putObj _ (by omega) hK4)
end Go.Proofs.Ytpdglihihpopeaa.Utf
