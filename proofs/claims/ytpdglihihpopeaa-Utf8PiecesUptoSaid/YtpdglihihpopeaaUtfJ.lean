/- The law Utf8Pieces: its walk. -/
import Derived.Test.YtpdglihihpopeaaUtfK
import Derived.Test.YtpdglihihpopeaaUtfM
import Derived.Lib.AppendStr
import Derived.Laws.IdiomStrings
import Derived.Laws.BytesArg
import Derived.WalkSpells
namespace Go.Proofs.Ytpdglihihpopeaa.Utf
set_option linter.unusedVariables false
set_option linter.unusedSimpArgs false
open Go.RowKit Go.Proofs.Ytpdglihihpopeaa.Mem

def New (w : World) (e : Ending) (w' : World) : Prop := e = .returned (.pointer (some ⟨w.heap.size, 0, none⟩)) ∧ (∃ T, ScAt w' w.heap.size T sc0) ∧ Below w.heap.size w w' ∧ w'.heap.size = w.heap.size + 1
set_option maxHeartbeats 1000000 in
theorem new_w (w : World) : Calls Try.prog 14 #[] w (New w) := by
  go_enter Try.func14, Try.ntmps14
  go_wp2_with fail
  go_ret
  exact ⟨rfl, ⟨_, Blk.new w _ _⟩, (Below.refl _ w).alloc (Nat.le_refl _) _, by simp⟩
def byteVals (l : List UInt8) : List Value := l.map fun b => Value.int .u8 (b.toNat : Int)
theorem conv_own (w : World) (base : Nat) (v : Value) (n : Nat) (l : List UInt8) (h : w.ownsRow base 5 1 v n (byteVals l)) :
    (convert 36 9 v).run Try.prog w = .ok (.string ⟨l.toArray⟩) w := by
  have hl : l.length = n := by have := h.1; simpa [byteVals] using this
  rcases h.2 with ⟨rfl, rfl⟩ | ⟨g, cap, cur, rfl, -⟩
  · have : l = [] := List.eq_nil_of_length_eq_zero hl
    subst this
    rw [run_convert_bytes_string w 36 9 5 none 0 0 Try.underlying36 Try.underlying5 Try.underlying9]
    rfl
  · subst hl
    exact run_convert_bytes_back (P := Try.prog) w 36 9 5 ⟨g, 0, none⟩ cap l Try.underlying36 Try.underlying5 Try.underlying9 (by
      intro j hj
      exact h.cells (g := g) rfl j _ (by simp [byteVals, hj]))
theorem row_form {w : World} {base : Nat} {e : TypeId} {size : Nat} {v : Value} {n : Nat} {xs : List Value} (h : w.ownsRow base e size v n xs) : ∃ p cap, v = .slice p n cap := by
  rcases h.2 with ⟨rfl, rfl⟩ | ⟨g, cap, cur, rfl, -⟩
  · exact ⟨_, _, rfl⟩
  · exact ⟨_, _, rfl⟩
theorem row_below {w w' : World} {base : Nat} {e : TypeId} {size : Nat} {v : Value} {n : Nat} {xs : List Value} (h : w.ownsRow base e size v n xs) (hb : Below w.heap.size w w') : w'.ownsRow base e size v n xs :=
  h.kept (row := none) ⟨hb.os, hb.tape, hb.output, hb.size, fun k hk _ => hb.block k hk⟩ (by cases v.ownBlock <;> simp)
theorem row_only {w w' : World} {base g : Nat} {e : TypeId} {size : Nat} {v : Value} {n : Nat} {xs : List Value} (h : w.ownsRow base e size v n xs) (hb : Only g w w') (hg : g < base) : w'.ownsRow base e size v n xs :=
  h.kept hb (.inr fun he => by have := (h.lt g he).1; omega)
theorem sc_low {w w' : World} {b : Nat} {T : TypeId} {c : Sc} (h : ScAt w b T c) (hb : Below (b + 1) w w') : ScAt w' b T c := Blk.below h hb (by omega)
set_option maxHeartbeats 4000000 in
set_option maxRecDepth 100000 in
theorem pieces (a0 : Option Addr) (cap : Nat) (ss : List ByteArray) (hn : ss.length ≤ 1048576) (hc : (cat ss ss.length).length ≤ 1048576) (w : World)
    (ha : ss ≠ [] → ∃ b off, a0 = some ⟨b, off, none⟩ ∧ b < w.heap.size ∧ ∀ i, i < ss.length → w.cell? ⟨b, off + i, none⟩ = some (.string (ss.getD i ByteArray.empty))) :
    Calls Try.prog 5 #[.slice a0 ss.length cap] w fun e w' => e = .returned (.bool true) ∧ Below w.heap.size w w' := by
  have b1 : badF ⟨#[255]⟩ = 0 := by decide
  have HB1 := Lib.hid (fun w1 => b1 ▸ bad_w ⟨#[255]⟩ (by decide) w1)
  clear b1
  go_enter Try.func5, Try.ntmps5
  go_wp2_with fail
  refine (new_w _).mono ?_; rintro e w1 ⟨rfl, ⟨T, hsc⟩, hb1, hz1⟩
  go_wp2_with fail
  refine (HB1.out _).mono ?_; rintro e w2 ⟨rfl, hb2⟩
  go_wp2_with fail
  have hP : w.heap.size < w2.heap.size := by have := hb2.size; omega
  have hsc2 : ScAt w2 w.heap.size T sc0 := hsc.below hb2 (by omega)
  have hB := bthen hb1 hb2
  clear hsc hb1 hb2 hz1 HB1
  obtain ⟨i0, hi, hz0, hz1, hz2⟩ := info_parts u8_info
  go_loopw [4, 5, 6, 7] (fun v e wk i wr => ∃ (k m cp : Nat) (p : Option Addr), k ≤ ss.length ∧ v = .slice p (cat ss k).length cp ∧ i = .int .i64 k ∧ e = .bool (good ss k) ∧ m ≤ k * 1048576 ∧ wk = .int .i64 m ∧ wr.ownsRow (w.heap.size + 1) 5 1 (.slice p (cat ss k).length cp) (cat ss k).length (byteVals (cat ss k)) ∧ ScAt wr w.heap.size T (runL sc0 (cat ss k)) ∧ Below w.heap.size w wr) (fun _ _ _ i _ => ss.length - (intOf i).toNat)
  case atStart => exact ⟨0, 0, 0, none, by omega, rfl, rfl, rfl, by omega, rfl, World.ownsRow_nil _ _ _ _, hsc2, hB⟩
  case round =>
    obtain ⟨k, m, cp, p, hk, rfl, rfl, rfl, hm, rfl, hown, hat, hbel⟩ := hrel
    have hsz := hbel.size
    have hwr : w.heap.size < wr.heap.size := Blk.lt hat
    by_cases hlt : k < ss.length
    · obtain ⟨b, off, rfl, hbw, hcell⟩ := ha (by intro e; rw [e] at hlt; simp at hlt)
      have hc0 : wr.cell? ⟨b, off + k, none⟩ = some (.string (ss.getD k ByteArray.empty)) := (hbel.cell (p := ⟨b, off + k, none⟩) hbw).trans (hcell k hlt)
      have HC := Lib.hid (cat_succ ss k hlt)
      have HG := Lib.hid (good_succ ss k hlt)
      have hle := cat_le ss (k + 1) (by omega)
      generalize ss.getD k ByteArray.empty = S at *
      have hS : (cat ss k).length + S.size ≤ 1048576 := by
        have := congrArg List.length HC.out
        simp at this
        omega
      have HLE := Lib.hid hle; clear hle
      have HCE := Lib.hid hcell; clear hcell
      have HF := Lib.hid (fun (w1 : World) (h1 : ScAt w1 w.heap.size T (runL sc0 (cat ss k))) => feed_w w.heap.size T S (by omega) (runL sc0 (cat ss k)) (run_ok _ ok0) (by have := run_came (cat ss k); omega) w1 h1)
      have hup : upF S (runL sc0 (cat ss k)) S.size = runL sc0 (cat ss (k + 1)) := by rw [up_all, HC.out, run_app]
      rw [hup] at HF
      clear hup
      have hlen1 : (cat ss (k + 1)).length = (cat ss k).length + S.size := by rw [HC.out]; simp
      have HL := Lib.hid hlen1; clear hlen1
      have HBS := Lib.hid (fun w1 => bad_w S (by omega) w1)
      have HX := Lib.hid (fun w1 => bad_w ⟨(cat ss (k + 1)).toArray⟩ (by have := HL.out; simp [ByteArray.size]; omega) w1)
      have hbx : badF ⟨(cat ss (k + 1)).toArray⟩ = badL (cat ss (k + 1)) := by rw [badF_run]
      rw [hbx] at HX
      clear hbx ha
      have HFI := Lib.hid (fed_is (cat ss (k + 1)))
      have HEN := Lib.hid (show endF (runL sc0 (cat ss (k + 1))) = badL (cat ss (k + 1)) from rfl)
      rw [HL.out] at HFI
      have hwk : m + ((cat ss k).length + S.size) ≤ (k + 1) * 1048576 := by omega
      generalize hC1 : runL sc0 (cat ss (k + 1)) = c1 at *
      generalize badL (cat ss (k + 1)) = bd at *
      have t0 : decide ((k : Int) < (ss.length : Int)) = true := by simp; omega
      have HM : Hid (m ≤ k * 1048576) := hm
      clear hm
      have hm' : (m : Int) + ((cat ss k).length + S.size : Int) ≤ 4611686018427387904 := by omega
      have hstep : byteVals (cat ss k) ++ Lib.strCells S = byteVals (cat ss (k + 1)) := by rw [HC.out]; simp [byteVals, Lib.strCells]
      have HST := Lib.hid hstep; clear hstep
      generalize hn1 : (cat ss k).length = n1 at *
      have HN1 := Lib.hid hn1; clear hn1
      have HC1 := Lib.hid hC1; clear hC1
      cases hg : good ss k with
      | false =>
        have HGG := Lib.hid hg; clear hg
        go_wp2_with (at_builtin; refine Lib.wpList_append_own_string _ rfl _ _ 36 9 rfl (w.heap.size + 1) 5 i0 Try.underlying36 Try.underlying9 hi hz0 hz1 hz2 _ _ _ rfl hown S rfl (by unfold maxLen; omega) (by omega) (by omega) ?_; intro v' w3 hown3 hgr3 _; obtain ⟨p', cp', rfl⟩ := row_form hown3; have hb3 : Below (w.heap.size + 1) wr w3 := (Below.refl _ wr).grown hgr3 (by omega) (fun j e => (hown.lt j e).1); have hc3 : World.cell? w3 ⟨b, off + k, none⟩ = some (.string S) := (hb3.cell (p := ⟨b, off + k, none⟩) (by show b < _; omega)).trans hc0; have hat3 := sc_low hat hb3; have HB3 := Lib.hid hb3; clear hb3 hgr3)
        refine (HF.out _ hat3).mono ?_; rintro e w4 ⟨rfl, hat4, hon4⟩
        have hown4 := row_only hown3 hon4 (by omega)
        rw [HST.out] at hown4
        have hb4 : Below w.heap.size w w4 := (hbel.trans (HB3.out.mono (by omega))).trans (hon4.below (Nat.le_refl _) (Nat.le_trans hsz HB3.out.size))
        have HB4 := Lib.hid hb4
        have hcv := conv_own w4 _ _ _ _ hown4
        clear hown3 hat3 hc3 HB3 hon4 hb4
        have rel : ∀ w5, Below w4.heap.size w4 w5 → ∃ (k' m' cp1 : Nat) (p1 : Option Addr), k' ≤ ss.length ∧ Value.slice p' (n1 + S.size) cp' = .slice p1 (cat ss k').length cp1 ∧ Value.int .i64 ((k : Int) + 1) = .int .i64 k' ∧ Value.bool false = .bool (good ss k') ∧ m' ≤ k' * 1048576 ∧ Value.int .i64 ((m : Int) + ((n1 : Int) + (S.size : Int))) = .int .i64 m' ∧ w5.ownsRow (w.heap.size + 1) 5 1 (.slice p1 (cat ss k').length cp1) (cat ss k').length (byteVals (cat ss k')) ∧ ScAt w5 w.heap.size T (runL sc0 (cat ss k')) ∧ Below w.heap.size w w5 := fun w5 hb5 => by
          refine ⟨k + 1, m + (n1 + S.size), cp', p', by omega, by rw [HL.out], by congr 1, ?_, by omega, by congr 1, ?_, ?_, bthen HB4.out hb5⟩
          · rw [HG.out, HGG.out]; rfl
          · rw [HL.out]; exact row_below hown4 hb5
          · rw [HC1.out]; exact hat4.below hb5 hat4.lt
        have REL := Lib.hid rel; clear rel
        have HE := Lib.hid (fun w5 (h5 : ScAt w5 w.heap.size T c1) => HEN.out ▸ endScan_w w.heap.size T c1 w5 h5)
        have fin : ((bd == -1) = true ∧ c1.bad = false) ∨ ((bd == -1) = false ∧ (bd == (n1 : Int) + (S.size : Int)) = true ∧ c1.bad = false) ∨ ((bd == -1) = false ∧ (bd == (n1 : Int) + (S.size : Int)) = false ∧ c1.bad = true) := by
          have h := HFI.out
          rw [show (((n1 + S.size : Nat) : Nat) : Int) = (n1 : Int) + (S.size : Int) by omega] at h
          cases h1 : (bd == -1) <;> cases h2 : (bd == (n1 : Int) + (S.size : Int)) <;> cases h3 : c1.bad <;> simp_all
        have FIN := Lib.hid fin; clear fin
        by_cases hmost : 4194304 < (m : Int) + ((n1 : Int) + (S.size : Int))
        · have t1 : decide ((m : Int) + ((n1 : Int) + (S.size : Int)) > 4194304) = true := by simp; omega
          go_wp2_with fail
          go_roundw
          case rel => exact REL.out _ (Below.refl _ _)
          case measure => simp [intOf]; omega
        · have t1 : decide ((m : Int) + ((n1 : Int) + (S.size : Int)) > 4194304) = false := by simp; omega
          go_wp2_with fail
          refine (HX.out _).mono ?_; rintro e w5 ⟨rfl, hb5⟩
          have hat5 : ScAt w5 w.heap.size T c1 := hat4.below hb5 hat4.lt
          have HB5 := Lib.hid hb5; clear hb5
          rcases FIN.out with ⟨a1, a2⟩ | ⟨a1, a2, a3⟩ | ⟨a1, a2, a3⟩
          all_goals
            go_wp2_with fail
            refine (HE.out _ hat5).mono ?_; rintro e w6 ⟨rfl, rfl⟩
            go_wp2_with fail
            go_roundw
            case rel => exact REL.out _ HB5.out
            case measure => simp [intOf]; omega
      | true =>
        have HGG := Lib.hid hg; clear hg
        go_wp2_with (at_builtin; refine Lib.wpList_append_own_string _ rfl _ _ 36 9 rfl (w.heap.size + 1) 5 i0 Try.underlying36 Try.underlying9 hi hz0 hz1 hz2 _ _ _ rfl hown S rfl (by unfold maxLen; omega) (by omega) (by omega) ?_; intro v' w30 hown3 hgr3 _; obtain ⟨p', cp', rfl⟩ := row_form hown3; have hb3 : Below (w.heap.size + 1) wr w30 := (Below.refl _ wr).grown hgr3 (by omega) (fun j e => (hown.lt j e).1); have hc3 : World.cell? w30 ⟨b, off + k, none⟩ = some (.string S) := (hb3.cell (p := ⟨b, off + k, none⟩) (by show b < _; omega)).trans hc0; have hat3 := sc_low hat hb3; have HB3 := Lib.hid hb3; clear hb3 hgr3)
        refine (HBS.out _).mono ?_; rintro e w3 ⟨rfl, hbs⟩
        replace hown3 := row_below hown3 hbs
        replace hc3 : w3.cell? ⟨b, off + k, none⟩ = some (.string S) := (hbs.cell (p := ⟨b, off + k, none⟩) (World.block_lt_of_cell? _ _ hc3)).trans hc3
        replace hat3 : ScAt w3 w.heap.size T _ := hat3.below hbs hat3.lt
        replace HB3 := Lib.hid (HB3.out.trans (hbs.mono (Nat.le_trans hwr HB3.out.size)))
        clear hbs
        go_wp2_with fail
        refine (HF.out _ hat3).mono ?_; rintro e w4 ⟨rfl, hat4, hon4⟩
        have hown4 := row_only hown3 hon4 (by omega)
        rw [HST.out] at hown4
        have hb4 : Below w.heap.size w w4 := (hbel.trans (HB3.out.mono (by omega))).trans (hon4.below (Nat.le_refl _) (Nat.le_trans hsz HB3.out.size))
        have HB4 := Lib.hid hb4
        have hcv := conv_own w4 _ _ _ _ hown4
        clear hown3 hat3 hc3 HB3 hon4 hb4
        have rel : ∀ w5, Below w4.heap.size w4 w5 → ∃ (k' m' cp1 : Nat) (p1 : Option Addr), k' ≤ ss.length ∧ Value.slice p' (n1 + S.size) cp' = .slice p1 (cat ss k').length cp1 ∧ Value.int .i64 ((k : Int) + 1) = .int .i64 k' ∧ Value.bool (badF S == -1) = .bool (good ss k') ∧ m' ≤ k' * 1048576 ∧ Value.int .i64 ((m : Int) + ((n1 : Int) + (S.size : Int))) = .int .i64 m' ∧ w5.ownsRow (w.heap.size + 1) 5 1 (.slice p1 (cat ss k').length cp1) (cat ss k').length (byteVals (cat ss k')) ∧ ScAt w5 w.heap.size T (runL sc0 (cat ss k')) ∧ Below w.heap.size w w5 := fun w5 hb5 => by
          refine ⟨k + 1, m + (n1 + S.size), cp', p', by omega, by rw [HL.out], by congr 1, ?_, by omega, by congr 1, ?_, ?_, bthen HB4.out hb5⟩
          · rw [HG.out, HGG.out, badF_run]; rfl
          · rw [HL.out]; exact row_below hown4 hb5
          · rw [HC1.out]; exact hat4.below hb5 hat4.lt
        have REL := Lib.hid rel; clear rel
        have HE := Lib.hid (fun w5 (h5 : ScAt w5 w.heap.size T c1) => HEN.out ▸ endScan_w w.heap.size T c1 w5 h5)
        have fin : ((bd == -1) = true ∧ c1.bad = false) ∨ ((bd == -1) = false ∧ (bd == (n1 : Int) + (S.size : Int)) = true ∧ c1.bad = false) ∨ ((bd == -1) = false ∧ (bd == (n1 : Int) + (S.size : Int)) = false ∧ c1.bad = true) := by
          have h := HFI.out
          rw [show (((n1 + S.size : Nat) : Nat) : Int) = (n1 : Int) + (S.size : Int) by omega] at h
          cases h1 : (bd == -1) <;> cases h2 : (bd == (n1 : Int) + (S.size : Int)) <;> cases h3 : c1.bad <;> simp_all
        have FIN := Lib.hid fin; clear fin
        by_cases hmost : 4194304 < (m : Int) + ((n1 : Int) + (S.size : Int))
        · have t1 : decide ((m : Int) + ((n1 : Int) + (S.size : Int)) > 4194304) = true := by simp; omega
          go_wp2_with fail
          go_roundw
          case rel => exact REL.out _ (Below.refl _ _)
          case measure => simp [intOf]; omega
        · have t1 : decide ((m : Int) + ((n1 : Int) + (S.size : Int)) > 4194304) = false := by simp; omega
          go_wp2_with fail
          refine (HX.out _).mono ?_; rintro e w5 ⟨rfl, hb5⟩
          have hat5 : ScAt w5 w.heap.size T c1 := hat4.below hb5 hat4.lt
          have HB5 := Lib.hid hb5; clear hb5
          rcases FIN.out with ⟨a1, a2⟩ | ⟨a1, a2, a3⟩ | ⟨a1, a2, a3⟩
          all_goals
            go_wp2_with fail
            refine (HE.out _ hat5).mono ?_; rintro e w6 ⟨rfl, rfl⟩
            go_wp2_with fail
            go_roundw
            case rel => exact REL.out _ HB5.out
            case measure => simp [intOf]; omega
    · obtain rfl : k = ss.length := by omega
      have hcv := conv_own wr _ _ _ _ hown
      have HX := Lib.hid (fun w1 => bad_w ⟨(cat ss ss.length).toArray⟩ (by simp [ByteArray.size]; omega) w1)
      have hbx : badF ⟨(cat ss ss.length).toArray⟩ = badL (cat ss ss.length) := by rw [badF_run]
      rw [hbx] at HX
      clear hbx ha hm
      have HE := Lib.hid (fun w5 (h5 : ScAt w5 w.heap.size T (runL sc0 (cat ss ss.length))) => (show endF (runL sc0 (cat ss ss.length)) = badL (cat ss ss.length) from rfl) ▸ endScan_w w.heap.size T (runL sc0 (cat ss ss.length)) w5 h5)
      have hfin : good ss ss.length = true → badL (cat ss ss.length) = -1 := good_all ss ss.length (Nat.le_refl _)
      generalize badL (cat ss ss.length) = bd at *
      have t0 : decide ((ss.length : Int) < (ss.length : Int)) = false := by simp
      cases hg : good ss ss.length with
      | false =>
        clear hfin
        go_wp2_with fail
        refine (HX.out _).mono ?_; rintro e w5 ⟨rfl, hb5⟩
        have hat5 : ScAt w5 w.heap.size T _ := hat.below hb5 hat.lt
        go_wp2_with fail
        refine (HE.out _ hat5).mono ?_; rintro e w6 ⟨rfl, rfl⟩
        go_wp2_with fail
        go_ret
        exact ⟨rfl, bthen hbel hb5⟩
      | true =>
        have t1 : (bd == -1) = true := by simpa using hfin hg
        clear hfin
        go_wp2_with fail
        refine (HX.out _).mono ?_; rintro e w5 ⟨rfl, hb5⟩
        have hat5 : ScAt w5 w.heap.size T _ := hat.below hb5 hat.lt
        go_wp2_with fail
        refine (HE.out _ hat5).mono ?_; rintro e w6 ⟨rfl, rfl⟩
        go_wp2_with fail
        go_ret
        exact ⟨rfl, bthen hbel hb5⟩
end Go.Proofs.Ytpdglihihpopeaa.Utf
