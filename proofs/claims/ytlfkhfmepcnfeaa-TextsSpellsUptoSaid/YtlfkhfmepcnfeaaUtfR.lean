/- The iterator of utf8.Runes: its contract. -/
import Derived.Test.YtlfkhfmepcnfeaaUtfK
import Derived.Test.YtlfkhfmepcnfeaaIter
namespace Go.Proofs.Ytlfkhfmepcnfeaa.Utf
set_option linter.unusedVariables false
set_option linter.unusedSimpArgs false
open Go.RowKit Go.Proofs.Ytlfkhfmepcnfeaa.Mem Go.Proofs.Ytlfkhfmepcnfeaa.Iter

attribute [local go_sem] Oper.semAt_some
/-- The characters of a row of bytes, where each begins; up to where it is bad. -/
def runesF (st : St) (from_ i : Nat) : List UInt8 → List (Nat × Int)
  | [] => []
  | x :: l =>
    if (stepF st (x.toNat : Int)).1 = true then
      if (stepF st (x.toNat : Int)).2.want = 0 then (from_, (stepF st (x.toNat : Int)).2.ch) :: runesF (stepF st (x.toNat : Int)).2 (i + 1) (i + 1) l
      else runesF (stepF st (x.toNat : Int)).2 from_ (i + 1) l
    else []
theorem runesF_len : ∀ (l : List UInt8) (st : St) (a b : Nat), (runesF st a b l).length ≤ l.length
  | [], _, _, _ => by simp [runesF]
  | x :: l, st, a, b => by
    unfold runesF
    have h1 := runesF_len l (stepF st (x.toNat : Int)).2 (b + 1) (b + 1)
    have h2 := runesF_len l (stepF st (x.toNat : Int)).2 a (b + 1)
    repeat' split
    all_goals (try simp only [List.length_cons, List.length_nil])
    all_goals omega
def runesL (l : List UInt8) : List (Nat × Int) := runesF st0 0 0 l
def encR (x : Nat × Int) : Array Value := #[.int .i64 (x.1 : Int), .int .i32 x.2]
set_option maxHeartbeats 4000000 in
set_option maxRecDepth 100000 in
theorem runes_seq (s : ByteArray) (hs : s.size ≤ 140737488351232) (kb : Nat) (w : World) (hk : w.cell? ⟨kb, 0, none⟩ = some (.string s)) (n : Nat) :
    SeqC Fence.wide n Try.prog 39 #[.pointer (some ⟨kb, 0, none⟩)] encR (runesL s.data.toList) kb w := by
  intro l J Jx W hW hJ hJx hY h0
  have hkb : kb < w.heap.size := World.block_lt_of_cell? _ _ hk
  have hkW : W.cell? ⟨kb, 0, none⟩ = some (.string s) := (hW.cell (p := ⟨kb, 0, none⟩) hkb).trans hk
  refine callsIn_of_wp Try.func39 rfl trivial ?_ rfl
  simp only [Try.ntmps39, List.size_toArray, List.length_cons, List.length_nil, Nat.reduceAdd, Nat.reduceSub, Array.replicate_succ, Array.replicate_zero, List.push_toArray, List.append_toArray, List.nil_append, List.cons_append]
  have hkbW : kb < W.heap.size := Nat.lt_of_lt_of_le hkb hW.size
  gi_wp2_with fail
  have hat0 : At (W.alloc (.cells #[.int .i64 0, .int .u8 0, .int .u8 0, .int .i32 0] 64)) W.heap.size 64 st0 [] := Blk.new W _ _
  have hJ0 := hJ _ _ _ h0 ((Below.refl W.heap.size W).alloc (Nat.le_refl _) (.cells #[.int .i64 0, .int .u8 0, .int .u8 0, .int .i32 0] 64))
  have hk0 : (W.alloc (.cells #[.int .i64 0, .int .u8 0, .int .u8 0, .int .i32 0] 64)).cell? ⟨kb, 0, none⟩ = some (.string s) := by
    rw [World.cell?_of_block (Below.heap_alloc W _ kb hkbW)]; exact hkW
  gi_loopw [4, 8] (fun f i wr => ∃ (k m : Nat) (st : St) (pre : List (Nat × Int)), k ≤ s.size ∧ m ≤ k ∧ i = .int .i64 k ∧ f = .int .i64 m ∧ At wr W.heap.size 64 st [] ∧ Ok st ∧ Hid (runesL s.data.toList = pre ++ runesF st m k (s.data.toList.drop k)) ∧ J pre wr ∧ wr.cell? ⟨kb, 0, none⟩ = some (.string s)) (fun _ i _ => s.size - (intOf i).toNat)
  case atStart => exact ⟨0, 0, st0, [], by omega, by omega, rfl, rfl, hat0, ok0, by show runesL s.data.toList = _; simp [runesL], hJ0, hk0⟩
  case round =>
    clear hat0 hJ0 hk0
    obtain ⟨k, m, st, pre, hk, hm, rfl, rfl, hat, hok, hR, hj, hkc⟩ := hrel
    have hlt := hat.lt
    by_cases hkl : k < s.size
    · have t0 : decide ((k : Int) < (s.size : Int)) = true := by simp; omega
      have hgk := get_eq s k hkl
      have hkl' : k < s.data.toList.length := by simpa using hkl
      have hdrop : s.data.toList.drop k = s.data.toList[k] :: s.data.toList.drop (k + 1) := List.drop_eq_getElem_cons hkl'
      have hx : s[k] = s.data.toList[k] := rfl
      rw [hdrop, ← hx] at hR
      have HR := Lib.hid hR.out; clear hR hdrop hx hgk
      have hX0 : (0 : Int) ≤ (s[k].toNat : Int) := by omega
      have hX : (s[k].toNat : Int) < 256 := by have := s[k].toNat_lt; omega
      have hokk := step_ok hok (s[k].toNat : Int) hX0
      have HS := Lib.hid (fun (w1 : World) (h1 : At w1 W.heap.size 64 st []) => step_w W.heap.size 64 (s[k].toNat : Int) hX0 hX st [] w1 h1 hok.1 hok.2.1 hok.2.2.1 hok.2.2.2.1 hok.2.2.2.2.1 (Ok.small hok))
      clear hX0 hX hok
      gi_wp2_with fail
      refine ⟨trivial, fun h => (by cases h), ?_⟩
      refine (callsIn_wide.2 (HS.out _ hat)).mono ?_; rintro e w1 ⟨rfl, h1, h2⟩
      have hJ1 := hJ _ _ _ hj (h2.below (Nat.le_refl _) (Nat.le_of_lt hlt))
      have hkc1 : w1.cell? ⟨kb, 0, none⟩ = some (.string s) := (h2.cell (p := ⟨kb, 0, none⟩) (by show kb < _; omega) (by show kb ≠ _; omega)).trans hkc
      clear hat hj hkc h2 HS
      have hlt1 := h1.lt
      cases hq : (stepF st (s[k].toNat : Int)).1 with
      | false =>
        have hR2 : runesL s.data.toList = pre := by rw [HR.out]; simp [runesF, hq]
        have HR2 := Lib.hid hR2; clear hR2
        have HQ := Lib.hid hq; clear hq
        gi_wp2_with fail
        refine bodyPost_ret (results_none rfl _ _ _) rfl ?_
        exact ⟨⟨_, rfl⟩, .inl (by rw [HR2.out]; exact hJ1)⟩
      | true =>
        by_cases hz : (stepF st (s[k].toNat : Int)).2.want = 0
        · have hR2 : runesL s.data.toList = pre ++ (m, (stepF st (s[k].toNat : Int)).2.ch) :: runesF (stepF st (s[k].toNat : Int)).2 (k + 1) (k + 1) (s.data.toList.drop (k + 1)) := by
            rw [HR.out]; simp [runesF, hq, hz]
          have HR2 := Lib.hid hR2
          obtain ⟨fn, tmps, assign, body, hy, hRR⟩ := hY pre (m, (stepF st (s[k].toNat : Int)).2.ch) _ w1 hR2 hJ1
          clear hR2
          have hz' : ((stepF st (s[k].toNat : Int)).2.want == 0) = true := by simpa using hz
          have HQ := Lib.hid hq; clear hq hz
          generalize (stepF st (s[k].toNat : Int)).2 = st2 at *
          have g0 : w1.cell? ⟨W.heap.size, 0, none⟩ = some (.int .i64 st2.want) := Blk.cell h1 0
          have g3 : w1.cell? ⟨W.heap.size, 3, none⟩ = some (.int .i32 st2.ch) := Blk.cell h1 3
          dsimp only [encR] at hy
          gi_wp2_with fail
          refine ⟨fun h => (by cases h), ?_⟩
          refine hRR.mono ?_
          rintro e W3 ⟨hst, (⟨rfl, hJ3⟩ | ⟨rfl, hJx3⟩)⟩
          · have hat3 : At W3 W.heap.size 64 st2 [] := (hst.block _ (.inl (Nat.le_refl _)) hlt1).trans h1
            have hkc3 : W3.cell? ⟨kb, 0, none⟩ = some (.string s) := (World.cell?_of_block (hst.block kb (.inr rfl) (by omega))).trans hkc1
            clear g0 g3 hkc1 h1 hJ1 hy hst
            gi_wp2_with fail
            go_roundw
            case rel => exact ⟨k + 1, k + 1, st2, _, by omega, by omega, by go_num, by go_num, hat3, hokk, by show runesL s.data.toList = _; rw [HR2.out]; simp, hJ3, hkc3⟩
            case measure => simp [intOf]; omega
          · clear hy
            gi_wp2_with fail
            refine bodyPost_ret (results_none rfl _ _ _) rfl ?_
            exact ⟨⟨_, rfl⟩, .inr ⟨pre, _, _, HR2.out, hJx3⟩⟩
        · have hR2 : runesL s.data.toList = pre ++ runesF (stepF st (s[k].toNat : Int)).2 m (k + 1) (s.data.toList.drop (k + 1)) := by
            rw [HR.out]; simp [runesF, hq, hz]
          have HR2 := Lib.hid hR2; clear hR2
          have hz' : ((stepF st (s[k].toNat : Int)).2.want == 0) = false := by simpa using hz
          have HQ := Lib.hid hq; clear hq hz
          generalize (stepF st (s[k].toNat : Int)).2 = st2 at *
          have g0 : w1.cell? ⟨W.heap.size, 0, none⟩ = some (.int .i64 st2.want) := Blk.cell h1 0
          gi_wp2_with fail
          go_roundw
          case rel => exact ⟨k + 1, m, st2, pre, by omega, by omega, by go_num, rfl, h1, hokk, HR2.out, hJ1, hkc1⟩
          case measure => simp [intOf]; omega
    · obtain rfl : k = s.size := by omega
      have hR2 : runesL s.data.toList = pre := by rw [hR.out, List.drop_eq_nil_of_le (by simp)]; simp [runesF]
      have HR2 := Lib.hid hR2; clear hR2
      have t0 : decide ((s.size : Int) < (s.size : Int)) = false := by simp
      gi_wp2_with fail
      go_end0
      exact ⟨⟨_, rfl⟩, .inl (by rw [HR2.out]; exact hj)⟩
end Go.Proofs.Ytlfkhfmepcnfeaa.Utf
