/- Chapters 13 and 14 (floats, shortest): contracts of the program's numbers: words, sums, products, shifts. No conditions beside those that each contract names. -/
import Derived.Test.YtabmalnandbocaaGreatDoorProg
import Derived.Test.YtabmalnandbocaaGreatDoorMA
import Derived.Lib.Hide
import Derived.IntWalk
import Derived.Deep.QuietTactic
import Derived.BigQuiet
import Derived.Deep.Draws
import Derived.Handy
import Derived.Outline
import Derived.WalkSpells
import Derived.WalkLawsBesides
import Derived.Laws.BitsLemmas
import Derived.Laws.MakeOwn
import Derived.Carry
import Derived.WalkKit
import Derived.Laws.AppendOwn
import Derived.Laws.OwnMore
import Derived.OwnWalk
import Derived.Maps.AppendAt
namespace Go.Proofs.YtabmalnandbocaaGreatDoor.Num
set_option exponentiation.threshold 3000
set_option linter.unusedVariables false
set_option linter.unusedSimpArgs false
open Go.RowKit Go.Proofs.YtabmalnandbocaaGreatDoor.Mem Go.Proofs.YtabmalnandbocaaGreatDoor.Own Go.Proofs.YtabmalnandbocaaGreatDoor.Big

theorem quiet_add {P : Program} {f : FuncId} {args : Array Value} {w : World} {a n : Nat} {v : Value}
    (h : Calls P f args (w.drewN (a + n)) fun e w' => e = .returned v ∧ ∃ m, w' = (w.drewN (a + n)).drewN m) :
    Calls P f args (w.drewN (a + n)) fun e w'' => e = .returned v ∧ ∃ m, w'' = w.drewN (a + m) :=
  h.mono fun _ _ ⟨he, m, hm⟩ => ⟨he, n + m, by rw [hm, World.drewN_drewN, Nat.add_assoc]⟩
theorem quiet_add_same {P : Program} {f : FuncId} {args : Array Value} {w : World} {a n : Nat} {v : Value}
    (h : Calls P f args (w.drewN (a + n)) fun e w' => e = .returned v ∧ w' = w.drewN (a + n)) :
    Calls P f args (w.drewN (a + n)) fun e w'' => e = .returned v ∧ ∃ m, w'' = w.drewN (a + m) :=
  h.mono fun _ _ ⟨he, hm⟩ => ⟨he, n, hm⟩
/-- The base of the program's words. -/
def B : Nat := 4294967296
theorem B_eq : B = 4294967296 := rfl
theorem hB : 2 ≤ B := by rw [B_eq]; decide
theorem B_pos : 0 < B := by rw [B_eq]; decide
theorem vint {k : IntKind} {a b : Int} (h : a = b) : Value.int k a = .int k b := by rw [h]
/-- A list of whole numbers that lies in memory from an address on. -/
def LAt (w : World) (k : IntKind) (A : Option Addr) (l : List Nat) : Prop :=
  l = [] ∨ ∃ b off, A = some ⟨b, off, none⟩ ∧ b < w.heap.size ∧ ∀ j, j < l.length → w.cell? ⟨b, off + j, none⟩ = some (.int k (l.getD j 0 : Nat))
section
variable {w w' : World} {k : IntKind} {A : Option Addr} {l : List Nat}
theorem LAt.below (h : LAt w k A l) (hb : Below w.heap.size w w') : LAt w' k A l := by
  rcases h with h | ⟨b, off, rfl, hlt, hc⟩
  · exact .inl h
  · exact .inr ⟨b, off, rfl, Nat.lt_of_lt_of_le hlt hb.size, fun j hj => (hb.cell (p := ⟨b, off + j, none⟩) hlt).trans (hc j hj)⟩
theorem LAt.drewN (h : LAt w k A l) (n : Nat) : LAt (w.drewN n) k A l := h.below (bdrewN (Below.refl _ _) n)
theorem LAt.take (h : LAt w k A l) (n : Nat) : LAt w k A (l.take n) := by
  rcases h with h | ⟨b, off, rfl, hlt, hc⟩
  · left; rw [h]; simp
  · refine .inr ⟨b, off, rfl, hlt, fun j hj => ?_⟩
    rw [hc j (by simp at hj; omega), List.getD_eq_getElem?_getD, List.getD_eq_getElem?_getD, List.getElem?_take, if_pos (by simp at hj; omega)]
theorem LAt.cells (h : LAt w k A l) (hn : 0 < l.length) : ∃ b off, A = some ⟨b, off, none⟩ ∧ b < w.heap.size ∧ ∀ j, j < l.length → w.cell? ⟨b, off + j, none⟩ = some (.int k (l.getD j 0 : Nat)) := by
  rcases h with rfl | h
  · simp at hn
  · exact h
/-- The cells of a list. -/
def arr (k : IntKind) (l : List Nat) : Array Value := (l.map fun x : Nat => Value.int k (x : Nat)).toArray
theorem arr_get (k : IntKind) (l : List Nat) (i : Nat) (h : i < l.length) : (arr k l)[i]? = some (.int k (l.getD i 0 : Nat)) := by
  unfold arr
  rw [List.getElem?_toArray, List.getElem?_map, List.getElem?_eq_getElem h, List.getD_eq_getElem?_getD, List.getElem?_eq_getElem h]; rfl
theorem arr_set (k : IntKind) (l : List Nat) (i x : Nat) : (arr k l).setIfInBounds i (.int k (x : Nat)) = arr k (l.set i x) := by
  unfold arr
  rw [List.map_set]
  simp
theorem arr_zeros (k : IntKind) (n : Nat) : arr k (List.replicate n 0) = Array.replicate n (.int k 0) := by
  unfold arr
  rw [List.map_replicate]; simp
theorem LAt.of_blk {g : Nat} {t : TypeId} (h : Blk w g t (arr k l)) : LAt w k (some ⟨g, 0, none⟩) l :=
  .inr ⟨g, 0, rfl, h.lt, fun j hj => by rw [Nat.zero_add]; exact (Blk.cell h j).trans (arr_get k l j hj)⟩
end
theorem u32_info : (Tryz.prog.info? 94).map (fun i => (i.zero, i.size, i.bytes)) = some (some (.int .u32 0), 1, 4) := by kernel_rfl
theorem int_info : (Tryz.prog.info? 3).map (fun i => (i.zero, i.size, i.bytes)) = some (some (.int .i64 0), 1, 8) := by kernel_rfl
theorem info_of {t : TypeId} {z : Value} {s b : Nat} (h : (Tryz.prog.info? t).map (fun i => (i.zero, i.size, i.bytes)) = some (some z, s, b)) : ∃ i, Tryz.prog.info? t = some i ∧ i.zero = some z ∧ i.size = s ∧ i.bytes = b := by
  cases hi : Tryz.prog.info? t with
  | none => rw [hi] at h; simp at h
  | some i =>
    rw [hi] at h
    simp at h
    exact ⟨i, rfl, h.1, h.2.1, h.2.2⟩
theorem made_cells (k : IntKind) (n : Nat) : madeCells (Value.int k 0).cells n = arr k (List.replicate n 0) := by
  rw [arr_zeros]
  have hs : (madeCells (Value.int k 0).cells n).size = n := size_madeCells _ _
  apply Array.ext
  · rw [hs]; simp
  · intro i h1 h2
    simp [madeCells, Value.cells, Nat.mod_one]
/-- make([]uint32, n), make([]int, n). -/
theorem make_u32 (w : World) (m : Int) (n : Nat) (h : m = n) (hn : n < 1099511627776) : (Instr.makeSlice 125 (.int .i64 m) (.int .i64 m)).run Tryz.prog w = .ok (.slice (some ⟨w.heap.size, 0, none⟩) n n) (w.alloc (.cells (arr .u32 (List.replicate n 0)) 94)) := by
  obtain ⟨i, hi, hz, hs, hb⟩ := info_of u32_info
  subst h
  have := run_make (P := Tryz.prog) w 125 94 i (.int .u32 0) Tryz.underlying125 hi hz .i64 .i64 n n (by omega) (by omega) (by rw [hb]; omega) (by omega)
  rw [this, hs, Nat.mul_one, made_cells]
  simp
theorem make_int (w : World) (m : Int) (n : Nat) (h : m = n) (hn : n < 1099511627776) : (Instr.makeSlice 144 (.int .i64 m) (.int .i64 m)).run Tryz.prog w = .ok (.slice (some ⟨w.heap.size, 0, none⟩) n n) (w.alloc (.cells (arr .i64 (List.replicate n 0)) 3)) := by
  obtain ⟨i, hi, hz, hs, hb⟩ := info_of int_info
  subst h
  have := run_make (P := Tryz.prog) w 144 3 i (.int .i64 0) Tryz.underlying144 hi hz .i64 .i64 n n (by omega) (by omega) (by rw [hb]; omega) (by omega)
  rw [this, hs, Nat.mul_one, made_cells]
  simp
/-- A number's words lie there. -/
def NumAt (w : World) (A : Option Addr) (n x : Nat) : Prop := n = (digs B x).length ∧ LAt w .u32 A (digs B x)
theorem NumAt.below {w w' : World} {A : Option Addr} {n x : Nat} (h : NumAt w A n x) (hb : Below w.heap.size w w') : NumAt w' A n x := ⟨h.1, h.2.below hb⟩
theorem NumAt.drewN {w : World} {A : Option Addr} {n x : Nat} (h : NumAt w A n x) (q : Nat) : NumAt (w.drewN q) A n x := ⟨h.1, h.2.drewN q⟩
theorem NumAt.len_zero {w : World} {A : Option Addr} {n x : Nat} (h : NumAt w A n x) : n = 0 ↔ x = 0 := by rw [h.1]; exact digs_len_zero hB
theorem NumAt.nil (w : World) (A : Option Addr) : NumAt w A 0 0 := ⟨by rw [digs_zero]; rfl, .inl digs_zero⟩
/-- A call comes to a number. -/
def NumPost (w : World) (x : Nat) (e : Ending) (w' : World) : Prop := ∃ A n c, e = .returned (.slice A n c) ∧ NumAt w' A n x ∧ Below w.heap.size w w'
end Go.Proofs.YtabmalnandbocaaGreatDoor.Num
namespace Go.Proofs.YtabmalnandbocaaGreatDoor.Num
set_option exponentiation.threshold 3000
set_option linter.unusedVariables false
set_option linter.unusedSimpArgs false
open Go.RowKit Go.Proofs.YtabmalnandbocaaGreatDoor.Mem Go.Proofs.YtabmalnandbocaaGreatDoor.Own Go.Proofs.YtabmalnandbocaaGreatDoor.Big

def TrimPost (w : World) (A : Option Addr) (c x : Nat) (e : Ending) (w' : World) : Prop := e = .returned (.slice A (digs B x).length c) ∧ w' = w
theorem getD_end {l : List Nat} {j : Nat} (h : l.length ≤ j) : l.getD j 0 = 0 := by rw [List.getD_eq_getElem?_getD, List.getElem?_eq_none h]; rfl
theorem trim_post {w : World} {A : Option Addr} {c x k : Nat} (h : k = (digs B x).length) : TrimPost w A c x (.returned (.slice A k c)) w := ⟨by rw [h], rfl⟩
set_option maxHeartbeats 1000000 in
theorem trim_w (A : Option Addr) (n c : Nat) (l : List Nat) (w : World) (hn : n = l.length) (hm : n < 1099511627776) (hc : n ≤ c) (hl : LAt w .u32 A l) (hd : Dig B l) :
    Calls Tryz.prog 125 #[.slice A n c] w (TrimPost w A c (val B l)) := by
  have HN := Lib.hid hn; clear hn
  have HL := Lib.hid hl; clear hl
  have HD := Lib.hid hd; clear hd
  go_enter Tryz.func125, Tryz.ntmps125
  go_wp2_with fail
  go_loop [3] (fun i => ∃ k : Nat, k ≤ n ∧ i = .int .i64 k ∧ Hid (∀ j, k ≤ j → l.getD j 0 = 0)) (fun i => (intOf i).toNat)
  case atStart => exact ⟨n, Nat.le_refl _, rfl, Lib.hid (fun j hj => getD_end (by rw [← HN.out]; exact hj))⟩
  case round =>
    obtain ⟨k, hk, rfl, HZ⟩ := hrel
    by_cases hk0 : k = 0
    · subst hk0
      have HE := Lib.hid (trim_len hB HD.out HZ.out (.inl rfl))
      go_wp2_with fail
      go_ret
      exact trim_post HE.out
    · obtain ⟨j, rfl⟩ : ∃ j, k = j + 1 := ⟨k - 1, by omega⟩
      obtain ⟨b, off, rfl, hlt, hcell⟩ := HL.out.cells (by rw [← HN.out]; omega)
      have hcj := hcell j (by rw [← HN.out]; omega)
      clear hcell
      have HE := Lib.hid (fun h => trim_len hB HD.out HZ.out (.inr h))
      have HX := Lib.hid (rfl : l.getD j 0 = l.getD j 0)
      by_cases hx : l.getD j 0 = 0
      · have t1 : ((((l.getD j 0 : Nat) : Int)) == 0) = true := by rw [hx]; rfl
        have HXX := Lib.hid hx
        clear hx HX HE
        generalize he : l.getD j 0 = x at t1 hcj
        have HEE := Lib.hid he
        clear he
        have t0 : decide (0 < ((j + 1 : Nat) : Int)) = true := by simp
        go_wp2_with fail
        go_round
        case rel =>
          refine ⟨j, by omega, rfl, Lib.hid (fun i hi => ?_)⟩
          by_cases e : i = j
          · subst e; exact HXX.out
          · exact HZ.out i (by omega)
        case measure => simp [intOf]
      · have t1 : ((((l.getD j 0 : Nat) : Int)) == 0) = false := by rw [beq_eq_false_iff_ne]; omega
        have HL := Lib.hid (HE.out (by simpa using hx))
        clear hx HX HE
        generalize l.getD j 0 = x at t1 hcj
        have t0 : decide (0 < ((j + 1 : Nat) : Int)) = true := by simp
        go_wp2_with fail
        go_ret
        exact trim_post HL.out
end Go.Proofs.YtabmalnandbocaaGreatDoor.Num
namespace Go.Proofs.YtabmalnandbocaaGreatDoor.Num
set_option exponentiation.threshold 3000
set_option linter.unusedVariables false
set_option linter.unusedSimpArgs false
open Go.RowKit Go.Proofs.YtabmalnandbocaaGreatDoor.Mem Go.Proofs.YtabmalnandbocaaGreatDoor.Own Go.Proofs.YtabmalnandbocaaGreatDoor.Big

/-- What a loop that writes a list of words keeps. -/
structure Writes (w wr : World) (g : Nat) (l : List Nat) (len : Nat) : Prop where
  blk : Blk wr g 94 (arr .u32 l)
  new : w.heap.size ≤ g
  bel : Below w.heap.size w wr
  dig : Dig B l
  len : l.length = len
theorem Writes.set_ {w wr : World} {g : Nat} {l : List Nat} {len : Nat} (h : Writes w wr g l len) (i x : Nat) (hx : x < B) : Writes w (wr.setCell ⟨g, i, none⟩ (.int .u32 (x : Nat))) g (l.set i x) len :=
  ⟨by rw [← arr_set]; exact Blk.set_ h.blk i _, h.new, h.bel.setCell h.new _, h.dig.set i x hx, by rw [List.length_set]; exact h.len⟩
theorem Writes.start (w : World) (n : Nat) : Writes w (w.alloc (.cells (arr .u32 (List.replicate n 0)) 94)) w.heap.size (List.replicate n 0) n :=
  ⟨Blk.new w _ _, Nat.le_refl _, (Below.refl _ w).alloc (Nat.le_refl _) _, dig_zeros B_pos n, by simp⟩
theorem Writes.drewN {w wr : World} {g : Nat} {l : List Nat} {len : Nat} (h : Writes w wr g l len) (n : Nat) : Writes w (wr.drewN n) g l len := ⟨Blk.drewN h.blk n, h.new, bdrewN h.bel n, h.dig, h.len⟩
/-- The loop of add. -/
structure AddI (w wr : World) (a b : List Nat) (n k c : Nat) (l : List Nat) : Prop where
  ww : Writes w wr w.heap.size l (n + 1)
  c1 : c ≤ 1
  eq : val B l + B ^ k * c = val B (a.take k) + val B (b.take k)
  z : ∀ j, k ≤ j → l.getD j 0 = 0
theorem val_put {l : List Nat} {k x : Nat} (hk : k < l.length) (hz : l.getD k 0 = 0) : val B (l.set k x) = val B l + B ^ k * x := by
  have := val_set (b := B) l k x hk
  rw [hz] at this; simpa using this
theorem set_zero {l : List Nat} {k x : Nat} (hz : ∀ j, k ≤ j → l.getD j 0 = 0) : ∀ j, k + 1 ≤ j → (l.set k x).getD j 0 = 0 := fun j hj => by
  rw [getD_set, if_neg (by omega)]; exact hz j (by omega)
theorem AddI.step {w wr : World} {a b : List Nat} {n k c : Nat} {l : List Nat} (h : AddI w wr a b n k c l) (hk : k < n) {s : Nat} (hs : s = c + a.getD k 0 + b.getD k 0) (ha : a.getD k 0 < B) (hb : b.getD k 0 < B) :
    AddI w (wr.setCell ⟨w.heap.size, k, none⟩ (.int .u32 (s % B : Nat))) a b n (k + 1) (s / B) (l.set k (s % B)) := by
  have h1 := h.c1
  refine ⟨h.ww.set_ k _ (Nat.mod_lt _ B_pos), ?_, ?_, set_zero h.z⟩
  · rw [B_eq] at *
    omega
  · rw [val_put (by rw [h.ww.len]; omega) (h.z k (Nat.le_refl _)), val_take_succ, val_take_succ]
    have e := h.eq
    have hd := Nat.mod_add_div s B
    rw [Nat.pow_succ]
    have : B ^ k * (s % B) + B ^ k * B * (s / B) = B ^ k * s := by rw [Nat.mul_assoc, ← Nat.mul_add, hd]
    rw [hs, Nat.mul_add, Nat.mul_add] at this
    rw [hs]
    omega
theorem num_post {w w1 w2 : World} {A : Option Addr} {c x : Nat} {e : Ending} {l : List Nat} (h : TrimPost w1 A c (val B l) e w2) (hb : Below w.heap.size w w1) (hl : LAt w1 .u32 A l) (hd : Dig B l) (hx : val B l = x) : NumPost w x e w2 := by
  obtain ⟨rfl, rfl⟩ := h
  subst hx
  refine ⟨A, _, c, rfl, ⟨rfl, ?_⟩, hb⟩
  rw [← digs_take hB hd]
  exact hl.take _
set_option maxHeartbeats 2000000 in
set_option maxRecDepth 100000 in
theorem add_ge (A : Option Addr) (n c x : Nat) (A' : Option Addr) (n' c' y : Nat) (w : World) (ha : NumAt w A n x) (hb : NumAt w A' n' y) (hm : n < 1099511627700) (hle : n' ≤ n) :
    Calls Tryz.prog 121 #[.slice A n c, .slice A' n' c'] w (NumPost w (x + y)) := by
  have HA := Lib.hid ha; clear ha
  have HB := Lib.hid hb; clear hb
  have t0 : decide ((n : Int) < (n' : Int)) = false := by simp; omega
  have hmk := fun W => make_u32 W ((n : Int) + 1) (n + 1) (by omega) (by omega)
  go_enter Tryz.func121, Tryz.ntmps121
  go_wp2_with fail
  clear hmk
  go_loopw [6, 7] (fun cc i wr => ∃ (k c : Nat) (l : List Nat), k ≤ n ∧ cc = .int .u64 (c : Nat) ∧ i = .int .i64 k ∧ AddI w wr (digs B x) (digs B y) n k c l) (fun _ i _ => n - (intOf i).toNat)
  case atStart => exact ⟨0, 0, _, Nat.zero_le _, rfl, rfl, Writes.start w (n + 1), by omega, by rw [val_zeros]; simp [val], fun j _ => getD_zeros _ j⟩
  case round =>
    obtain ⟨k, cc, l, hk, rfl, rfl, hI⟩ := hrel
    have hc1 := hI.c1
    have hbel := hI.ww.bel
    by_cases hkn : k < n
    · obtain ⟨b, off, rfl, hblt, hac⟩ := HA.out.2.cells (by rw [← HA.out.1]; omega)
      have hca := (hbel.cell (p := ⟨b, off + k, none⟩) hblt).trans (hac k (by rw [← HA.out.1]; exact hkn))
      have hna : b ≠ w.heap.size := by omega
      have hda := (digs_dig hB x).getD B_pos k
      obtain ⟨u, hu⟩ : ∃ u, u = (arr .u32 l)[k]? := ⟨_, rfl⟩
      have hrc := Blk.cell hI.ww.blk k
      rw [arr_get _ _ _ (by rw [hI.ww.len]; omega)] at hrc
      have hrf := Blk.frozen hI.ww.blk k
      have t1 : decide ((k : Int) < (n : Int)) = true := by simp; omega
      by_cases hkn' : k < n'
      · obtain ⟨b', off', rfl, hblt', hac'⟩ := HB.out.2.cells (by rw [← HB.out.1]; omega)
        have hcb := (hbel.cell (p := ⟨b', off' + k, none⟩) hblt').trans (hac' k (by rw [← HB.out.1]; exact hkn'))
        have hdb := (digs_dig hB y).getD B_pos k
        have t2 : decide ((k : Int) < (n' : Int)) = true := by simp; omega
        have HI := Lib.hid (fun s hs => hI.step hkn (s := s) hs hda hdb)
        clear hac hac' hu hI hbel
        generalize (digs B x).getD k 0 = ak at *
        generalize (digs B y).getD k 0 = bk at *
        generalize l.getD k 0 = lk at *
        rw [B_eq] at hda hdb
        go_wp2_with fail
        go_roundw
        case rel =>
          have e1 : ((cc : Int) + ak + bk) % 4294967296 = (((cc + ak + bk) % B : Nat) : Int) := by rw [B_eq]; omega
          rw [e1]
          exact ⟨k + 1, (cc + ak + bk) / B, _, by omega, vint (by rw [B_eq]; omega), by go_num, HI.out _ rfl⟩
        case measure => simp [intOf]; omega
      · have t2 : decide ((k : Int) < (n' : Int)) = false := by simp; omega
        have hb0 : (digs B y).getD k 0 = 0 := getD_end (by rw [← HB.out.1]; omega)
        have HI := Lib.hid (fun s hs => hI.step hkn (s := s) hs hda (by rw [hb0]; exact B_pos))
        rw [hb0] at HI
        clear hac hu hI hbel hb0
        generalize (digs B x).getD k 0 = ak at *
        generalize l.getD k 0 = lk at *
        rw [B_eq] at hda
        go_wp2_with fail
        go_roundw
        case rel =>
          have e1 : ((cc : Int) + ak) % 4294967296 = (((cc + ak) % B : Nat) : Int) := by rw [B_eq]; omega
          rw [e1]
          exact ⟨k + 1, (cc + ak) / B, _, by omega, vint (by rw [B_eq]; omega), by go_num, HI.out _ rfl⟩
        case measure => simp [intOf]; omega
    · obtain rfl : n = k := by omega
      have t1 : decide ((n : Int) < (n : Int)) = false := by simp
      have hrc := Blk.cell hI.ww.blk n
      rw [arr_get _ _ _ (by rw [hI.ww.len]; omega)] at hrc
      have hrf := Blk.frozen hI.ww.blk n
      have hw2 := hI.ww.set_ n cc (by rw [B_eq]; omega)
      have hv : val B (l.set n cc) = x + y := by
        rw [val_put (by rw [hI.ww.len]; omega) (hI.z n (Nat.le_refl _)), hI.eq]
        have e1 : (digs B x).take n = digs B x := List.take_of_length_le (by rw [← HA.out.1]; exact Nat.le_refl _)
        have e2 : (digs B y).take n = digs B y := List.take_of_length_le (by rw [← HB.out.1]; exact hle)
        rw [e1, e2, digs_val hB, digs_val hB]
      have HT := Lib.hid (trim_w (some ⟨w.heap.size, 0, none⟩) (n + 1) (n + 1) (l.set n cc) _ (by rw [hw2.len]) (by omega) (Nat.le_refl _) (LAt.of_blk hw2.blk) hw2.dig)
      have HW := Lib.hid hw2
      have HV := Lib.hid hv
      generalize l.getD n 0 = lk at *
      clear hI hw2 hbel hv
      go_wp2_with fail
      refine HT.out.mono ?_
      rintro e w2 h2
      have h3 := num_post h2 HW.out.bel (LAt.of_blk HW.out.blk) HW.out.dig HV.out
      obtain ⟨A2, n2, c2, rfl, h4, h5⟩ := h3
      go_wp2_with fail
      go_ret
      exact ⟨A2, n2, c2, rfl, h4, h5⟩
set_option maxHeartbeats 2000000 in
set_option maxRecDepth 100000 in
theorem add_lt (A : Option Addr) (n c x : Nat) (A' : Option Addr) (n' c' y : Nat) (w : World) (ha : NumAt w A n x) (hb : NumAt w A' n' y) (hm : n < 1099511627700) (hle : n' < n) :
    Calls Tryz.prog 121 #[.slice A' n' c', .slice A n c] w (NumPost w (x + y)) := by
  have HA := Lib.hid ha; clear ha
  have HB := Lib.hid hb; clear hb
  have t0 : decide ((n' : Int) < (n : Int)) = true := by simp; omega
  have hmk := fun W => make_u32 W ((n : Int) + 1) (n + 1) (by omega) (by omega)
  go_enter Tryz.func121, Tryz.ntmps121
  go_wp2_with fail
  clear hmk
  go_loopw [6, 7] (fun cc i wr => ∃ (k c : Nat) (l : List Nat), k ≤ n ∧ cc = .int .u64 (c : Nat) ∧ i = .int .i64 k ∧ AddI w wr (digs B x) (digs B y) n k c l) (fun _ i _ => n - (intOf i).toNat)
  case atStart => exact ⟨0, 0, _, Nat.zero_le _, rfl, rfl, Writes.start w (n + 1), by omega, by rw [val_zeros]; simp [val], fun j _ => getD_zeros _ j⟩
  case round =>
    obtain ⟨k, cc, l, hk, rfl, rfl, hI⟩ := hrel
    have hc1 := hI.c1
    have hbel := hI.ww.bel
    by_cases hkn : k < n
    · obtain ⟨b, off, rfl, hblt, hac⟩ := HA.out.2.cells (by rw [← HA.out.1]; omega)
      have hca := (hbel.cell (p := ⟨b, off + k, none⟩) hblt).trans (hac k (by rw [← HA.out.1]; exact hkn))
      have hna : b ≠ w.heap.size := by omega
      have hda := (digs_dig hB x).getD B_pos k
      obtain ⟨u, hu⟩ : ∃ u, u = (arr .u32 l)[k]? := ⟨_, rfl⟩
      have hrc := Blk.cell hI.ww.blk k
      rw [arr_get _ _ _ (by rw [hI.ww.len]; omega)] at hrc
      have hrf := Blk.frozen hI.ww.blk k
      have t1 : decide ((k : Int) < (n : Int)) = true := by simp; omega
      by_cases hkn' : k < n'
      · obtain ⟨b', off', rfl, hblt', hac'⟩ := HB.out.2.cells (by rw [← HB.out.1]; omega)
        have hcb := (hbel.cell (p := ⟨b', off' + k, none⟩) hblt').trans (hac' k (by rw [← HB.out.1]; exact hkn'))
        have hdb := (digs_dig hB y).getD B_pos k
        have t2 : decide ((k : Int) < (n' : Int)) = true := by simp; omega
        have HI := Lib.hid (fun s hs => hI.step hkn (s := s) hs hda hdb)
        clear hac hac' hu hI hbel
        generalize (digs B x).getD k 0 = ak at *
        generalize (digs B y).getD k 0 = bk at *
        generalize l.getD k 0 = lk at *
        rw [B_eq] at hda hdb
        go_wp2_with fail
        go_roundw
        case rel =>
          have e1 : ((cc : Int) + ak + bk) % 4294967296 = (((cc + ak + bk) % B : Nat) : Int) := by rw [B_eq]; omega
          rw [e1]
          exact ⟨k + 1, (cc + ak + bk) / B, _, by omega, vint (by rw [B_eq]; omega), by go_num, HI.out _ rfl⟩
        case measure => simp [intOf]; omega
      · have t2 : decide ((k : Int) < (n' : Int)) = false := by simp; omega
        have hb0 : (digs B y).getD k 0 = 0 := getD_end (by rw [← HB.out.1]; omega)
        have HI := Lib.hid (fun s hs => hI.step hkn (s := s) hs hda (by rw [hb0]; exact B_pos))
        rw [hb0] at HI
        clear hac hu hI hbel hb0
        generalize (digs B x).getD k 0 = ak at *
        generalize l.getD k 0 = lk at *
        rw [B_eq] at hda
        go_wp2_with fail
        go_roundw
        case rel =>
          have e1 : ((cc : Int) + ak) % 4294967296 = (((cc + ak) % B : Nat) : Int) := by rw [B_eq]; omega
          rw [e1]
          exact ⟨k + 1, (cc + ak) / B, _, by omega, vint (by rw [B_eq]; omega), by go_num, HI.out _ rfl⟩
        case measure => simp [intOf]; omega
    · obtain rfl : n = k := by omega
      have t1 : decide ((n : Int) < (n : Int)) = false := by simp
      have hrc := Blk.cell hI.ww.blk n
      rw [arr_get _ _ _ (by rw [hI.ww.len]; omega)] at hrc
      have hrf := Blk.frozen hI.ww.blk n
      have hw2 := hI.ww.set_ n cc (by rw [B_eq]; omega)
      have hv : val B (l.set n cc) = x + y := by
        rw [val_put (by rw [hI.ww.len]; omega) (hI.z n (Nat.le_refl _)), hI.eq]
        have e1 : (digs B x).take n = digs B x := List.take_of_length_le (by rw [← HA.out.1]; exact Nat.le_refl _)
        have e2 : (digs B y).take n = digs B y := List.take_of_length_le (by rw [← HB.out.1]; exact Nat.le_of_lt hle)
        rw [e1, e2, digs_val hB, digs_val hB]
      have HT := Lib.hid (trim_w (some ⟨w.heap.size, 0, none⟩) (n + 1) (n + 1) (l.set n cc) _ (by rw [hw2.len]) (by omega) (Nat.le_refl _) (LAt.of_blk hw2.blk) hw2.dig)
      have HW := Lib.hid hw2
      have HV := Lib.hid hv
      generalize l.getD n 0 = lk at *
      clear hI hw2 hbel hv
      go_wp2_with fail
      refine HT.out.mono ?_
      rintro e w2 h2
      have h3 := num_post h2 HW.out.bel (LAt.of_blk HW.out.blk) HW.out.dig HV.out
      obtain ⟨A2, n2, c2, rfl, h4, h5⟩ := h3
      go_wp2_with fail
      go_ret
      exact ⟨A2, n2, c2, rfl, h4, h5⟩
theorem add_w (A : Option Addr) (n c x : Nat) (A' : Option Addr) (n' c' y : Nat) (w : World) (ha : NumAt w A n x) (hb : NumAt w A' n' y) (hm : n < 1099511627700) (hm' : n' < 1099511627700) :
    Calls Tryz.prog 121 #[.slice A n c, .slice A' n' c'] w (NumPost w (x + y)) := by
  by_cases h : n' ≤ n
  · exact add_ge A n c x A' n' c' y w ha hb hm h
  · rw [Nat.add_comm]
    exact add_lt A' n' c' y A n c x w hb ha hm' (by omega)
end Go.Proofs.YtabmalnandbocaaGreatDoor.Num
namespace Go.Proofs.YtabmalnandbocaaGreatDoor.Num
set_option exponentiation.threshold 3000
set_option linter.unusedVariables false
set_option linter.unusedSimpArgs false
open Go.RowKit Go.Proofs.YtabmalnandbocaaGreatDoor.Mem Go.Proofs.YtabmalnandbocaaGreatDoor.Own Go.Proofs.YtabmalnandbocaaGreatDoor.Big

theorem two_words {x : Nat} (hx : x < 18446744073709551616) : val B [x % B, x / B % B] = x := by
  simp only [val]; rw [B_eq]; omega
theorem two_dig (x : Nat) : Dig B [x % B, x / B % B] := (Dig.one (Nat.mod_lt _ B_pos)).append (Dig.one (Nat.mod_lt _ B_pos))
set_option maxHeartbeats 1000000 in
theorem words_w (x : Nat) (w : World) (hx : x < 18446744073709551616) : Calls Tryz.prog 122 #[.int .u64 (x : Nat)] w (NumPost w x) := by
  have hb := Blk.new w 94 (arr .u32 [x % B, x / B % B])
  have ea : arr .u32 [x % B, x / B % B] = #[.int .u32 ((x : Int) % 4294967296), .int .u32 ((x : Int) / 4294967296)] := by
    have e1 : ((x % B : Nat) : Int) = (x : Int) % 4294967296 := by rw [B_eq]; omega
    have e2 : ((x / B % B : Nat) : Int) = (x : Int) / 4294967296 := by rw [B_eq]; omega
    simp only [arr, List.map_cons, List.map_nil, e1, e2]
  have HT := Lib.hid (trim_w (some ⟨w.heap.size, 0, none⟩) 2 2 _ _ rfl (by omega) (Nat.le_refl _) (LAt.of_blk hb) (two_dig x))
  have HB := Lib.hid hb
  rw [ea] at HT
  have HE := Lib.hid ea
  clear hb ea
  go_enter Tryz.func122, Tryz.ntmps122
  go_wp2_with fail
  refine HT.out.mono ?_
  rintro e w2 h2
  have hbb := Blk.new w 94 (arr .u32 [x % B, x / B % B])
  rw [HE.out] at hbb
  have h3 := num_post h2 ((Below.refl _ w).alloc (Nat.le_refl _) _) (LAt.of_blk (by rw [HE.out]; exact hbb)) (two_dig x) (two_words hx)
  obtain ⟨A2, n2, c2, rfl, h4, h5⟩ := h3
  clear hbb
  go_wp2_with fail
  go_ret
  exact ⟨A2, n2, c2, rfl, h4, h5⟩
def BlenPost (w : World) (x : Nat) (e : Ending) (w' : World) : Prop := e = .returned (.int .i64 (Rung.blen x : Nat)) ∧ w' = w
theorem blen_post {w : World} {x : Nat} {z : Int} (h : z = (Rung.blen x : Nat)) : BlenPost w x (.returned (.int .i64 z)) w := ⟨by rw [h], rfl⟩
theorem top_blen {x m : Nat} (hl : m + 1 = (digs B x).length) : (digs B x).getD m 0 ≠ 0 ∧ Rung.blen x = Rung.blen ((digs B x).getD m 0) + 32 * m := by
  have hx : x ≠ 0 := by rintro rfl; rw [digs_zero] at hl; simp at hl
  have h1 := digs_top hB hx
  rw [← hl, Nat.add_sub_cancel] at h1
  refine ⟨h1, ?_⟩
  have h2 := digs_getD hB x m
  have h3 := digs_lt hB x
  rw [← hl, Nat.pow_succ, Nat.mul_comm] at h3
  have h4 : x / B ^ m < B := (Nat.div_lt_iff_lt_mul (Nat.pow_pos B_pos)).2 h3
  rw [Nat.mod_eq_of_lt h4] at h2
  have h5 : B ^ m = 2 ^ (32 * m) := by rw [Nat.pow_mul]; rfl
  rw [h5] at h2
  exact Rung.blen_top h2.symm h1
theorem blen_32 {t : Nat} (h : t < 4294967296) : Rung.blen t ≤ 32 := by
  unfold Rung.blen
  split
  · omega
  · rename_i h0
    have := (Nat.log2_lt h0 (k := 32)).2 (by omega)
    omega
set_option maxHeartbeats 2000000 in
theorem length_w (A : Option Addr) (n c x : Nat) (w : World) (ha : NumAt w A n x) (hm : n < 1099511627700) :
    Calls Tryz.prog 90 #[.slice A n c] w (BlenPost w x) := by
  have HA := Lib.hid ha
  by_cases h0 : n = 0
  · have hx := ha.len_zero.1 h0
    have HX := Lib.hid hx
    subst h0
    clear ha hx
    go_enter Tryz.func90, Tryz.ntmps90
    go_wp2_with fail
    go_ret
    exact blen_post (by rw [HX.out]; rfl)
  · obtain ⟨b, off, rfl, hblt, hac⟩ := ha.2.cells (by rw [← ha.1]; omega)
    obtain ⟨m, rfl⟩ : ∃ m, n = m + 1 := ⟨n - 1, by omega⟩
    have hca := hac m (by rw [← ha.1]; omega)
    have HT := Lib.hid (top_blen ha.1)
    have ht32 := (digs_dig hB x).getD B_pos m
    clear ha hac
    generalize (digs B x).getD m 0 = t at *
    rw [B_eq] at ht32
    have hb32 := blen_32 ht32
    go_enter Tryz.func90, Tryz.ntmps90
    go_wp2_with fail
    go_loop [3, 4] (fun i v => ∃ k s : Nat, i = .int .i64 (k : Nat) ∧ v = .int .u32 (s : Nat) ∧ s < 4294967296 ∧ Hid (k + Rung.blen s = Rung.blen t) ∧ k ≤ 32) (fun _ v => (intOf v).toNat)
    case atStart => exact ⟨0, t, rfl, rfl, ht32, Lib.hid (by omega), by omega⟩
    case round =>
      obtain ⟨k, s, rfl, rfl, hs, HK, hk⟩ := hrel
      by_cases hs0 : s = 0
      · subst hs0
        go_wp2_with fail
        go_ret
        refine blen_post ?_
        rw [HT.out.2, ← HK.out, Rung.blen_zero]
        omega
      · have t1 : ((s : Int) == 0) = false := by rw [beq_eq_false_iff_ne]; omega
        have t2 : ((s : Int) != 0) = true := by simp; omega
        have HH := Lib.hid (Rung.blen_half hs0)
        have hle : k + 1 ≤ 32 := by have := HK.out; have := HH.out; omega
        go_wp2_with fail
        go_round
        case rel => exact ⟨k + 1, s / 2, by go_num, vint (by omega), by omega, Lib.hid (by have := HK.out; have := HH.out; omega), hle⟩
        case measure => simp [intOf]; omega
end Go.Proofs.YtabmalnandbocaaGreatDoor.Num
namespace Go.Proofs.YtabmalnandbocaaGreatDoor.App
set_option exponentiation.threshold 3000
set_option linter.unusedVariables false
set_option linter.unusedSimpArgs false
open Go.RowKit
section
variable {P : Program} (w : World)
theorem run_append_where (base : Nat) (t ty e : TypeId) (i : TypeInfo) (z : Value) (size bytes : Nat) (ht : P.underlying t = some (.slice e)) (hi : P.info? e = some i) (hz : i.zero = some z)
    (hsize : i.size = size) (hby : i.bytes = bytes) (hzs : z.cells.size = size) (hsz : 0 < size)
    (v : Value) (n : Nat) (xs : List Value) (hown : w.ownsRow base e size v n xs)
    (a : Addr) (m c : Nat) (news : List Value) (hl : news.length = m * size) (hnews : ∀ j u, news[j]? = some u → w.cell? (a.add j) = some u) (h1 : ∀ u ∈ news, u.oneCell' = true)
    (h63 : n + m ≤ maxLen) (hbytes : (n + m) * bytes ≤ 140737488355328) (hbase : base ≤ w.heap.size) :
    ∃ v' w', (Builtin.append_ #[t, t] ty #[v, .slice (some a) m c]).run P w = .ok v' w' ∧ w'.ownsRow base e size v' (n + m) (xs ++ news) ∧ w.grownBy w' v.ownBlock ∧
      (∀ b, v'.ownBlock = some b → v.ownBlock = some b ∨ b = w.heap.size) := by
  obtain ⟨v', w', hr, h2, h3, h4⟩ := run_append_own (P := P) w base t ty e i z size bytes ht hi hz hsize hby hzs hsz v n xs hown a m c news hl hnews h1 h63 hbytes hbase
  refine ⟨v', w', hr, h2, h3, ?_⟩
  have hM : n + m ≤ 9223372036854775807 := by unfold maxLen at h63; omega
  intro b hb
  rcases hown.2 with ⟨rfl, rfl⟩ | ⟨g, cap, cur, rfl, hbg, hg, hnc, hcm, hcs, htake⟩
  · by_cases hm : m = 0
    · rw [h4.2 ⟨rfl, hm⟩] at hb; cases hb
    · have hk := run_append_nil (P := P) w t ty e i z ht hi hz a m c news (by rw [hsize]; exact hl) hnews (by omega) (by omega) (by rw [hby]; have hb := hbytes; simp only [Nat.zero_add] at hb; omega)
      rw [hk] at hr
      injection hr with hr1 hr2
      subst hr1
      simp [Value.ownBlock] at hb
      exact .inr hb.symm
  · by_cases hroom : n + m ≤ cap
    · obtain ⟨w1, hk, -, -⟩ := run_append_fits (P := P) w base t ty e i size ht hi hsize g n cap xs hown a m c news hl hnews h1 hroom
      rw [hk] at hr
      injection hr with hr1 hr2
      subst hr1
      simp [Value.ownBlock] at hb
      exact .inl (by simp [Value.ownBlock, hb])
    · have holds : ∀ j u, xs[j]? = some u → w.cell? ((⟨g, 0, none⟩ : Addr).add j) = some u := hown.cells (g := g) rfl
      have hk := run_append_grow (P := P) w t ty e i z ht hi hz ⟨g, 0, none⟩ n cap xs (by rw [hsize]; exact hown.1) holds a m c news (by rw [hsize]; exact hl) hnews (by omega) (by omega) (growslice_fits (by omega) (by rw [hby]; exact hbytes))
      rw [hk] at hr
      injection hr with hr1 hr2
      subst hr1
      simp [Value.ownBlock] at hb
      exact .inr hb.symm
/-- At the operation. -/
theorem wpList_append_where {ops : Array Oper} {rest : List Oper} {o : Oper} {a : Act} {Q : Exit → Act → World → Prop} (hgd : o.guard = none) (s x : Operand) (t : TypeId)
    (ho : o.op = .call { callee := .builtin .append, args := #[s, x], argTypes := #[t, t] })
    (base : Nat) (e : TypeId) (i : TypeInfo) (z : Value) (size bytes : Nat) (ht : P.underlying t = some (.slice e)) (hi : P.info? e = some i) (hz : i.zero = some z)
    (hsize : i.size = size) (hby : i.bytes = bytes) (hzs : z.cells.size = size) (hsz : 0 < size)
    (v : Value) (n : Nat) (xs : List Value) (hs : a.eval s = v) (hown : w.ownsRow base e size v n xs)
    (ad : Addr) (m c : Nat) (news : List Value) (hx : a.eval x = .slice (some ad) m c) (hl : news.length = m * size) (hnews : ∀ j u, news[j]? = some u → w.cell? (ad.add j) = some u) (h1 : ∀ u ∈ news, u.oneCell' = true)
    (h63 : n + m ≤ maxLen) (hbytes : (n + m) * bytes ≤ 140737488355328) (hbase : base ≤ w.heap.size)
    (h : ∀ v' w', w'.ownsRow base e size v' (n + m) (xs ++ news) → w.grownBy w' v.ownBlock → (∀ b, v'.ownBlock = some b → v.ownBlock = some b ∨ b = w.heap.size) → wpList P ops Q rest (a.put o.dst v') w') : wpList P ops Q (o :: rest) a w := by
  refine wpList_plain hgd fun K hK => ?_
  obtain ⟨v', w', hr, h2, h3, h4⟩ := run_append_where (P := P) w base t o.type e i z size bytes ht hi hz hsize hby hzs hsz v n xs hown ad m c news hl hnews h1 h63 hbytes hbase
  unfold Oper.wp execOp
  simp only [ho, resolve, invoke, builtin, Sem.run_bind, Sem.run_pure, Result.andThen_ok, List.map_toArray, List.map_cons, List.map_nil, hs, hx, hr]
  exact hK _ _ (h v' w' h2 h3 h4)
end
end Go.Proofs.YtabmalnandbocaaGreatDoor.App
namespace Go.Proofs.YtabmalnandbocaaGreatDoor.Num
set_option exponentiation.threshold 3000
set_option linter.unusedVariables false
set_option linter.unusedSimpArgs false
open Go.RowKit Go.Proofs.YtabmalnandbocaaGreatDoor.Mem Go.Proofs.YtabmalnandbocaaGreatDoor.Own Go.Proofs.YtabmalnandbocaaGreatDoor.Big

/-- The values of a list. -/
def vals (k : IntKind) (l : List Nat) : List Value := l.map fun x : Nat => Value.int k (x : Nat)
theorem vals_get (k : IntKind) (l : List Nat) (j : Nat) (h : j < l.length) : (vals k l)[j]? = some (.int k (l.getD j 0 : Nat)) := by
  unfold vals
  rw [List.getElem?_map, List.getElem?_eq_getElem h, List.getD_eq_getElem?_getD, List.getElem?_eq_getElem h]; rfl
theorem vals_len (k : IntKind) (l : List Nat) : (vals k l).length = l.length := by simp [vals]
theorem vals_append (k : IntKind) (l m : List Nat) : vals k (l ++ m) = vals k l ++ vals k m := by simp [vals]
theorem vals_one (k : IntKind) (l : List Nat) : ∀ u ∈ vals k l, u.oneCell' = true := by
  intro u hu
  obtain ⟨x, -, rfl⟩ := List.mem_map.1 hu
  rfl
/-- A list of whole numbers that the call owns. -/
def NRow (k : IntKind) (e : TypeId) (w : World) (base : Nat) (v : Value) (l : List Nat) : Prop := w.ownsRow base e 1 v l.length (vals k l)
theorem NRow.nil (k : IntKind) (e : TypeId) (w : World) (base : Nat) : NRow k e w base (.slice none 0 0) [] := World.ownsRow_nil _ _ _ _
theorem NRow.form {k : IntKind} {e : TypeId} {w : World} {base : Nat} {v : Value} {l : List Nat} (h : NRow k e w base v l) : ∃ A c, v = .slice A l.length c ∧ LAt w k A l ∧ l.length ≤ c := by
  unfold NRow at h
  rcases h.2 with ⟨hv, h0⟩ | ⟨g, cap, cur, hv, hb, hg, hle, -⟩
  · refine ⟨none, 0, by rw [h0]; exact hv, .inl (List.eq_nil_of_length_eq_zero h0), by omega⟩
  · refine ⟨some ⟨g, 0, none⟩, cap, hv, ?_, hle⟩
    by_cases hl : l.length = 0
    · exact .inl (List.eq_nil_of_length_eq_zero hl)
    · refine .inr ⟨g, 0, rfl, (Array.getElem?_eq_some_iff.1 hg).1, fun j hj => ?_⟩
      have := h.cells (g := g) (by rw [hv]; rfl) j _ (vals_get k l j hj)
      rw [show (⟨g, 0, none⟩ : Addr).add j = ⟨g, j, none⟩ by unfold Addr.add; split <;> simp_all] at this
      rw [Nat.zero_add]; exact this
theorem NRow.below {k : IntKind} {e : TypeId} {w w' : World} {base : Nat} {v : Value} {l : List Nat} (h : NRow k e w base v l) (hb : Below w.heap.size w w') : NRow k e w' base v l := own_below h hb
theorem NRow.drewN {k : IntKind} {e : TypeId} {w : World} {base : Nat} {v : Value} {l : List Nat} (h : NRow k e w base v l) (n : Nat) : NRow k e (w.drewN n) base v l := h.below (bdrewN (Below.refl _ _) n)
theorem NRow.low {k : IntKind} {e : TypeId} {w : World} {base : Nat} {v : Value} {l : List Nat} (h : NRow k e w base v l) : ∀ g, v.ownBlock = some g → base ≤ g ∧ g < w.heap.size := fun g hg => h.lt g hg
theorem vals_set (k : IntKind) (l : List Nat) (i x : Nat) : vals k (l.set i x) = (vals k l).set i (.int k (x : Nat)) := by unfold vals; rw [List.map_set]
/-- A store into it. -/
theorem NRow.set {k : IntKind} {e : TypeId} {w : World} {base g cap : Nat} {l : List Nat} (h : NRow k e w base (.slice (some ⟨g, 0, none⟩) l.length cap) l) (i x : Nat) :
    NRow k e (w.setCell ⟨g, i, none⟩ (.int k (x : Nat))) base (.slice (some ⟨g, 0, none⟩) l.length cap) (l.set i x) := by
  unfold NRow at *
  rw [List.length_set, vals_set]
  exact (h.stored i _).1
theorem NRow.cell {k : IntKind} {e : TypeId} {w : World} {base g cap n : Nat} {l : List Nat} (h : NRow k e w base (.slice (some ⟨g, 0, none⟩) n cap) l) (i : Nat) (hi : i < l.length) : w.cell? ⟨g, i, none⟩ = some (.int k (l.getD i 0 : Nat)) := by
  obtain ⟨A, c, hv, hl, -⟩ := h.form
  injection hv with h1 h2 h3
  subst h1
  rcases hl with rfl | ⟨b, off, hb, -, hc⟩
  · simp at hi
  · injection hb with hb
    injection hb with h4 h5 h6
    subst h4 h5
    have := hc i hi
    rwa [Nat.zero_add] at this
theorem NRow.froz {k : IntKind} {e : TypeId} {w : World} {base g cap n : Nat} {l : List Nat} (h : NRow k e w base (.slice (some ⟨g, 0, none⟩) n cap) l) (i : Nat) : w.frozen? ⟨g, i, none⟩ = false := by
  unfold NRow at h
  rcases h.2 with ⟨hv, h0⟩ | ⟨g', cap', cur, hv, hb, hg, -⟩
  · cases hv
  · injection hv with h1 h2 h3
    injection h1 with h1
    injection h1 with h1
    subst h1
    simp [World.frozen?, hg]
theorem NRow.slice {k : IntKind} {e : TypeId} {w : World} {base : Nat} {v : Value} {l : List Nat} (h : NRow k e w base v l) (h0 : 0 < l.length) : ∃ g cap, v = .slice (some ⟨g, 0, none⟩) l.length cap ∧ base ≤ g ∧ g < w.heap.size := by
  unfold NRow at h
  rcases h.2 with ⟨hv, h1⟩ | ⟨g, cap, cur, hv, hb, hg, -⟩
  · omega
  · exact ⟨g, cap, hv, hb, (Array.getElem?_eq_some_iff.1 hg).1⟩
section
variable {P : Program} (w : World)
/-- append(own, list...): the list nil, empty or not. -/
theorem run_append_num (k : IntKind) (base : Nat) (t ty e : TypeId) (z : Value) (bytes : Nat) (i : TypeInfo) (ht : P.underlying t = some (.slice e)) (hi : P.info? e = some i) (hz : i.zero = some z) (hsize : i.size = 1) (hby : i.bytes = bytes) (hzs : z.cells.size = 1)
    (v : Value) (l : List Nat) (hown : NRow k e w base v l) (A : Option Addr) (c n : Nat) (m : List Nat) (hn : n = m.length) (hr : LAt w k A m) (h63 : l.length + m.length ≤ maxLen) (hbytes : (l.length + m.length) * bytes ≤ 140737488355328) (hbase : base ≤ w.heap.size) :
    ∃ v' w', (Builtin.append_ #[t, t] ty #[v, .slice A n c]).run P w = .ok v' w' ∧ NRow k e w' base v' (l ++ m) ∧ w.grownBy w' v.ownBlock := by
  subst hn
  have hsz : (0 : Nat) < 1 := by decide
  unfold NRow at *
  rw [List.length_append, vals_append]
  rcases A with _ | ad
  · have hm : m = [] := by
      rcases hr with h | ⟨b, off, h, _⟩
      · exact h
      · cases h
    subst hm
    refine ⟨v, w, ?_, by simpa [vals] using hown, World.grownBy.refl w _⟩
    rcases hown.2 with ⟨rfl, h0⟩ | ⟨g, cap, cur, rfl, _, _, hnc, _⟩
    · simp [Builtin.append_, run_underlying ht, sizeOf, typeInfo, hi, Builtin.lenOf, Builtin.firstCells]
    · simp [Builtin.append_, run_underlying ht, sizeOf, typeInfo, hi, Builtin.lenOf, Builtin.firstCells, hnc, storeCells]
  · have hcells : ∀ j u, (vals k m)[j]? = some u → w.cell? (ad.add j) = some u := by
      intro j u hu
      have hj : j < m.length := by rw [← vals_len k m]; exact (List.getElem?_eq_some_iff.1 hu).1
      rcases hr with h | ⟨b, off, h, _, hc⟩
      · rw [h] at hj; simp at hj
      · injection h with h
        subst h
        rw [vals_get k m j hj] at hu
        rw [← hu, show (⟨b, off, none⟩ : Addr).add j = ⟨b, off + j, none⟩ by unfold Addr.add; split <;> simp_all]
        exact hc j hj
    obtain ⟨v', w', hrun, h2, h3, _, _⟩ := run_append_own_at (P := P) w base t ty e i z 1 bytes ht hi hz hsize hby hzs hsz v l.length (vals k l) hown ad m.length c (vals k m) (by rw [vals_len, Nat.mul_one]) hcells (vals_one k m) h63 hbytes hbase
    exact ⟨v', w', hrun, h2, h3⟩
theorem wpList_append_num {ops : Array Oper} {rest : List Oper} {o : Oper} {a : Act} {Q : Exit → Act → World → Prop} (hgd : o.guard = none) (s x : Operand) (t : TypeId)
    (ho : o.op = .call { callee := .builtin .append, args := #[s, x], argTypes := #[t, t] })
    (k : IntKind) (base : Nat) (e : TypeId) (z : Value) (bytes : Nat) (i : TypeInfo) (ht : P.underlying t = some (.slice e)) (hi : P.info? e = some i) (hz : i.zero = some z) (hsize : i.size = 1) (hby : i.bytes = bytes) (hzs : z.cells.size = 1)
    (v : Value) (l : List Nat) (hs : a.eval s = v) (hown : NRow k e w base v l) (A : Option Addr) (c n : Nat) (m : List Nat) (hx : a.eval x = .slice A n c) (hn : n = m.length) (hr : LAt w k A m) (h63 : l.length + m.length ≤ maxLen) (hbytes : (l.length + m.length) * bytes ≤ 140737488355328) (hbase : base ≤ w.heap.size)
    (h : ∀ v' w', NRow k e w' base v' (l ++ m) → w.grownBy w' v.ownBlock → wpList P ops Q rest (a.put o.dst v') w') : wpList P ops Q (o :: rest) a w := by
  refine wpList_plain hgd fun K hK => ?_
  obtain ⟨v', w', hrun, h2, h3⟩ := run_append_num (P := P) w k base t o.type e z bytes i ht hi hz hsize hby hzs v l hown A c n m hn hr h63 hbytes hbase
  unfold Oper.wp execOp
  simp only [ho, resolve, invoke, builtin, Sem.run_bind, Sem.run_pure, Result.andThen_ok, List.map_toArray, List.map_cons, List.map_nil, hs, hx, hrun]
  exact hK _ _ (h v' w' h2 h3)
end
end Go.Proofs.YtabmalnandbocaaGreatDoor.Num
namespace Go.Proofs.YtabmalnandbocaaGreatDoor.Num
set_option exponentiation.threshold 3000
set_option linter.unusedVariables false
set_option linter.unusedSimpArgs false
open Go.RowKit Go.Proofs.YtabmalnandbocaaGreatDoor.Mem Go.Proofs.YtabmalnandbocaaGreatDoor.Own Go.Proofs.YtabmalnandbocaaGreatDoor.Big

/-- -1, 0 or 1. -/
def cmpI (x y : Nat) : Int := if x < y then -1 else if x = y then 0 else 1
def CmpPost (w : World) (x y : Nat) (e : Ending) (w' : World) : Prop := e = .returned (.int .i64 (cmpI x y)) ∧ ∃ q, w' = w.drewN q
theorem cmp_post {w : World} {x y q : Nat} {z : Int} (h : z = cmpI x y) : CmpPost w x y (.returned (.int .i64 z)) (w.drewN q) := ⟨by rw [h], q, rfl⟩
theorem cmp_post0 {w : World} {x y : Nat} {z : Int} (h : z = cmpI x y) : CmpPost w x y (.returned (.int .i64 z)) w := ⟨by rw [h], 0, rfl⟩
theorem cmpI_lt {x y : Nat} (h : x < y) : -1 = cmpI x y := by unfold cmpI; rw [if_pos h]
theorem cmpI_gt {x y : Nat} (h : y < x) : 1 = cmpI x y := by unfold cmpI; rw [if_neg (by omega), if_neg (by omega)]
theorem cmpI_eq {x y : Nat} (h : x = y) : 0 = cmpI x y := by unfold cmpI; rw [if_neg (by omega), if_pos h]
set_option maxHeartbeats 2000000 in
theorem cmp_w (A : Option Addr) (n c x : Nat) (A' : Option Addr) (n' c' y : Nat) (w : World) (ha : NumAt w A n x) (hb : NumAt w A' n' y) (hm : n < 1099511627700) (hm' : n' < 1099511627700) :
    Calls Tryz.prog 96 #[.slice A n c, .slice A' n' c'] w (CmpPost w x y) := by
  have HA := Lib.hid ha
  have HB := Lib.hid hb
  by_cases hne : n = n'
  · subst hne
    clear ha hb
    have t0 : ((n : Int) != (n : Int)) = false := by simp
    go_enter Tryz.func96, Tryz.ntmps96
    go_wp2_with fail
    go_loopw [5] (fun i wr => ∃ k : Nat, k ≤ n ∧ i = .int .i64 ((k : Int) - 1) ∧ Hid (val B ((digs B x).drop k) = val B ((digs B y).drop k)) ∧ ∃ q, Hid (wr = w.drewN q)) (fun i _ => (intOf i + 1).toNat)
    case atStart => exact ⟨n, Nat.le_refl _, rfl, Lib.hid (by rw [List.drop_of_length_le (by rw [← HA.out.1]; exact Nat.le_refl _), List.drop_of_length_le (by rw [← HB.out.1]; exact Nat.le_refl _)]), 0, Lib.hid rfl⟩
    case round =>
      obtain ⟨k, hk, rfl, HE, q, HQ⟩ := hrel
      by_cases hk0 : k = 0
      · subst hk0
        have HEQ := Lib.hid (show x = y by have := HE.out; rwa [List.drop_zero, List.drop_zero, digs_val hB, digs_val hB] at this)
        have t1 : decide ((0 : Int) ≤ ((0 : Nat) : Int) - 1) = false := by decide
        go_wp2_with fail
        go_ret
        rw [HQ.out]
        exact cmp_post (cmpI_eq HEQ.out)
      · obtain ⟨j, rfl⟩ : ∃ j, k = j + 1 := ⟨k - 1, by omega⟩
        have ej : ((j + 1 : Nat) : Int) - 1 = (j : Int) := by omega
        rw [ej]
        clear ej
        obtain ⟨b, off, rfl, hblt, hac⟩ := HA.out.2.cells (by rw [← HA.out.1]; omega)
        obtain ⟨b', off', rfl, hblt', hbc⟩ := HB.out.2.cells (by rw [← HB.out.1]; omega)
        have ca := (show wr.cell? ⟨b, off + j, none⟩ = w.cell? ⟨b, off + j, none⟩ by rw [HQ.out]; rfl).trans (hac j (by rw [← HA.out.1]; omega))
        have cb := (show wr.cell? ⟨b', off' + j, none⟩ = w.cell? ⟨b', off' + j, none⟩ by rw [HQ.out]; rfl).trans (hbc j (by rw [← HB.out.1]; omega))
        have d1 := val_drop (b := B) (l := digs B x) j (by rw [← HA.out.1]; omega)
        have d2 := val_drop (b := B) (l := digs B y) j (by rw [← HB.out.1]; omega)
        have lt1 := fun h => val_less (digs_dig hB x) (digs_dig hB y) B_pos (i := j) (by rw [← HA.out.1]; omega) (by rw [← HB.out.1]; omega) HE.out h
        have lt2 := fun h => val_less (digs_dig hB y) (digs_dig hB x) B_pos (i := j) (by rw [← HB.out.1]; omega) (by rw [← HA.out.1]; omega) HE.out.symm h
        rw [digs_val hB, digs_val hB] at lt1 lt2
        have b1 := (digs_dig hB x).getD B_pos j
        have b2 := (digs_dig hB y).getD B_pos j
        clear hac hbc
        generalize (digs B x).getD j 0 = p at *
        generalize (digs B y).getD j 0 = r at *
        rw [B_eq] at b1 b2
        have L1 := Lib.hid lt1
        have L2 := Lib.hid lt2
        have D1 := Lib.hid d1
        have D2 := Lib.hid d2
        clear lt1 lt2 d1 d2
        have g0 : (0 : Int) ≤ (j : Int) := by omega
        have g1 : (j : Int) < (n : Int) := by omega
        have t1 : decide ((0 : Int) ≤ (j : Int)) = true := by simp
        by_cases hpr : p = r
        · subst hpr
          have t2 : ((p : Int) != (p : Int)) = false := by simp
          go_wp2_with fail
          go_quiet (fail)
          go_wp2_with fail
          go_roundw
          case rel => exact ⟨j, by omega, rfl, Lib.hid (by rw [D1.out, D2.out, HE.out]), q + nq, Lib.hid (by rw [HQ.out, World.drewN_drewN])⟩
          case measure => simp [intOf]
        · have t2 : ((p : Int) != (r : Int)) = true := by simp; omega
          by_cases hlt : p < r
          · have t3 : decide ((p : Int) < (r : Int)) = true := by simp; omega
            go_wp2_with fail
            go_quiet (fail)
            go_wp2_with fail
            go_quiet (fail)
            go_wp2_with fail
            go_ret
            rw [HQ.out, World.drewN_drewN, World.drewN_drewN]
            exact cmp_post (cmpI_lt (L1.out hlt))
          · have t3 : decide ((p : Int) < (r : Int)) = false := by simp; omega
            go_wp2_with fail
            go_quiet (fail)
            go_wp2_with fail
            go_quiet (fail)
            go_wp2_with fail
            go_ret
            rw [HQ.out, World.drewN_drewN, World.drewN_drewN]
            exact cmp_post (cmpI_gt (L2.out (by omega)))
  · have t0 : ((n : Int) != (n' : Int)) = true := by simp; omega
    by_cases hlt : n < n'
    · have HL := Lib.hid (digs_mono_len hB (m := x) (n := y) (by rw [← ha.1, ← hb.1]; exact hlt))
      have t1 : decide ((n : Int) < (n' : Int)) = true := by simp; omega
      clear ha hb
      go_enter Tryz.func96, Tryz.ntmps96
      go_wp2_with fail
      go_ret
      exact cmp_post0 (cmpI_lt HL.out)
    · have HL := Lib.hid (digs_mono_len hB (m := y) (n := x) (by rw [← ha.1, ← hb.1]; omega))
      have t1 : decide ((n : Int) < (n' : Int)) = false := by simp; omega
      clear ha hb
      go_enter Tryz.func96, Tryz.ntmps96
      go_wp2_with fail
      go_ret
      exact cmp_post0 (cmpI_gt HL.out)
theorem below_own_nil {w w' : World} {n c : Nat} (h : w.grownBy w' (Value.slice none n c).ownBlock) : Below w.heap.size w w' := ⟨h.os, h.tape, h.output, h.size, fun b hb => h.block b hb (by simp [Value.ownBlock])⟩
set_option maxHeartbeats 2000000 in
theorem twin_w (A : Option Addr) (n c x : Nat) (w : World) (ha : NumAt w A n x) (hm : n < 1099511627700) : Calls Tryz.prog 123 #[.slice A n c] w (NumPost w x) := by
  obtain ⟨i, hi, hz, hs, hb⟩ := info_of u32_info
  have HA := Lib.hid ha; clear ha
  go_enter Tryz.func123, Tryz.ntmps123
  go_wp2_with (at_builtin; refine wpList_append_num w rfl _ _ 125 rfl .u32 w.heap.size 94 (.int .u32 0) 4 i Tryz.underlying125 hi hz hs hb rfl _ [] rfl (NRow.nil _ _ _ _) A c n (digs B x) rfl ?c1 ?c2 ?c3 ?c4 (Nat.le_refl _) ?_)
  case c1 => exact HA.out.1
  case c2 => exact HA.out.2
  case c3 => rw [← HA.out.1]; unfold maxLen; simp; omega
  case c4 => rw [← HA.out.1]; simp; omega
  intro v' w' hown hg
  have hb := below_own_nil hg
  have HO := Lib.hid hown
  clear hown hg
  go_wp2_with fail
  go_ret
  obtain ⟨A', c', rfl, hl, -⟩ := HO.out.form
  exact ⟨A', _, c', rfl, ⟨rfl, hl⟩, hb⟩
end Go.Proofs.YtabmalnandbocaaGreatDoor.Num
namespace Go.Proofs.YtabmalnandbocaaGreatDoor.Num
set_option exponentiation.threshold 3000
set_option linter.unusedVariables false
set_option linter.unusedSimpArgs false
open Go.RowKit Go.Proofs.YtabmalnandbocaaGreatDoor.Mem Go.Proofs.YtabmalnandbocaaGreatDoor.Own Go.Proofs.YtabmalnandbocaaGreatDoor.Big

theorem wraps_u64 (n : Int) (h₀ : 0 ≤ n) (h₁ : n < 2 ^ 64) : IntKind.u64.wrap n = n := by
  simp [IntKind.wrap, IntKind.bits, IntKind.signed]
  omega
/-- A high word and a low one. -/
theorem or_hi_lo {h l : Nat} (hh : h < 4294967296) (hl : l < 4294967296) : bits .or .u64 ((h : Int) * 4294967296) (l : Int) = (h : Int) * 4294967296 + l :=
  bits_join .u64 64 (by decide) (fun n a b => wraps_u64 n a b) 32 _ _ (by omega) (by omega) (by omega) (by omega) (by omega) (by omega)
theorem or_lo_hi {h l : Nat} (hh : h < 4294967296) (hl : l < 4294967296) : bits .or .u64 (l : Int) ((h : Int) * 4294967296) = (h : Int) * 4294967296 + l := by
  rw [← or_hi_lo hh hl]
  have h1 := (bits_nat .u64 64 (by decide) (fun n a b => wraps_u64 n a b) l (h * 4294967296) (by omega) (by omega)).2
  have h2 := (bits_nat .u64 64 (by decide) (fun n a b => wraps_u64 n a b) (h * 4294967296) l (by omega) (by omega)).2
  have e : ((h * 4294967296 : Nat) : Int) = (h : Int) * 4294967296 := by omega
  rw [e] at h1 h2
  rw [h1, h2, Nat.or_comm]
theorem and_one {x : Nat} (h : x < 18446744073709551616) : bits .and .u64 (x : Int) 1 = ((x % 2 : Nat) : Int) := by
  have := bits_mask .u64 64 (by decide) (fun n a b => wraps_u64 n a b) 1 (by decide) (x : Int) (by omega) (by omega)
  simpa using this
theorem low_two (x : Nat) : x % 18446744073709551616 = (x / B ^ 1 % B) * 4294967296 + x / B ^ 0 % B := by
  rw [B_eq]; omega
theorem bit_at (x i : Nat) : x / B ^ (i / 32) % B / 2 ^ (i % 32) % 2 = x / 2 ^ i % 2 := by
  have h1 : B ^ (i / 32) = 2 ^ (32 * (i / 32)) := by rw [Nat.pow_mul]; rfl
  have h2 : B = 2 ^ (i % 32) * 2 ^ (32 - i % 32) := by rw [← Nat.pow_add, show i % 32 + (32 - i % 32) = 32 by omega]; rfl
  rw [h1]
  conv => lhs; rw [h2]
  rw [Nat.mod_mul_right_div_self, Nat.mod_mod_of_dvd _ (by
    obtain ⟨j, hj⟩ : ∃ j, 32 - i % 32 = j + 1 := ⟨31 - i % 32, by omega⟩
    rw [hj, Nat.pow_succ]; exact Nat.dvd_mul_left _ _), Nat.div_div_eq_div_mul, ← Nat.pow_add, show 32 * (i / 32) + i % 32 = i by omega]
def U64Post (w : World) (x : Nat) (e : Ending) (w' : World) : Prop := e = .returned (.int .u64 (x : Nat)) ∧ w' = w
theorem u64_post {w : World} {x : Nat} {z : Int} (h : z = x) : U64Post w x (.returned (.int .u64 z)) w := ⟨by rw [h], rfl⟩
set_option maxHeartbeats 2000000 in
theorem plain_w (A : Option Addr) (n c x : Nat) (w : World) (ha : NumAt w A n x) (hm : n < 1099511627700) : Calls Tryz.prog 142 #[.slice A n c] w (U64Post w (x % 18446744073709551616)) := by
  have HA := Lib.hid ha
  have HX := Lib.hid (low_two x)
  rw [← digs_getD hB, ← digs_getD hB] at HX
  by_cases h0 : n = 0
  · have HZ := Lib.hid (ha.len_zero.1 h0)
    subst h0
    clear ha
    go_enter Tryz.func142, Tryz.ntmps142
    go_wp2_with fail
    go_ret
    exact u64_post (by rw [HZ.out]; rfl)
  · obtain ⟨b, off, rfl, hblt, hac⟩ := ha.2.cells (by rw [← ha.1]; omega)
    have c0 := hac 0 (by rw [← ha.1]; omega)
    have b0 := (digs_dig hB x).getD B_pos 0
    have t0 : decide ((0 : Int) < (n : Int)) = true := by simp; omega
    by_cases h1 : n = 1
    · have h2 : (digs B x).getD 1 0 = 0 := getD_end (by rw [← ha.1]; omega)
      rw [h2] at HX
      subst h1
      clear ha hac h2
      rw [Nat.add_zero] at c0
      generalize (digs B x).getD 0 0 = p at *
      rw [B_eq] at b0
      go_enter Tryz.func142, Tryz.ntmps142
      go_wp2_with fail
      go_ret
      exact u64_post (by rw [HX.out]; omega)
    · have c1 := hac 1 (by rw [← ha.1]; omega)
      have b1 := (digs_dig hB x).getD B_pos 1
      have t1 : decide ((1 : Int) < (n : Int)) = true := by simp; omega
      clear ha hac
      rw [Nat.add_zero] at c0
      generalize (digs B x).getD 0 0 = p at *
      generalize (digs B x).getD 1 0 = r at *
      rw [B_eq] at b0 b1
      go_enter Tryz.func142, Tryz.ntmps142
      go_wp2_with fail
      go_ret
      exact u64_post (by rw [HX.out, or_lo_hi b1 b0]; omega)
set_option maxHeartbeats 2000000 in
theorem bit_w (A : Option Addr) (n c x : Nat) (i : Nat) (w : World) (ha : NumAt w A n x) (hm : n < 1099511627700) (hi : i < 1099511627700) : Calls Tryz.prog 136 #[.slice A n c, .int .i64 (i : Nat)] w (U64Post w (x / 2 ^ i % 2)) := by
  have HA := Lib.hid ha
  have HX := Lib.hid (bit_at x i)
  rw [← digs_getD hB] at HX
  have t0 : decide ((i : Int) < 0) = false := by simp
  by_cases h0 : n ≤ i / 32
  · have h2 : (digs B x).getD (i / 32) 0 = 0 := getD_end (by rw [← ha.1]; omega)
    rw [h2] at HX
    have t1 : decide ((n : Int) ≤ (i : Int) / 32) = true := by simp; omega
    clear ha h2
    go_enter Tryz.func136, Tryz.ntmps136
    go_wp2_with fail
    go_ret
    exact u64_post (by rw [← HX.out]; simp)
  · obtain ⟨b, off, rfl, hblt, hac⟩ := ha.2.cells (by rw [← ha.1]; omega)
    have c0 := hac (i / 32) (by rw [← ha.1]; omega)
    have b0 := (digs_dig hB x).getD B_pos (i / 32)
    have t1 : decide ((n : Int) ≤ (i : Int) / 32) = false := by simp; omega
    clear ha hac
    generalize (digs B x).getD (i / 32) 0 = p at *
    rw [B_eq] at b0
    go_enter Tryz.func136, Tryz.ntmps136
    go_wp2_with fail
    go_ret
    refine u64_post ?_
    have e1 : (p : Int) / 2 ^ (i % 32) = ((p / 2 ^ (i % 32) : Nat) : Int) := by simp
    have h2 : p / 2 ^ (i % 32) ≤ p := Nat.div_le_self _ _
    rw [← HX.out, e1]
    generalize p / 2 ^ (i % 32) = q at *
    rw [wraps_u64 _ (by omega) (by omega), and_one (by omega)]
end Go.Proofs.YtabmalnandbocaaGreatDoor.Num
namespace Go.Proofs.YtabmalnandbocaaGreatDoor.Num
set_option exponentiation.threshold 3000
set_option linter.unusedVariables false
set_option linter.unusedSimpArgs false
open Go.RowKit Go.Proofs.YtabmalnandbocaaGreatDoor.Mem Go.Proofs.YtabmalnandbocaaGreatDoor.Own Go.Proofs.YtabmalnandbocaaGreatDoor.Big

/-- The outer loop of mul. -/
structure MulO (w wr : World) (a : List Nat) (y n n' k : Nat) (l : List Nat) : Prop where
  ww : Writes w wr w.heap.size l (n + n')
  eq : val B l = val B (a.take k) * y
  z : ∀ j, k + n' ≤ j → l.getD j 0 = 0
/-- The inner one. -/
structure MulI (w wr : World) (a b : List Nat) (y n n' k j c : Nat) (l : List Nat) : Prop where
  ww : Writes w wr w.heap.size l (n + n')
  eq : val B l + B ^ (k + j) * c = val B (a.take k) * y + a.getD k 0 * (B ^ k * val B (b.take j))
  z : ∀ t, k + n' ≤ t → l.getD t 0 = 0
  c1 : c < B
theorem MulO.inner {w wr : World} {a b : List Nat} {y n n' k : Nat} {l : List Nat} (h : MulO w wr a y n n' k l) : MulI w wr a b y n n' k 0 0 l :=
  ⟨h.ww, by rw [h.eq]; simp [val], h.z, B_pos⟩
theorem MulI.drewN {w wr : World} {a b : List Nat} {y n n' k j c : Nat} {l : List Nat} (h : MulI w wr a b y n n' k j c l) (q : Nat) : MulI w (wr.drewN q) a b y n n' k j c l := ⟨h.ww.drewN q, h.eq, h.z, h.c1⟩
theorem sq_lt {p q c r : Nat} (hp : p < B) (hq : q < B) (hc : c < B) (hr : r < B) : c + (p * q + r) < B * B := by
  have h1 : p * q ≤ (B - 1) * (B - 1) := Nat.mul_le_mul (by omega) (by omega)
  rw [B_eq] at *
  omega
theorem MulI.step {w wr : World} {a b : List Nat} {y n n' k j c : Nat} {l : List Nat} (h : MulI w wr a b y n n' k j c l) (hk : k < n) (hj : j < n') {s : Nat} (ha : a.getD k 0 < B) (hb : b.getD j 0 < B) (hs : s = c + (a.getD k 0 * b.getD j 0 + l.getD (k + j) 0)) :
    MulI w (wr.setCell ⟨w.heap.size, k + j, none⟩ (.int .u32 (s % B : Nat))) a b y n n' k (j + 1) (s / B) (l.set (k + j) (s % B)) := by
  have hlt : s < B * B := by rw [hs]; exact sq_lt ha hb h.c1 (h.ww.dig.getD B_pos _)
  refine ⟨h.ww.set_ _ _ (Nat.mod_lt _ B_pos), ?_, fun t ht => ?_, ?_⟩
  · have e := h.eq
    have e2 := val_set (b := B) l (k + j) (s % B) (by rw [h.ww.len]; omega)
    have hd := Nat.mod_add_div s B
    rw [val_take_succ]
    have e3 : B ^ (k + j) * (s % B) + B ^ (k + (j + 1)) * (s / B) = B ^ (k + j) * s := by
      rw [← Nat.add_assoc, Nat.pow_succ, Nat.mul_assoc, ← Nat.mul_add, hd]
    rw [hs] at e3
    rw [hs] at e2 ⊢
    generalize (c + (a.getD k 0 * b.getD j 0 + l.getD (k + j) 0)) % B = m at *
    generalize (c + (a.getD k 0 * b.getD j 0 + l.getD (k + j) 0)) / B = d at *
    generalize val B (l.set (k + j) m) = V at *
    generalize val B (b.take j) = T at *
    rw [Nat.pow_add] at e e2
    rw [Nat.pow_add B k j] at e3
    generalize B ^ (k + (j + 1)) = P2 at *
    generalize B ^ k = P at *
    generalize B ^ j = Q at *
    grind
  · rw [getD_set, if_neg (by omega)]; exact h.z t ht
  · exact Nat.div_lt_of_lt_mul hlt
theorem MulI.outer {w wr : World} {a b : List Nat} {y n n' k c : Nat} {l : List Nat} (h : MulI w wr a b y n n' k n' c l) (hk : k < n) (hb : val B (b.take n') = y) :
    MulO w (wr.setCell ⟨w.heap.size, k + n', none⟩ (.int .u32 (c : Nat))) a y n n' (k + 1) (l.set (k + n') c) := by
  refine ⟨h.ww.set_ _ _ h.c1, ?_, fun t ht => ?_⟩
  · have e2 := val_put (x := c) (show k + n' < l.length by rw [h.ww.len]; omega) (h.z _ (Nat.le_refl _))
    rw [e2, h.eq, hb, val_take_succ]
    grind
  · rw [getD_set, if_neg (by omega)]; exact h.z t (by omega)
theorem wrap_sum {c p q r : Nat} (h : c + (p * q + r) < 4294967296 * 4294967296) : IntKind.u64.wrap ((c : Int) + IntKind.u64.wrap (IntKind.u64.wrap ((p : Int) * (q : Int)) + (r : Int))) = ((c + (p * q + r) : Nat) : Int) := by
  have e : (p : Int) * (q : Int) = ((p * q : Nat) : Int) := by simp
  rw [e]
  generalize p * q = m at *
  rw [wraps_u64 (m : Int) (by omega) (by omega), wraps_u64 ((m : Int) + r) (by omega) (by omega), wraps_u64 _ (by omega) (by omega)]
  omega
set_option maxHeartbeats 4000000 in
set_option maxRecDepth 100000 in
theorem mul_pos (A : Option Addr) (n c x : Nat) (A' : Option Addr) (n' c' y : Nat) (w : World) (ha : NumAt w A n x) (hb : NumAt w A' n' y) (hm : n < 500000000000) (hm' : n' < 500000000000) (h0 : 0 < n) (h0' : 0 < n') :
    Calls Tryz.prog 110 #[.slice A n c, .slice A' n' c'] w (NumPost w (x * y)) := by
  have hbt : val B ((digs B y).take n') = y := by rw [List.take_of_length_le (by rw [← hb.1]; exact Nat.le_refl _), digs_val hB]
  have hat : val B ((digs B x).take n) = x := by rw [List.take_of_length_le (by rw [← ha.1]; exact Nat.le_refl _), digs_val hB]
  have HBT := Lib.hid hbt
  have HAT := Lib.hid hat
  obtain ⟨b, off, rfl, hblt, hac⟩ := ha.2.cells (by rw [← ha.1]; exact h0)
  obtain ⟨b', off', rfl, hblt', hbc⟩ := hb.2.cells (by rw [← hb.1]; exact h0')
  rw [← ha.1] at hac
  rw [← hb.1] at hbc
  have HAC := Lib.hid hac
  have HBC := Lib.hid hbc
  clear ha hb hbt hat hac hbc
  have t0 : ((n : Int) == 0) = false := by rw [beq_eq_false_iff_ne]; omega
  have t0' : ((n' : Int) == 0) = false := by rw [beq_eq_false_iff_ne]; omega
  have hmk := fun W => make_u32 W ((n : Int) + (n' : Int)) (n + n') (by omega) (by omega)
  go_enter Tryz.func110, Tryz.ntmps110
  go_wp2_with fail
  clear hmk
  go_loopw [6] (fun i wr => ∃ (k : Nat) (l : List Nat), k ≤ n ∧ i = .int .i64 (k : Nat) ∧ MulO w wr (digs B x) y n n' k l) (fun i _ => n - (intOf i).toNat)
  case atStart => exact ⟨0, _, Nat.zero_le _, rfl, Writes.start w (n + n'), by rw [val_zeros]; simp [val], fun j _ => getD_zeros _ j⟩
  case round =>
    obtain ⟨k, l, hk, rfl, hO⟩ := hrel
    by_cases hkn : k < n
    · have hI := hO.inner (b := digs B y)
      have HI := Lib.hid hI
      have hda := (digs_dig hB x).getD B_pos k
      clear hO hI
      have t1 : decide ((k : Int) < (n : Int)) = true := by simp; omega
      go_wp2_with fail
      obtain ⟨wo, rfl⟩ : ∃ wo : World, wo = wr := ⟨_, rfl⟩
      go_loopw [7, 8] (fun cc j wr => ∃ (c j' : Nat) (l : List Nat), j' ≤ n' ∧ cc = .int .u64 (c : Nat) ∧ j = .int .i64 (j' : Nat) ∧ MulI w wr (digs B x) (digs B y) y n n' k j' c l) (fun _ j _ => n' - (intOf j).toNat)
      case atStart => exact ⟨0, 0, l, Nat.zero_le _, rfl, rfl, HI.out⟩
      case round =>
        obtain ⟨cc, j, l2, hj, rfl, rfl, hI⟩ := hrel
        have hbel := hI.ww.bel
        have hcc := hI.c1
        by_cases hjn : j < n'
        · have ca := (hbel.cell (p := ⟨b, off + k, none⟩) hblt).trans (HAC.out k hkn)
          have cb := (hbel.cell (p := ⟨b', off' + j, none⟩) hblt').trans (HBC.out j hjn)
          have cr := Blk.cell hI.ww.blk (k + j)
          rw [arr_get _ _ _ (by rw [hI.ww.len]; omega)] at cr
          have cf := Blk.frozen hI.ww.blk (k + j)
          have hdb := (digs_dig hB y).getD B_pos j
          have hdr := hI.ww.dig.getD B_pos (k + j)
          have hsq := sq_lt hda hdb hcc hdr
          have HS := Lib.hid (fun q s hs => (hI.drewN q).step hkn hjn (s := s) hda hdb hs)
          clear hI hbel
          generalize (digs B x).getD k 0 = p at *
          generalize (digs B y).getD j 0 = r at *
          generalize l2.getD (k + j) 0 = z at *
          rw [B_eq] at hda hdb hdr hcc hsq
          have t2 : decide ((j : Int) < (n' : Int)) = true := by simp; omega
          have g0 : (0 : Int) ≤ (k : Int) := by omega
          have g1 : (k : Int) < (n : Int) := by omega
          have g2 : (0 : Int) ≤ (j : Int) := by omega
          have g3 : (j : Int) < (n' : Int) := by omega
          have g4 : (0 : Int) ≤ (k : Int) + (j : Int) := by omega
          have g5 : (k : Int) + (j : Int) < (n : Int) + (n' : Int) := by omega
          have HSQ := Lib.hid hsq
          clear hsq
          have a1 : IntKind.i64.wrap ((k : Int) + (j : Int)) = (k : Int) + (j : Int) := IntWalk.i64_in _ (by omega)
          have a2 : ((k : Int) + (j : Int)).toNat = k + j := by omega
          go_wp2_with fail
          go_quiet (fail)
          go_wp2_with fail
          go_roundw
          case rel =>
            rw [wrap_sum HSQ.out]
            have e1 : ((cc + (p * r + z) : Nat) : Int) % 4294967296 = (((cc + (p * r + z)) % B : Nat) : Int) := by rw [B_eq]; simp
            rw [e1]
            exact ⟨(cc + (p * r + z)) / B, j + 1, _, by omega, vint (by rw [B_eq]; simp), by go_num, HS.out nq _ rfl⟩
          case measure => simp [intOf]; omega
        · obtain rfl : n' = j := by omega
          have t2 : decide ((n' : Int) < (n' : Int)) = false := by simp
          have cr := Blk.cell hI.ww.blk (k + n')
          rw [arr_get _ _ _ (by rw [hI.ww.len]; omega)] at cr
          have cf := Blk.frozen hI.ww.blk (k + n')
          have HO := Lib.hid (hI.outer hkn HBT.out)
          clear hI hbel
          rw [B_eq] at hcc
          generalize l2.getD (k + n') 0 = z at *
          go_wp2_with fail
          go_roundw
          case rel => exact ⟨k + 1, _, by omega, by go_num, HO.out⟩
          case measure => simp [intOf]; omega
    · obtain rfl : n = k := by omega
      have t1 : decide ((n : Int) < (n : Int)) = false := by simp
      have HT := Lib.hid (trim_w (some ⟨w.heap.size, 0, none⟩) (n + n') (n + n') l _ (by rw [hO.ww.len]) (by omega) (Nat.le_refl _) (LAt.of_blk hO.ww.blk) hO.ww.dig)
      have HO := Lib.hid hO
      clear hO
      go_wp2_with fail
      refine HT.out.mono ?_
      rintro e w2 h2
      have h3 := num_post h2 HO.out.ww.bel (LAt.of_blk HO.out.ww.blk) HO.out.ww.dig (HO.out.eq.trans (by rw [HAT.out]))
      obtain ⟨A2, n2, c2, rfl, h4, h5⟩ := h3
      go_wp2_with fail
      go_ret
      exact ⟨A2, n2, c2, rfl, h4, h5⟩
set_option maxHeartbeats 1000000 in
set_option maxRecDepth 100000 in
theorem mul_w (A : Option Addr) (n c x : Nat) (A' : Option Addr) (n' c' y : Nat) (w : World) (ha : NumAt w A n x) (hb : NumAt w A' n' y) (hm : n < 500000000000) (hm' : n' < 500000000000) :
    Calls Tryz.prog 110 #[.slice A n c, .slice A' n' c'] w (NumPost w (x * y)) := by
  by_cases h0 : n = 0
  · have HX := Lib.hid (ha.len_zero.1 h0)
    subst h0
    clear ha hb
    go_enter Tryz.func110, Tryz.ntmps110
    go_wp2_with fail
    go_ret
    exact ⟨none, 0, 0, rfl, by rw [HX.out, Nat.zero_mul]; exact NumAt.nil _ _, Below.refl _ _⟩
  · by_cases h0' : n' = 0
    · have HX := Lib.hid (hb.len_zero.1 h0')
      have t0 : ((n : Int) == 0) = false := by rw [beq_eq_false_iff_ne]; omega
      subst h0'
      clear ha hb
      go_enter Tryz.func110, Tryz.ntmps110
      go_wp2_with fail
      go_ret
      exact ⟨none, 0, 0, rfl, by rw [HX.out, Nat.mul_zero]; exact NumAt.nil _ _, Below.refl _ _⟩
    · exact mul_pos A n c x A' n' c' y w ha hb hm hm' (by omega) (by omega)
end Go.Proofs.YtabmalnandbocaaGreatDoor.Num
namespace Go.Proofs.YtabmalnandbocaaGreatDoor.Num
set_option exponentiation.threshold 3000
set_option linter.unusedVariables false
set_option linter.unusedSimpArgs false
open Go.RowKit Go.Proofs.YtabmalnandbocaaGreatDoor.Mem Go.Proofs.YtabmalnandbocaaGreatDoor.Own Go.Proofs.YtabmalnandbocaaGreatDoor.Big

/-- The loop of small. -/
structure SmI (w wr : World) (a : List Nat) (n d k r : Nat) (l : List Nat) : Prop where
  ww : Writes w wr w.heap.size l n
  rest : r = val B (a.drop k) % d
  eq : val B l = B ^ k * (val B (a.drop k) / d)
  z : ∀ j, j < k → l.getD j 0 = 0
theorem div_step {d v r q a : Nat} (hd : 0 < d) (hr : r = v % d) (hq : q = v / d) : (a + B * v) / d = B * q + (r * B + a) / d ∧ (a + B * v) % d = (r * B + a) % d := by
  have h := Nat.div_add_mod v d
  have e : a + B * v = (r * B + a) + d * (B * q) := by
    subst hr hq
    conv => lhs; rw [← h]
    rw [Nat.mul_add, Nat.mul_comm (v % d) B, Nat.mul_left_comm]
    omega
  rw [e, Nat.add_mul_div_left _ _ hd, Nat.add_mul_mod_self_left]
  exact ⟨Nat.add_comm _ _, rfl⟩
theorem SmI.step {w wr : World} {a : List Nat} {n d k r : Nat} {l : List Nat} (h : SmI w wr a n d (k + 1) r l) (hn : n = a.length) (hk : k < n) (hd : 0 < d) (hdB : d < B) (ha : a.getD k 0 < B) :
    (r * B + a.getD k 0) / d < B ∧ SmI w (wr.setCell ⟨w.heap.size, k, none⟩ (.int .u32 ((r * B + a.getD k 0) / d : Nat))) a n d k ((r * B + a.getD k 0) % d) (l.set k ((r * B + a.getD k 0) / d)) := by
  have hr : r < d := by rw [h.rest]; exact Nat.mod_lt _ hd
  have hlt : (r * B + a.getD k 0) / d < B := by
    rw [Nat.div_lt_iff_lt_mul hd]
    have : (r + 1) * B ≤ d * B := Nat.mul_le_mul_right _ hr
    rw [Nat.add_mul] at this
    rw [Nat.mul_comm B d]
    omega
  obtain ⟨e1, e2⟩ := div_step (a := a.getD k 0) hd h.rest rfl
  rw [← val_drop k (by omega)] at e1 e2
  refine ⟨hlt, h.ww.set_ _ _ hlt, e2.symm, ?_, fun j hj => ?_⟩
  · rw [val_put (by rw [h.ww.len]; exact hk) (h.z k (by omega)), h.eq, e1, Nat.pow_succ]
    grind
  · rw [getD_set, if_neg (by omega)]; exact h.z j (by omega)
def SmallPost (w : World) (x d : Nat) (e : Ending) (w' : World) : Prop := ∃ A n c, e = .returned (.tuple #[.slice A n c, .int .u32 (x % d : Nat)]) ∧ NumAt w' A n (x / d) ∧ Below w.heap.size w w' ∧ A = some ⟨w.heap.size, 0, none⟩
theorem small_post {w w' : World} {x d r n c : Nat} (h : r = x % d) (h4 : NumAt w' (some ⟨w.heap.size, 0, none⟩) n (x / d)) (h5 : Below w.heap.size w w') : SmallPost w x d (.returned (.tuple #[.slice (some ⟨w.heap.size, 0, none⟩) n c, .int .u32 (r : Nat)])) w' := ⟨_, n, c, by rw [h], h4, h5, rfl⟩
theorem num_post2 {w w1 w2 : World} {A : Option Addr} {c x : Nat} {e : Ending} {l : List Nat} (h : TrimPost w1 A c (val B l) e w2) (hb : Below w.heap.size w w1) (hl : LAt w1 .u32 A l) (hd : Dig B l) (hx : val B l = x) :
    e = .returned (.slice A (digs B x).length c) ∧ NumAt w2 A (digs B x).length x ∧ Below w.heap.size w w2 := by
  obtain ⟨rfl, rfl⟩ := h
  subst hx
  refine ⟨rfl, ⟨rfl, ?_⟩, hb⟩
  rw [← digs_take hB hd]
  exact hl.take _
set_option maxHeartbeats 4000000 in
set_option maxRecDepth 100000 in
theorem small_w (A : Option Addr) (n c x d : Nat) (w : World) (ha : NumAt w A n x) (hm : n < 500000000000) (hd : 0 < d) (hdB : d < 4294967296) :
    Calls Tryz.prog 137 #[.slice A n c, .int .u32 (d : Nat)] w (SmallPost w x d) := by
  have HA := Lib.hid ha; clear ha
  have hmk := fun W => make_u32 W (n : Int) n rfl (by omega)
  have td : ((d : Int) == 0) = false := by rw [beq_eq_false_iff_ne]; omega
  go_enter Tryz.func137, Tryz.ntmps137
  go_wp2_with fail
  clear hmk
  go_loopw [7, 8] (fun rr i wr => ∃ (k r : Nat) (l : List Nat), k ≤ n ∧ rr = .int .u64 (r : Nat) ∧ i = .int .i64 ((k : Int) - 1) ∧ SmI w wr (digs B x) n d k r l) (fun _ i _ => (intOf i + 1).toNat)
  case atStart =>
    have e : (digs B x).drop n = [] := List.drop_of_length_le (by rw [← HA.out.1]; exact Nat.le_refl _)
    exact ⟨n, 0, _, Nat.le_refl _, rfl, rfl, Writes.start w n, by rw [e]; simp [val], by rw [e, val_zeros]; simp [val], fun j _ => getD_zeros _ j⟩
  case round =>
    obtain ⟨k, r, l, hk, rfl, rfl, hI⟩ := hrel
    by_cases hk0 : k = 0
    · subst hk0
      have t1 : decide ((0 : Int) ≤ ((0 : Nat) : Int) - 1) = false := by decide
      have HT := Lib.hid (trim_w (some ⟨w.heap.size, 0, none⟩) n n l _ (by rw [hI.ww.len]) (by omega) (Nat.le_refl _) (LAt.of_blk hI.ww.blk) hI.ww.dig)
      have hr : r < d := by rw [hI.rest]; exact Nat.mod_lt _ hd
      have HR := Lib.hid (show r = x % d by rw [hI.rest, List.drop_zero, digs_val hB])
      have HV := Lib.hid (show val B l = x / d by rw [hI.eq, List.drop_zero, digs_val hB, Nat.pow_zero, Nat.one_mul])
      have HI := Lib.hid hI
      clear hI
      go_wp2_with fail
      refine HT.out.mono ?_
      rintro e w2 h2
      have h3 := num_post2 h2 HI.out.ww.bel (LAt.of_blk HI.out.ww.blk) HI.out.ww.dig HV.out
      obtain ⟨rfl, h4, h5⟩ := h3
      generalize (digs B (x / d)).length = n2 at h4 ⊢
      go_wp2_with fail
      go_ret2
      exact small_post HR.out h4 h5
    · obtain ⟨j, rfl⟩ : ∃ j, k = j + 1 := ⟨k - 1, by omega⟩
      have ej : ((j + 1 : Nat) : Int) - 1 = (j : Int) := by omega
      rw [ej]
      clear ej
      have t1 : decide ((0 : Int) ≤ (j : Int)) = true := by simp
      obtain ⟨b, off, rfl, hblt, hac⟩ := HA.out.2.cells (by rw [← HA.out.1]; omega)
      have ca := (hI.ww.bel.cell (p := ⟨b, off + j, none⟩) hblt).trans (hac j (by rw [← HA.out.1]; omega))
      have cr := Blk.cell hI.ww.blk j
      rw [arr_get _ _ _ (by rw [hI.ww.len]; omega)] at cr
      have cf := Blk.frozen hI.ww.blk j
      have hda := (digs_dig hB x).getD B_pos j
      obtain ⟨hq, hS⟩ := hI.step HA.out.1 (by omega) hd hdB hda
      have hr : r < d := by rw [hI.rest]; exact Nat.mod_lt _ hd
      have HS := Lib.hid hS
      clear hI hS hac
      generalize (digs B x).getD j 0 = p at *
      generalize l.getD j 0 = z at *
      rw [B_eq] at hda
      have hor := or_hi_lo (h := r) (l := p) (by omega) hda
      have eq1 : (((r * B + p) / d : Nat) : Int) = ((r : Int) * 4294967296 + p) / (d : Int) := by rw [B_eq]; simp
      have eq2 : (((r * B + p) % d : Nat) : Int) = ((r : Int) * 4294967296 + p) % (d : Int) := by rw [B_eq]; simp
      rw [eq1] at HS
      have EQ2 := Lib.hid eq2
      have hqi : ((r : Int) * 4294967296 + p) / (d : Int) < 4294967296 := by rw [← eq1]; rw [B_eq] at hq ⊢; exact Int.ofNat_lt.2 hq
      have hqi0 : 0 ≤ ((r : Int) * 4294967296 + p) / (d : Int) := by rw [← eq1]; exact Int.natCast_nonneg _
      have hri0 : 0 ≤ ((r : Int) * 4294967296 + p) := by omega
      clear eq1 eq2 hq
      go_wp2_with fail
      go_roundw
      case rel => exact ⟨j, _, _, by omega, vint EQ2.out.symm, rfl, HS.out⟩
      case measure => simp [intOf]
end Go.Proofs.YtabmalnandbocaaGreatDoor.Num
namespace Go.Proofs.YtabmalnandbocaaGreatDoor.Num
set_option exponentiation.threshold 3000
set_option linter.unusedVariables false
set_option linter.unusedSimpArgs false
open Go.RowKit Go.Proofs.YtabmalnandbocaaGreatDoor.Mem Go.Proofs.YtabmalnandbocaaGreatDoor.Own Go.Proofs.YtabmalnandbocaaGreatDoor.Big

theorem B_split {s : Nat} (h : s ≤ 32) : B = 2 ^ s * 2 ^ (32 - s) := by rw [← Nat.pow_add, show s + (32 - s) = 32 by omega]; rfl
theorem pow_32 (W : Nat) : B ^ W = 2 ^ (32 * W) := by rw [Nat.pow_mul]; rfl
/-- The loop of left. -/
structure LeI (w wr : World) (a : List Nat) (n W s k : Nat) (l : List Nat) : Prop where
  ww : Writes w wr w.heap.size l (n + W + 1)
  eq : val B l = B ^ W * (val B (a.take k) * 2 ^ s)
  top_ : l.getD (k + W) 0 < 2 ^ s
  z : ∀ j, k + W < j → l.getD j 0 = 0
theorem left_or {o p s : Nat} (hs : s < 32) (ho : o < 2 ^ s) (hp : p < B) : bits .or .u32 (o : Int) (((p * 2 ^ s % B : Nat) : Int)) = ((o + p * 2 ^ s % B : Nat) : Int) ∧ o + p * 2 ^ s % B < B := by
  have hB2 := B_split (Nat.le_of_lt hs)
  have h1 : p * 2 ^ s % B = p % 2 ^ (32 - s) * 2 ^ s := by
    conv => lhs; rw [hB2, Nat.mul_comm (2 ^ s)]
    rw [Nat.mul_mod_mul_right]
  have h2 : p % 2 ^ (32 - s) < 2 ^ (32 - s) := Nat.mod_lt _ (Nat.pow_pos (by decide))
  have h3 : o + p * 2 ^ s % B < B := by
    rw [h1]
    have h4 : (p % 2 ^ (32 - s) + 1) * 2 ^ s ≤ 2 ^ (32 - s) * 2 ^ s := Nat.mul_le_mul_right _ h2
    rw [Nat.mul_comm (2 ^ (32 - s)), ← hB2, Nat.add_mul] at h4
    omega
  refine ⟨?_, h3⟩
  have h5 : p * 2 ^ s % B < B := Nat.mod_lt _ B_pos
  have hu : ∀ n : Int, 0 ≤ n → n < 2 ^ 32 → IntKind.u32.wrap n = n := fun n a b => by rw [IntKind.wrap_u32]; omega
  have h6 := (bits_nat .u32 32 (by decide) hu o (p * 2 ^ s % B) (by rw [B_eq] at *; omega) (by rw [B_eq] at *; omega)).2
  rw [h6]
  congr 1
  rw [h1, Nat.mul_comm (p % 2 ^ (32 - s)), Nat.or_comm, ← Nat.two_pow_add_eq_or_of_lt ho, Nat.add_comm]
theorem zero_or {x : Nat} (h : x < B) : bits .or .u32 ((0 : Nat) : Int) (x : Int) = (x : Int) := by
  have hu : ∀ n : Int, 0 ≤ n → n < 2 ^ 32 → IntKind.u32.wrap n = n := fun n a b => by rw [IntKind.wrap_u32]; omega
  have h6 := (bits_nat .u32 32 (by decide) hu 0 x (by omega) (by rw [B_eq] at *; omega)).2
  rw [h6, Nat.zero_or]
theorem shift_div {p s : Nat} (hs : s < 32) (hp : p < B) : p * 2 ^ s / B < 2 ^ s := by
  rw [Nat.div_lt_iff_lt_mul B_pos, Nat.mul_comm]
  exact Nat.mul_lt_mul_of_pos_left hp (Nat.pow_pos (by decide))
theorem LeI.step {w wr : World} {a : List Nat} {n W s k : Nat} {l : List Nat} (h : LeI w wr a n W s k l) (hk : k < n) (hs : s < 32) (ha : a.getD k 0 < B) {o p : Nat} (ho : o = l.getD (k + W) 0) (hp : p = a.getD k 0) :
    LeI w ((wr.setCell ⟨w.heap.size, k + W, none⟩ (.int .u32 (o + p * 2 ^ s % B : Nat))).setCell ⟨w.heap.size, k + W + 1, none⟩ (.int .u32 (p * 2 ^ s / B : Nat))) a n W s (k + 1) ((l.set (k + W) (o + p * 2 ^ s % B)).set (k + W + 1) (p * 2 ^ s / B)) := by
  subst ho hp
  obtain ⟨-, h3⟩ := left_or hs h.top_ ha
  have h4 := shift_div hs ha
  have hsB : 2 ^ s ≤ B := by rw [B_split (Nat.le_of_lt hs)]; exact Nat.le_mul_of_pos_right _ (Nat.pow_pos (by decide))
  refine ⟨(h.ww.set_ _ _ h3).set_ _ _ (by omega), ?_, ?_, fun j hj => ?_⟩
  · have hz : (l.set (k + W) (l.getD (k + W) 0 + a.getD k 0 * 2 ^ s % B)).getD (k + W + 1) 0 = 0 := by rw [getD_set, if_neg (by omega)]; exact h.z _ (by omega)
    have e1 := val_put (l := l.set (k + W) (l.getD (k + W) 0 + a.getD k 0 * 2 ^ s % B)) (x := a.getD k 0 * 2 ^ s / B) (by rw [List.length_set, h.ww.len]; omega) hz
    have e2 := val_set (b := B) l (k + W) (l.getD (k + W) 0 + a.getD k 0 * 2 ^ s % B) (by rw [h.ww.len]; omega)
    rw [e1, val_take_succ]
    have e3 := h.eq
    have hd := Nat.mod_add_div (a.getD k 0 * 2 ^ s) B
    generalize a.getD k 0 * 2 ^ s % B = m at *
    generalize a.getD k 0 * 2 ^ s / B = d at *
    generalize val B (l.set (k + W) (l.getD (k + W) 0 + m)) = V at *
    generalize val B (a.take k) = T at *
    rw [Nat.pow_succ]
    rw [Nat.pow_add] at e2 ⊢
    generalize B ^ k = P at *
    generalize B ^ W = Q at *
    grind
  · rw [getD_set, if_pos ⟨by omega, by rw [List.length_set, h.ww.len]; omega⟩]; exact h4
  · rw [getD_set, if_neg (by omega), getD_set, if_neg (by omega)]; exact h.z _ (by omega)
theorem shift_wrap {p s : Nat} (hs : s < 32) (hp : p < 4294967296) : IntKind.u64.wrap ((p : Int) * 2 ^ s) = ((p * 2 ^ s : Nat) : Int) ∧ ((p * 2 ^ s : Nat) : Int) % 4294967296 = ((p * 2 ^ s % B : Nat) : Int) ∧ ((p * 2 ^ s : Nat) : Int) / 4294967296 % 4294967296 = ((p * 2 ^ s / B : Nat) : Int) := by
  have h1 : 2 ^ s ≤ 2 ^ 31 := Nat.pow_le_pow_right (by decide) (by omega)
  have h2 : p * 2 ^ s ≤ 4294967295 * 2 ^ 31 := Nat.mul_le_mul (by omega) h1
  have e : (p : Int) * 2 ^ s = ((p * 2 ^ s : Nat) : Int) := by simp
  rw [e, B_eq]
  generalize p * 2 ^ s = m at *
  exact ⟨wraps_u64 _ (by omega) (by omega), by omega, by omega⟩
set_option maxHeartbeats 4000000 in
set_option maxRecDepth 100000 in
theorem left_pos (A : Option Addr) (n c x sh : Nat) (w : World) (ha : NumAt w A n x) (hm : n < 50000000000) (hsh : sh < 50000000000) (h0 : 0 < n) :
    Calls Tryz.prog 95 #[.slice A n c, .int .u64 (sh : Nat)] w (NumPost w (x * 2 ^ sh)) := by
  have hat : val B ((digs B x).take n) = x := by rw [List.take_of_length_le (by rw [← ha.1]; exact Nat.le_refl _), digs_val hB]
  have HAT := Lib.hid hat
  obtain ⟨b, off, rfl, hblt, hac⟩ := ha.2.cells (by rw [← ha.1]; exact h0)
  rw [← ha.1] at hac
  have HAC := Lib.hid hac
  clear ha hat hac
  have HP := Lib.hid (show B ^ (sh / 32) * (x * 2 ^ (sh % 32)) = x * 2 ^ sh by rw [pow_32, Nat.mul_left_comm, ← Nat.pow_add, show 32 * (sh / 32) + sh % 32 = sh by omega])
  have t0 : ((n : Int) == 0) = false := by rw [beq_eq_false_iff_ne]; omega
  have hmk := fun W => make_u32 W ((n : Int) + (sh : Int) / 32 + 1) (n + sh / 32 + 1) (by omega) (by omega)
  have hs32 : sh % 32 < 32 := by omega
  have hW : sh / 32 < 50000000000 := by omega
  have eW : (sh : Int) / 32 = ((sh / 32 : Nat) : Int) := by omega
  have eS : (sh : Int) % 32 = ((sh % 32 : Nat) : Int) := by omega
  have EW := Lib.hid eW
  have ES := Lib.hid eS
  clear eW eS
  go_enter Tryz.func95, Tryz.ntmps95
  go_wp2_with fail
  clear hmk
  rw [EW.out, ES.out]
  generalize sh / 32 = W at *
  generalize sh % 32 = s at *
  go_loopw [8, 9] (fun i v wr => ∃ (k : Nat) (l : List Nat), k ≤ n ∧ i = .int .i64 (k : Nat) ∧ LeI w wr (digs B x) n W s k l) (fun i _ _ => n - (intOf i).toNat)
  case atStart => exact ⟨0, _, Nat.zero_le _, rfl, Writes.start w (n + W + 1), by rw [val_zeros]; simp [val], by rw [getD_zeros]; exact Nat.pow_pos (by decide), fun j _ => getD_zeros _ j⟩
  case round =>
    obtain ⟨k, l, hk, rfl, hI⟩ := hrel
    by_cases hkn : k < n
    · have ca := (hI.ww.bel.cell (p := ⟨b, off + k, none⟩) hblt).trans (HAC.out k hkn)
      have hda := (digs_dig hB x).getD B_pos k
      have cr := Blk.cell hI.ww.blk (k + W)
      rw [arr_get _ _ _ (by rw [hI.ww.len]; omega)] at cr
      have cf := Blk.frozen hI.ww.blk (k + W)
      have cr2 := Blk.cell hI.ww.blk (k + W + 1)
      rw [arr_get _ _ _ (by rw [hI.ww.len]; omega), hI.z (k + W + 1) (by omega)] at cr2
      have cf2 := Blk.frozen hI.ww.blk (k + W + 1)
      have HS := Lib.hid (fun o p ho hp => hI.step hkn hs32 hda (o := o) (p := p) ho hp)
      have htop := hI.top_
      clear hI
      generalize (digs B x).getD k 0 = p at *
      generalize l.getD (k + W) 0 = o at *
      obtain ⟨ho1, ho2⟩ := left_or hs32 htop hda
      have hsd := shift_div hs32 hda
      have hz := zero_or (x := p * 2 ^ s / B) (Nat.lt_of_lt_of_le hsd (by rw [B_split (Nat.le_of_lt hs32)]; exact Nat.le_mul_of_pos_right _ (Nat.pow_pos (by decide))))
      rw [B_eq] at hda
      have t1 : decide ((k : Int) < (n : Int)) = true := by simp; omega
      go_wp2_with fail
      go_roundw
      case rel =>
        obtain ⟨e1, e2, e3⟩ := shift_wrap hs32 hda
        rw [e1, e2, e3, ho1, show (0 : Int) = ((0 : Nat) : Int) from rfl, hz]
        exact ⟨k + 1, _, by omega, by go_num, HS.out o p rfl rfl⟩
      case measure => simp [intOf]; omega
    · obtain rfl : n = k := by omega
      have t1 : decide ((n : Int) < (n : Int)) = false := by simp
      have HT := Lib.hid (trim_w (some ⟨w.heap.size, 0, none⟩) (n + W + 1) (n + W + 1) l _ (by rw [hI.ww.len]) (by omega) (Nat.le_refl _) (LAt.of_blk hI.ww.blk) hI.ww.dig)
      have HV := Lib.hid (show val B l = x * 2 ^ sh by rw [hI.eq, HAT.out, HP.out])
      have HI := Lib.hid hI
      clear hI
      go_wp2_with fail
      refine HT.out.mono ?_
      rintro e w2 h2
      have h3 := num_post h2 HI.out.ww.bel (LAt.of_blk HI.out.ww.blk) HI.out.ww.dig HV.out
      obtain ⟨A2, n2, c2, rfl, h4, h5⟩ := h3
      go_wp2_with fail
      go_ret
      exact ⟨A2, n2, c2, rfl, h4, h5⟩
set_option maxHeartbeats 1000000 in
theorem left_w (A : Option Addr) (n c x sh : Nat) (w : World) (ha : NumAt w A n x) (hm : n < 50000000000) (hsh : sh < 50000000000) :
    Calls Tryz.prog 95 #[.slice A n c, .int .u64 (sh : Nat)] w (NumPost w (x * 2 ^ sh)) := by
  by_cases h0 : n = 0
  · have HX := Lib.hid (ha.len_zero.1 h0)
    subst h0
    clear ha
    go_enter Tryz.func95, Tryz.ntmps95
    go_wp2_with fail
    go_ret
    exact ⟨none, 0, 0, rfl, by rw [HX.out, Nat.zero_mul]; exact NumAt.nil _ _, Below.refl _ _⟩
  · exact left_pos A n c x sh w ha hm hsh (by omega)
/-- The loop of right. -/
structure RiI (w wr : World) (X n k : Nat) (l : List Nat) : Prop where
  ww : Writes w wr w.heap.size l n
  eq : val B l = X % B ^ k
  z : ∀ j, k ≤ j → l.getD j 0 = 0
theorem mod_succ (X k : Nat) : X % B ^ (k + 1) = X % B ^ k + B ^ k * (X / B ^ k % B) := by
  rw [Nat.pow_succ, Nat.mod_mul]
theorem RiI.step {w wr : World} {X n k : Nat} {l : List Nat} (h : RiI w wr X n k l) (hk : k < n) : RiI w (wr.setCell ⟨w.heap.size, k, none⟩ (.int .u32 (X / B ^ k % B : Nat))) X n (k + 1) (l.set k (X / B ^ k % B)) :=
  ⟨h.ww.set_ _ _ (Nat.mod_lt _ B_pos), by rw [val_put (by rw [h.ww.len]; exact hk) (h.z k (Nat.le_refl _)), h.eq, mod_succ], set_zero h.z⟩
/-- A word of what is shifted. -/
theorem right_word (x W s k : Nat) (hs : s < 32) : x / 2 ^ (32 * W + s) / B ^ k % B = (x / B ^ (k + W) % B + x / B ^ (k + W + 1) % B * B) / 2 ^ s % B := by
  have h1 : x / 2 ^ (32 * W + s) / B ^ k = x / B ^ (k + W) / 2 ^ s := by
    rw [Nat.div_div_eq_div_mul, Nat.div_div_eq_div_mul, pow_32 k, pow_32 (k + W), ← Nat.pow_add, ← Nat.pow_add]
    congr 2; omega
  have h2 : x / B ^ (k + W + 1) = x / B ^ (k + W) / B := by rw [Nat.pow_succ, Nat.div_div_eq_div_mul]
  rw [h1, h2]
  generalize x / B ^ (k + W) = y
  have hB2 := B_split (Nat.le_of_lt hs)
  have e : y = (y % B + y / B % B * B) + 2 ^ s * (B * (2 ^ (32 - s) * (y / B / B))) := by
    have a1 := Nat.mod_add_div y B
    have a2 := Nat.mod_add_div (y / B) B
    have a3 : 2 ^ s * (B * (2 ^ (32 - s) * (y / B / B))) = B * (B * (y / B / B)) := by
      conv => rhs; lhs; rw [hB2]
      grind
    rw [a3]
    conv => lhs; rw [← a1, ← a2]
    grind
  conv => lhs; rw [e]
  rw [Nat.add_mul_div_left _ _ (Nat.pow_pos (by decide)), Nat.add_mul_mod_self_left]
set_option maxHeartbeats 4000000 in
set_option maxRecDepth 100000 in
theorem right_some (A : Option Addr) (n c x sh : Nat) (w : World) (ha : NumAt w A n x) (hm : n < 50000000000) (hsh : sh < 50000000000) (h0 : sh / 32 < n) :
    Calls Tryz.prog 143 #[.slice A n c, .int .u64 (sh : Nat)] w (NumPost w (x / 2 ^ sh)) := by
  obtain ⟨b, off, rfl, hblt, hac⟩ := ha.2.cells (by rw [← ha.1]; omega)
  have hxl := digs_lt hB x
  rw [← ha.1] at hac hxl
  have hdg := fun j => digs_getD hB x j
  have HDG := Lib.hid hdg
  have HAC := Lib.hid hac
  have hend : ∀ j, n ≤ j → (digs B x).getD j 0 = 0 := fun j hj => getD_end (by rw [← ha.1]; exact hj)
  have HEND := Lib.hid hend
  have hs32 : sh % 32 < 32 := by omega
  have hXl : x / 2 ^ sh < B ^ (n - sh / 32) := by
    rw [Nat.div_lt_iff_lt_mul (Nat.pow_pos (by decide))]
    refine Nat.lt_of_lt_of_le hxl ?_
    have h1 : B ^ n = B ^ (n - sh / 32) * B ^ (sh / 32) := by rw [← Nat.pow_add]; congr 1; omega
    rw [h1]
    refine Nat.mul_le_mul_left _ ?_
    rw [pow_32]
    exact Nat.pow_le_pow_right (by decide) (by omega)
  have HXL := Lib.hid hXl
  have HW := Lib.hid (fun k => right_word x (sh / 32) (sh % 32) k hs32)
  rw [show 32 * (sh / 32) + sh % 32 = sh by omega] at HW
  clear ha hac hxl hdg hend hXl
  have hmk := fun W => make_u32 W ((n : Int) - (sh : Int) / 32) (n - sh / 32) (by omega) (by omega)
  have eW : (sh : Int) / 32 = ((sh / 32 : Nat) : Int) := by omega
  have eS : (sh : Int) % 32 = ((sh % 32 : Nat) : Int) := by omega
  have EW := Lib.hid eW
  have ES := Lib.hid eS
  have t0 : decide ((n : Int) ≤ (sh : Int) / 32) = false := by simp; omega
  clear eW eS
  go_enter Tryz.func143, Tryz.ntmps143
  go_wp2_with fail
  clear hmk t0
  rw [EW.out, ES.out]
  generalize sh / 32 = W at *
  generalize sh % 32 = s at *
  obtain ⟨m, rfl⟩ : ∃ m, n = W + m := ⟨n - W, by omega⟩
  rw [Nat.add_sub_cancel_left]
  go_loopw [8, 9] (fun i v wr => ∃ (k : Nat) (l : List Nat), k ≤ m ∧ i = .int .i64 (k : Nat) ∧ RiI w wr (x / 2 ^ sh) m k l) (fun i _ _ => m - (intOf i).toNat)
  case atStart => exact ⟨0, _, Nat.zero_le _, rfl, by simpa using Writes.start w m, by rw [val_zeros, Nat.pow_zero, Nat.mod_one], fun j _ => getD_zeros _ j⟩
  case round =>
    obtain ⟨k, l, hk, rfl, hI⟩ := hrel
    by_cases hkn : k < m
    · have ca := (hI.ww.bel.cell (p := ⟨b, off + (k + W), none⟩) hblt).trans (HAC.out (k + W) (by omega))
      rw [HDG.out] at ca
      have cr := Blk.cell hI.ww.blk k
      rw [arr_get _ _ _ (by rw [hI.ww.len]; omega)] at cr
      have cf := Blk.frozen hI.ww.blk k
      have HS := Lib.hid (hI.step hkn)
      have hword := HW.out k
      have hp : x / B ^ (k + W) % B < B := Nat.mod_lt _ B_pos
      have t1 : decide ((k : Int) < (m : Int)) = true := by simp; omega
      by_cases hk1 : k + W + 1 < W + m
      · have ca2 := (hI.ww.bel.cell (p := ⟨b, off + (k + W + 1), none⟩) hblt).trans (HAC.out (k + W + 1) hk1)
        rw [HDG.out] at ca2
        have hr : x / B ^ (k + W + 1) % B < B := Nat.mod_lt _ B_pos
        have t2 : decide ((k : Int) + (W : Int) + 1 < (W : Int) + (m : Int)) = true := by simp; omega
        have HWD := Lib.hid hword
        clear hI hword
        generalize x / B ^ (k + W) % B = p at *
        generalize x / B ^ (k + W + 1) % B = r at *
        rw [B_eq] at hp hr
        have hor := or_lo_hi hr hp
        generalize l.getD k 0 = z at *
        go_wp2_with fail
        go_roundw
        case rel =>
          have e1 : ((r : Int) * 4294967296 + (p : Int)) / 2 ^ s % 4294967296 = (((p + r * B) / 2 ^ s % B : Nat) : Int) := by
            rw [B_eq, show (r : Int) * 4294967296 + (p : Int) = ((p + r * 4294967296 : Nat) : Int) by omega]; simp
          rw [e1, ← HWD.out]
          exact ⟨k + 1, _, by omega, by go_num, HS.out⟩
        case measure => simp [intOf]; omega
      · have t2 : decide ((k : Int) + (W : Int) + 1 < (W : Int) + (m : Int)) = false := by simp; omega
        have hr : x / B ^ (k + W + 1) % B = 0 := by rw [← HDG.out]; exact HEND.out _ (by omega)
        rw [hr, Nat.zero_mul, Nat.add_zero] at hword
        have HWD := Lib.hid hword
        clear hI hword hr
        generalize x / B ^ (k + W) % B = p at *
        rw [B_eq] at hp
        generalize l.getD k 0 = z at *
        go_wp2_with fail
        go_roundw
        case rel =>
          have e1 : (p : Int) / 2 ^ s % 4294967296 = ((p / 2 ^ s % B : Nat) : Int) := by rw [B_eq]; simp
          rw [e1, ← HWD.out]
          exact ⟨k + 1, _, by omega, by go_num, HS.out⟩
        case measure => simp [intOf]; omega
    · obtain rfl : m = k := by omega
      have t1 : decide ((m : Int) < (m : Int)) = false := by simp
      have HT := Lib.hid (trim_w (some ⟨w.heap.size, 0, none⟩) m m l _ (by rw [hI.ww.len]) (by omega) (Nat.le_refl _) (LAt.of_blk hI.ww.blk) hI.ww.dig)
      have HV := Lib.hid (show val B l = x / 2 ^ sh by rw [hI.eq]; exact Nat.mod_eq_of_lt (by have := HXL.out; rwa [Nat.add_sub_cancel_left] at this))
      have HI := Lib.hid hI
      clear hI
      go_wp2_with fail
      refine HT.out.mono ?_
      rintro e w2 h2
      have h3 := num_post h2 HI.out.ww.bel (LAt.of_blk HI.out.ww.blk) HI.out.ww.dig HV.out
      obtain ⟨A2, n2, c2, rfl, h4, h5⟩ := h3
      go_wp2_with fail
      go_ret
      exact ⟨A2, n2, c2, rfl, h4, h5⟩
set_option maxHeartbeats 1000000 in
theorem right_w (A : Option Addr) (n c x sh : Nat) (w : World) (ha : NumAt w A n x) (hm : n < 50000000000) (hsh : sh < 50000000000) :
    Calls Tryz.prog 143 #[.slice A n c, .int .u64 (sh : Nat)] w (NumPost w (x / 2 ^ sh)) := by
  by_cases h0 : n ≤ sh / 32
  · have hz : x / 2 ^ sh = 0 := by
      have hxl := digs_lt hB x
      rw [← ha.1] at hxl
      rw [Nat.div_eq_of_lt]
      refine Nat.lt_of_lt_of_le hxl ?_
      rw [pow_32]
      exact Nat.pow_le_pow_right (by decide) (by omega)
    have HX := Lib.hid hz
    have t0 : decide ((n : Int) ≤ (sh : Int) / 32) = true := by simp; omega
    clear ha hz
    go_enter Tryz.func143, Tryz.ntmps143
    go_wp2_with fail
    go_ret
    exact ⟨none, 0, 0, rfl, by rw [HX.out]; exact NumAt.nil _ _, Below.refl _ _⟩
  · exact right_some A n c x sh w ha hm hsh (by omega)
end Go.Proofs.YtabmalnandbocaaGreatDoor.Num
