/- Chapters 13 and 14 (floats, shortest): contracts of nearer, comes, round, Digits. No conditions beside those that each contract names. -/
import Derived.Test.YtabmalnandbocaaGreatDoorMA
import Derived.Test.YtabmalnandbocaaGreatDoorProg
import Derived.Lib.Hide
import Derived.Lib.ConvBytes
import Derived.Lib.AtoiErrMem
import Derived.Laws.IdiomStrings
import Derived.Lib.SmallJoins
import Derived.Lib.IndexBytes
import Derived.WalkSpells
import Derived.Test.YtabmalnandbocaaGreatDoorMN
import Derived.Test.YtabmalnandbocaaGreatDoorMP
import Derived.Test.YtabmalnandbocaaGreatDoorShelf
import Derived.Test.YtabmalnandbocaaGreatDoorMB
namespace Go.Proofs.YtabmalnandbocaaGreatDoor.Str
set_option exponentiation.threshold 3000
set_option linter.unusedVariables false
set_option linter.unusedSimpArgs false
open Go.RowKit Go.Proofs.YtabmalnandbocaaGreatDoor.Mem
theorem sl_to (t : ByteArray) (i : Int) (o : Nat) (hi : i = (o : Int)) (h : o ≤ t.size) : ∃ P : ByteArray, (∀ w1 : World, (Instr.slice 9 (.string t) none (some (.int .i64 i)) none).run Tryz.prog w1 = .ok (.string P) w1) ∧ P.data.toList = t.data.toList.take o ∧ P.size = o :=
  ⟨t.extract 0 o, fun w1 => by subst hi; rw [run_slice_string_to_if w1 9 t .i64 (o : Int) Tryz.underlying9, if_pos ⟨by omega, by omega⟩]; rfl, by simp, by simp; omega⟩
theorem sl_from (t : ByteArray) (i : Int) (o : Nat) (hi : i = (o : Int)) (h : o ≤ t.size) : ∃ P : ByteArray, (∀ w1 : World, (Instr.slice 9 (.string t) (some (.int .i64 i)) none none).run Tryz.prog w1 = .ok (.string P) w1) ∧ P.data.toList = t.data.toList.drop o ∧ P.size = t.size - o :=
  ⟨t.extract o t.size, fun w1 => by subst hi; rw [run_slice_string_from_if w1 9 t .i64 (o : Int) Tryz.underlying9, if_pos ⟨by omega, by omega⟩]; rfl, by rw [Lib.extract_to_end], by simp⟩
/-- Block g begins with these bytes, none of them marked. -/
def BRow (w : World) (g : Nat) (l : List UInt8) : Prop := g < w.heap.size ∧ (∀ j (h : j < l.length), w.cell? ⟨g, j, none⟩ = some (.int .u8 (l[j].toNat : Int))) ∧ (∀ j, j < l.length → w.frozen? ⟨g, j, none⟩ = false)
section
variable {w w' : World} {g : Nat} {l : List UInt8}
theorem BRow.set (h : BRow w g l) (i : Nat) (c : UInt8) (hi : i < l.length) : BRow (w.setCell ⟨g, i, none⟩ (.int .u8 (c.toNat : Int))) g (l.set i c) := by
  obtain ⟨h1, h2, h3⟩ := h
  refine ⟨by simpa [World.setCell] using h1, fun j hj => ?_, fun j hj => ?_⟩
  · rw [List.length_set] at hj
    by_cases e : i = j
    · subst e
      rw [World.cell?_setCell_same _ _ _ (h2 i hi), List.getElem_set_self]
    · rw [World.cell?_setCell_other _ _ _ _ (by intro he; injection he with _ he; exact e he), List.getElem_set_ne e]
      exact h2 j hj
  · rw [List.length_set] at hj
    rw [World.frozen?_setCell]
    exact h3 j hj
theorem BRow.below {B : Nat} (h : BRow w g l) (hb : Below B w w') (hg : g < B) : BRow w' g l :=
  ⟨Nat.lt_of_lt_of_le h.1 hb.size, fun j hj => (hb.cell (p := ⟨g, j, none⟩) hg).trans (h.2.1 j hj), fun j hj => (hb.frozen (p := ⟨g, j, none⟩) hg).trans (h.2.2 j hj)⟩
theorem BRow.drewN (h : BRow w g l) (n : Nat) : BRow (w.drewN n) g l := h
theorem BRow.far (h : BRow w g l) {p : Addr} (hp : p.block ≠ g) (u : Value) : BRow (w.setCell p u) g l :=
  ⟨by simpa [World.setCell] using h.1, fun j hj => by rw [World.cell?_setCell_other _ _ _ _ (by intro he; exact hp (by rw [he]))]; exact h.2.1 j hj, fun j hj => by rw [World.frozen?_setCell]; exact h.2.2 j hj⟩
end
theorem conv_in (s : ByteArray) (w : World) : ∃ cap W', (convert 9 60 (.string s)).run Tryz.prog w = .ok (.slice (some ⟨w.heap.size, 0, none⟩) s.size cap) W' ∧ Below w.heap.size w W' ∧ W'.heap.size = w.heap.size + 1 ∧ BRow W' w.heap.size s.data.toList :=
  ⟨_, _, Lib.run_convert_string_bytes (P := Tryz.prog) w 9 60 5 s Tryz.underlying9 Tryz.underlying60 Tryz.underlying5,
    Lib.bytesWorld_below w _ s, Lib.bytesWorld_size w _ s, by rw [Lib.bytesWorld_size]; omega, fun j hj => by
      have hj' : j < s.size := by simpa using hj
      rw [Lib.bytesWorld_cell w _ s j hj', List.getD_eq_getElem?_getD, List.getElem?_eq_getElem hj]; rfl, fun j hj => by
      have hj' : j < s.size := by simpa using hj
      have hm : (Lib.bytesCells w 5 s).size = s.size + ((Lib.bytesCells w 5 s).size - s.size) := by unfold Lib.bytesCells; simp
      simp only [World.frozen?, Lib.bytesWorld_at_new]
      rw [decide_eq_false (by omega)]; rfl⟩
theorem conv_out (w : World) (g cap : Nat) (l : List UInt8) (h : ∀ j (h : j < l.length), w.cell? ⟨g, j, none⟩ = some (.int .u8 (l[j].toNat : Int))) (z : Nat) (hz : z = l.length) : (convert 60 9 (.slice (some ⟨g, 0, none⟩) z cap)).run Tryz.prog w = .ok (.string ⟨l.toArray⟩) w := by
  subst hz
  refine run_convert_bytes_back (P := Tryz.prog) w 60 9 5 ⟨g, 0, none⟩ cap l Tryz.underlying60 Tryz.underlying5 Tryz.underlying9 fun j hj => ?_
  rw [show (⟨g, 0, none⟩ : Addr).add j = ⟨g, j, none⟩ by simp [Addr.add]; omega]
  exact h j hj
end Go.Proofs.YtabmalnandbocaaGreatDoor.Str
namespace Go.Proofs.YtabmalnandbocaaGreatDoor.Num
set_option exponentiation.threshold 3000
set_option linter.unusedVariables false
set_option linter.unusedSimpArgs false
set_option exponentiation.threshold 3000
open Go.RowKit Go.Proofs.YtabmalnandbocaaGreatDoor.Mem Go.Proofs.YtabmalnandbocaaGreatDoor.Own Go.Proofs.YtabmalnandbocaaGreatDoor.Big Go.Proofs.YtabmalnandbocaaGreatDoor.Str
open Ieee (double single)
def NrPost (w : World) (b : Bool) (e : Ending) (w' : World) : Prop := e = .returned (.bool b) ∧ Below w.heap.size w w'
theorem cb_bd (l m : List UInt8) : Lib.compareBytes l m = -1 ∨ Lib.compareBytes l m = 0 ∨ Lib.compareBytes l m = 1 := by
  induction l generalizing m with
  | nil => cases m <;> simp [Lib.compareBytes]
  | cons c l ih =>
    cases m with
    | nil => simp [Lib.compareBytes]
    | cons d m =>
      unfold Lib.compareBytes
      split
      · exact .inl rfl
      · split
        · exact .inr (.inr rfl)
        · exact ih m
set_option maxHeartbeats 1000000 in
theorem nearer_w (neg : Bool) (s : ByteArray) (e : Int) (n : Nat) (w : World) (h : Canon s.data.toList) (h1 : 1 ≤ n) (h2 : n < s.size) (hsm : s.size < 140737488355328) :
    Calls Tryz.prog 28 #[.agg #[.bool neg, .string s, .int .i64 e], .int .i64 (n : Nat)] w (NrPost w (nrF s.data.toList n)) := by
  have hn1 : n - 1 < s.size := by omega
  have hlen : s.data.toList.length = s.size := by simp
  have hnr := nr_cmp h h1 (by omega)
  obtain ⟨P, hP, hPl, hPs⟩ := sl_from s (n : Int) n rfl (by omega)
  have hc := fun W => Tryz.strings_Compare P ⟨#[53]⟩ W
  rw [hPl, show (⟨#[53]⟩ : ByteArray).data.toList = [53] from rfl] at hc
  have hb := cb_bd (s.data.toList.drop n) [53]
  generalize Lib.compareBytes (s.data.toList.drop n) [53] = c at hnr hc hb
  have HC := Lib.hid hc
  replace hnr : nrF s.data.toList n = (decide (0 < c) || (decide (c = 0) && decide ((s[n - 1]'hn1).toNat % 2 = 1))) := hnr
  have B0 := Lib.hid ((Below.refl _ w).alloc (Nat.le_refl _) (.cells #[.bool neg, .string s, .int .i64 e] 32))
  have hx := (s[n - 1]'hn1).toNat_lt
  clear hc hPl hlen
  have HPS := Lib.hid hPs
  clear hPs
  have t9 : (n : Int) - 1 = ((n - 1 : Nat) : Int) := by omega
  rcases hb with rfl | rfl | rfl
  · have HN := Lib.hid hnr
    clear hnr
    go_enter Tryz.func28, Tryz.ntmps28
    go_wp2_with fail
    refine (HC.out _).mono ?_
    rintro en w1 ⟨rfl, hw1⟩
    subst hw1
    go_wp2_with fail
    go_ret
    exact ⟨by rw [HN.out]; rfl, B0.out⟩
  · have hnr' : nrF s.data.toList n = decide ((s[n - 1]'hn1).toNat % 2 = 1) := by rw [hnr]; simp
    have HN := Lib.hid hnr'
    have t1 : (((s[n - 1]'hn1).toNat : Int) % 2 == 1) = decide ((s[n - 1]'hn1).toNat % 2 = 1) := by
      by_cases hz : (s[n - 1]'hn1).toNat % 2 = 1
      · rw [decide_eq_true hz, beq_iff_eq]; omega
      · rw [decide_eq_false hz, beq_eq_false_iff_ne]; omega
    clear hnr hnr'
    go_enter Tryz.func28, Tryz.ntmps28
    go_wp2_with fail
    refine (HC.out _).mono ?_
    rintro en w1 ⟨rfl, hw1⟩
    subst hw1
    go_wp2_with (simp only [t9])
    go_ret
    exact ⟨by rw [HN.out]; first | rfl | (simp only [t1]), B0.out⟩
  · have HN := Lib.hid hnr
    clear hnr
    go_enter Tryz.func28, Tryz.ntmps28
    go_wp2_with fail
    refine (HC.out _).mono ?_
    rintro en w1 ⟨rfl, hw1⟩
    subst hw1
    go_wp2_with fail
    go_ret
    exact ⟨by rw [HN.out]; rfl, B0.out⟩
/-- Does a decimal come to the float of these bits? -/
noncomputable def cmB (neg : Bool) (l : List UInt8) (e : Int) (x : Nat) : Bool := decide (near64 l e ≠ 9218868437227405312 ∧ double.word neg (near64 l e) = x)
set_option maxHeartbeats 1000000 in
theorem comes_w (neg : Bool) (s : ByteArray) (e : Int) (x : Nat) (w : World) (hf : Form s.data.toList e) (hsm : s.size < 140737488355328) :
    Calls Tryz.prog 30 #[.agg #[.bool neg, .string s, .int .i64 e], .float .f64 x] w (NrPost w (cmB neg s.data.toList e x)) := by
  obtain ⟨n, hn⟩ : ∃ n, n = near64 s.data.toList e := ⟨_, rfl⟩
  have hbits := bits_run
  unfold cmB
  rw [← hn]
  have hb0 := Blk.new w 32 #[.bool neg, .string s, .int .i64 e]
  have d0 := hb0.cell 0
  have d1 := hb0.cell 1
  have d2 := hb0.cell 2
  simp at d0 d1 d2
  have B0 := Lib.hid ((Below.refl _ w).alloc (Nat.le_refl _) (.cells #[.bool neg, .string s, .int .i64 e] 32))
  clear hb0
  by_cases htop : n = 9218868437227405312
  · have HO := Lib.hid (fun W => of_overS neg s e W hf hsm (hn.symm.trans htop))
    clear hn hf
    subst htop
    go_enter Tryz.func30, Tryz.ntmps30
    go_wp2_with fail
    refine (HO.out _).mono ?_
    rintro en w1 ⟨rfl, b1⟩
    have B1 := Lib.hid (bthen B0.out b1)
    clear b1
    go_wp2_with fail
    go_ret
    exact ⟨by rw [decide_eq_false (by simp)]; rfl, B1.out⟩
  · have HO := Lib.hid (fun W => of_okS neg s e n W hf hsm hn.symm htop)
    clear hn hf
    have HT := Lib.hid htop
    clear htop
    obtain ⟨y, hy⟩ : ∃ y, y = double.word neg n := ⟨_, rfl⟩
    rw [← hy] at HO ⊢
    have t1 : (((x : Nat) : Int) == (y : Int)) = decide (n ≠ 9218868437227405312 ∧ y = x) := by
      by_cases hz : y = x
      · rw [decide_eq_true ⟨HT.out, hz⟩, beq_iff_eq]; omega
      · rw [decide_eq_false (fun h => hz h.2), beq_eq_false_iff_ne]; omega
    have HT1 := Lib.hid t1
    clear hy t1
    go_enter Tryz.func30, Tryz.ntmps30
    go_wp2_with fail
    refine (HO.out _).mono ?_
    rintro en w1 ⟨rfl, b1⟩
    have B1 := Lib.hid (bthen B0.out b1)
    clear b1
    go_wp2_with fail
    go_ret
    exact ⟨by rw [← HT1.out]; rfl, B1.out⟩
end Go.Proofs.YtabmalnandbocaaGreatDoor.Num
namespace Go.Proofs.YtabmalnandbocaaGreatDoor.Num
set_option exponentiation.threshold 3000
set_option linter.unusedVariables false
set_option linter.unusedSimpArgs false
set_option exponentiation.threshold 3000
open Go.RowKit Go.Proofs.YtabmalnandbocaaGreatDoor.Mem Go.Proofs.YtabmalnandbocaaGreatDoor.Own Go.Proofs.YtabmalnandbocaaGreatDoor.Big Go.Proofs.YtabmalnandbocaaGreatDoor.Str
open Ieee (double single)
/-- Trimmed digits are the told form. -/
theorem trim_tl {L : List UInt8} {N : Nat} (hd : isDigs L) (hv : dval L = N) (hh : ∀ c, L.head? = some c → c.toNat ≠ 48) (h0 : N ≠ 0) :
    Lib.trimRightB L 48 = tl N ∧ (Lib.trimRightB L 48).length ≤ L.length ∧ ∀ e : Int, e + (L.length : Int) - ((Lib.trimRightB L 48).length : Int) = te N e := by
  obtain ⟨z, hz⟩ := drop_last 48 L
  have hz' : L = Lib.trimRightB L 48 ++ List.replicate z 48 := hz
  have hlen := congrArg List.length hz'
  rw [List.length_append, List.length_replicate] at hlen
  have hT : Told N (Lib.trimRightB L 48) z := by
    refine Told.of (a := 0) hd hv (by simpa using hz') (fun c hc => ?_) (fun c hc => ?_)
    · refine hh c ?_
      rw [hz']
      cases hl : Lib.trimRightB L 48 with
      | nil => rw [hl] at hc; simp at hc
      | cons d l => rw [hl] at hc; simpa using hc
    · have := trim_last 48 L c hc
      exact fun e => this (UInt8.toNat_inj.1 e)
  obtain ⟨h1, h2⟩ := hT.tl
  refine ⟨h1, by omega, fun e => ?_⟩
  rw [← h2 e, if_neg (hT.ne h0)]
  omega
theorem byte_one {c : UInt8} (h : c.toNat ≤ 57) : (c + 1).toNat = c.toNat + 1 := by rw [UInt8.toNat_add]; show (c.toNat + 1) % 256 = _; omega
/-- The bytes while the carry goes down: as many of the digits as are left, noughts behind. -/
def carr (l : List UInt8) (n j : Nat) : List UInt8 := l.take j ++ List.replicate (n - j) 48
theorem carr_len {l : List UInt8} {n j : Nat} (hn : n ≤ l.length) (hj : j ≤ n) : (carr l n j).length = n := by unfold carr; simp; omega
theorem carr_at {l : List UInt8} {n j : Nat} (hn : n ≤ l.length) (hj : j < n) (h : j < (carr l n (j + 1)).length) : (carr l n (j + 1))[j] = l[j]'(by omega) := by
  have e : (carr l n (j + 1))[j]? = l[j]? := by
    unfold carr
    rw [List.getElem?_append_left (by simp; omega), List.getElem?_take, if_pos (by omega)]
  rw [List.getElem?_eq_getElem h, List.getElem?_eq_getElem (by omega)] at e
  exact Option.some.inj e
theorem carr_set {l : List UInt8} {n j : Nat} (c : UInt8) (hn : n ≤ l.length) (hj : j < n) : (carr l n (j + 1)).set j c = l.take j ++ [c] ++ List.replicate (n - (j + 1)) 48 := by
  unfold carr
  rw [List.take_succ_eq_append_getElem (by omega), List.append_assoc, List.set_append_right _ _ (by simp; omega)]
  simp [show min j l.length = j by omega]
theorem carr_next {l : List UInt8} {n j : Nat} (c : UInt8) (hn : n ≤ l.length) (hj : j < n) : ((carr l n (j + 1)).set j (c + 1)).set j 48 = carr l n j := by
  rw [List.set_set, carr_set 48 hn hj]
  unfold carr
  rw [List.append_assoc]
  congr 1
  rw [show n - j = n - (j + 1) + 1 by omega, List.replicate_succ]
  rfl
theorem carr_digs {l : List UInt8} (hd : isDigs l) (n j : Nat) : isDigs (carr l n j) := by
  intro c hc
  unfold carr at hc
  rw [List.mem_append] at hc
  rcases hc with hc | hc
  · exact hd c (List.mem_of_mem_take hc)
  · rw [(List.mem_replicate.1 hc).2]; decide
theorem take_head {l : List UInt8} {n : Nat} (hn : 1 ≤ n) (h : ∀ c, l.head? = some c → c.toNat ≠ 48) : ∀ c, (l.take n).head? = some c → c.toNat ≠ 48 := by
  intro c hc
  refine h c ?_
  cases l with
  | nil => simp at hc
  | cons d l =>
    obtain ⟨n, rfl⟩ : ∃ m, n = m + 1 := ⟨n - 1, by omega⟩
    simpa using hc
section
variable {P : Program}
/-- An append whose run is known. -/
theorem wpList_append_run {w : World} {ops : Array Oper} {rest : List Oper} {o : Oper} {a : Act} {Q : Exit → Act → World → Prop} (hgd : o.guard = none) (s x : Operand) (t : TypeId)
    (ho : o.op = .call { callee := .builtin .append, args := #[s, x], argTypes := #[t, t] }) (v y : Value) (hs : a.eval s = v) (hx : a.eval x = y) (v' : Value) (w' : World)
    (hrun : (Builtin.append_ #[t, t] o.type #[v, y]).run P w = .ok v' w') (h : wpList P ops Q rest (a.put o.dst v') w') : wpList P ops Q (o :: rest) a w := by
  refine wpList_plain hgd fun K hK => ?_
  unfold Oper.wp execOp
  simp only [ho, resolve, invoke, builtin, Sem.run_bind, Sem.run_pure, Result.andThen_ok, List.map_toArray, List.map_cons, List.map_nil, hs, hx, hrun]
  exact hK _ _ h
end
theorem app_front (c : UInt8) (g cap n : Nat) (l : List UInt8) (w : World) (hn : n = l.length) (hl : l.length < 140737488355327) (h : BRow w g l) :
    ∃ g' cap' w', (Builtin.append_ #[60, 60] 60 #[.slice (some ⟨w.heap.size, 0, none⟩) 1 1, .slice (some ⟨g, 0, none⟩) n cap]).run Tryz.prog (w.alloc (.cells #[.int .u8 (c.toNat : Int)] 5)) = .ok (.slice (some ⟨g', 0, none⟩) (n + 1) cap') w' ∧
      Below w.heap.size w w' ∧ ∀ j (hj : j < (c :: l).length), w'.cell? ⟨g', j, none⟩ = some (.int .u8 ((c :: l)[j].toNat : Int)) := by
  subst hn
  obtain ⟨i8, hi8, hz8, hs8, hb8⟩ := info_of u8_info
  have hrow : NRow .u8 5 (w.alloc (.cells #[.int .u8 (c.toNat : Int)] 5)) w.heap.size (.slice (some ⟨w.heap.size, 0, none⟩) 1 1) [c.toNat] :=
    World.ownsRow_lit w #[.int .u8 (c.toNat : Int)] 1 (Nat.le_refl _) (by unfold maxLen; omega) rfl
  have hat : LAt (w.alloc (.cells #[.int .u8 (c.toNat : Int)] 5)) .u8 (some ⟨g, 0, none⟩) (l.map UInt8.toNat) := by
    refine .inr ⟨g, 0, rfl, by have := h.1; simp; omega, fun j hj => ?_⟩
    rw [List.length_map] at hj
    rw [Nat.zero_add, World.cell?_alloc_lt _ _ _ h.1, h.2.1 j hj, List.getD_eq_getElem?_getD, List.getElem?_map, List.getElem?_eq_getElem hj]
    rfl
  obtain ⟨v', w', hrun, h2, h3⟩ := run_append_num (P := Tryz.prog) (w.alloc (.cells #[.int .u8 (c.toNat : Int)] 5)) .u8 w.heap.size 60 60 5 (.int .u8 0) 1 i8 Tryz.underlying60 hi8 hz8 hs8 hb8 rfl _ [c.toNat] hrow (some ⟨g, 0, none⟩) cap l.length (l.map UInt8.toNat) (by simp) hat (by unfold maxLen; simp; omega) (by simp; omega) (by simp)
  have e1 : [c.toNat] ++ l.map UInt8.toNat = (c :: l).map UInt8.toNat := rfl
  rw [e1] at h2
  obtain ⟨g', cap', hv, hg', -⟩ := h2.slice (by simp)
  subst hv
  refine ⟨g', cap', w', by rw [hrun]; simp, ?_, fun j hj => ?_⟩
  · refine ((Below.refl _ w).alloc (Nat.le_refl _) (.cells #[.int .u8 (c.toNat : Int)] 5)).trans ?_
    exact ⟨h3.os, h3.tape, h3.output, h3.size, fun k hk => h3.block k (by simp; omega) (by simp [Value.ownBlock]; omega)⟩
  · rw [h2.cell j (by simpa using hj), List.getD_eq_getElem?_getD, List.getElem?_map, List.getElem?_eq_getElem hj]
    rfl
theorem carr_stop {l : List UInt8} {n k : Nat} (h : Canon l) (hn : n ≤ l.length) (hk : k < n) (hkl : k < l.length) (hc : (l[k]'hkl).toNat ≤ 56) :
    isDigs ((carr l n (k + 1)).set k (l[k]'hkl + 1)) ∧ dval ((carr l n (k + 1)).set k (l[k]'hkl + 1)) = (dval (l.take (k + 1)) + 1) * 10 ^ (n - (k + 1)) ∧
      (∀ c, ((carr l n (k + 1)).set k (l[k]'hkl + 1)).head? = some c → c.toNat ≠ 48) ∧ ((carr l n (k + 1)).set k (l[k]'hkl + 1)).length = n := by
  have h48 := (h.digs (l[k]'hkl) (List.getElem_mem _)).1
  have hb := byte_one (c := l[k]'hkl) (by omega)
  rw [carr_set _ hn hk]
  refine ⟨fun c hc' => ?_, ?_, fun c hc' => ?_, by simp; omega⟩
  · rw [List.mem_append, List.mem_append] at hc'
    rcases hc' with (hc' | hc') | hc'
    · exact h.digs c (List.mem_of_mem_take hc')
    · rw [List.mem_singleton.1 hc', hb]; omega
    · rw [(List.mem_replicate.1 hc').2]; decide
  · rw [carry_stop (l.take k) (l[k]'hkl) (n - (k + 1)) ⟨h48, hc⟩, List.take_succ_eq_append_getElem hkl]
  · rcases Nat.eq_zero_or_pos k with rfl | hk0
    · simp at hc'
      subst hc'
      omega
    · refine take_head hk0 h.head c ?_
      rw [List.append_assoc, List.head?_append] at hc'
      cases ht : (l.take k).head? with
      | none =>
        rw [List.head?_eq_none_iff] at ht
        have : (l.take k).length = 0 := by rw [ht]; rfl
        rw [List.length_take] at this; omega
      | some d => rw [ht] at hc'; simpa using hc'
theorem carr_out {l : List UInt8} (n : Nat) : isDigs (49 :: carr l n 0) ∧ dval (49 :: carr l n 0) = (dval (l.take 0) + 1) * 10 ^ (n - 0) ∧ (∀ c, (49 :: carr l n 0).head? = some c → c.toNat ≠ 48) := by
  have e : carr l n 0 = List.replicate n 48 := by unfold carr; simp
  rw [e]
  refine ⟨fun c hc => ?_, carry_out n, fun c hc => ?_⟩
  · rcases List.mem_cons.1 hc with rfl | hc
    · decide
    · rw [(List.mem_replicate.1 hc).2]; decide
  · simp at hc; subst hc; decide
def RdPost (w : World) (neg : Bool) (l : List UInt8) (e : Int) (en : Ending) (w' : World) : Prop := en = .returned (decV neg l e) ∧ Below w.heap.size w w'
set_option maxHeartbeats 4000000 in
set_option maxRecDepth 100000 in
theorem round_no (neg : Bool) (s : ByteArray) (e : Int) (n : Nat) (w : World) (h : Canon s.data.toList) (h1 : 1 ≤ n) (h2 : n ≤ s.size) (hsm : s.size < 140737488355328) (he1 : -1073741824 ≤ e) (he2 : e ≤ 1073741824) :
    Calls Tryz.prog 29 #[.agg #[.bool neg, .string s, .int .i64 e], .int .i64 (n : Nat), .bool false] w (RdPost w neg (cL s.data.toList n false) (cE s.data.toList e n false)) := by
  have hlen : s.data.toList.length = s.size := by simp
  have HLEN := Lib.hid hlen
  obtain ⟨P, hP, hPl, hPs⟩ := sl_to s (n : Int) n rfl h2
  obtain ⟨cap, W1, hcv, b1, hz1, hr1⟩ := conv_in P ((w.alloc (.cells #[.bool neg, .string s, .int .i64 e] 32)).alloc (.cells #[.bool false, .string ⟨#[]⟩, .int .i64 0] 32))
  have hbx := ((Blk.new w 32 #[.bool neg, .string s, .int .i64 e]).alloc (.cells #[.bool false, .string ⟨#[]⟩, .int .i64 0] 32))
  have HBX := Lib.hid (hbx.below b1 hbx.lt)
  have hbr := Blk.new (w.alloc (.cells #[.bool neg, .string s, .int .i64 e] 32)) 32 #[.bool false, .string ⟨#[]⟩, .int .i64 0]
  have HBR := Lib.hid (hbr.below b1 hbr.lt)
  have HBel := Lib.hid (bthen (((Below.refl _ w).alloc (Nat.le_refl _) (.cells #[.bool neg, .string s, .int .i64 e] 32)).alloc (by simp) (.cells #[.bool false, .string ⟨#[]⟩, .int .i64 0] 32)) b1)
  rw [hPl] at hr1
  have HB0 := Lib.hid hr1
  have e0 := HBX.out.cell 0
  have e1 := HBX.out.cell 1
  have e2 := HBX.out.cell 2
  simp at e0 e1 e2
  simp at hcv HB0 HBR
  have HN0 := Lib.hid (cN_pos h h1 (by omega) false)
  have hLs : (s.data.toList.take n).length = n := by simp; omega
  have HM := Lib.hid hLs.symm
  have HD := Lib.hid (show isDigs (s.data.toList.take n) from fun c hc => h.digs c (List.mem_of_mem_take hc))
  have HV := Lib.hid (show dval (s.data.toList.take n) = cN s.data.toList n false by unfold cN; simp)
  have HH := Lib.hid (take_head h1 h.head)
  have HPS := Lib.hid hPs
  rw [hPs] at hcv
  clear hPl hr1 b1 hbx hbr hlen hz1 hPs hLs h
  generalize s.data.toList.take n = L at *
  have HB := Lib.hid HB0.out.2.1
  go_enter Tryz.func29, Tryz.ntmps29
  go_wp2_with fail
  refine wp_loop_rounds 1 ?_
  rw [rounds_succ]
  have HTR := Lib.hid (trim_tl HD.out HV.out HH.out HN0.out)
  have hco := conv_out W1 (w.heap.size + 1 + 1) cap L HB.out (n) HM.out
  have HT := Lib.hid (show Calls Tryz.prog 53 #[.string ⟨(L).toArray⟩, .string ⟨#[48]⟩] W1 (fun e w' => e = .returned (.string ⟨(Lib.trimRightB (L) 48).toArray⟩) ∧ w' = W1) from Tryz.strings_TrimRight_one ⟨(L).toArray⟩ 48 (by decide) W1 (by have := HM.out; simp [ByteArray.size]; omega))
  have htl := HTR.out.2.1
  rw [← HM.out] at htl
  have htl2 := HTR.out.2.2 (e + ((s.data.toList.length - n : Nat) : Int))
  rw [← HM.out] at htl2
  generalize hTT : Lib.trimRightB (L) 48 = tr at HT HTR htl htl2
  have HTT := Lib.hid hTT
  have HTE := Lib.hid htl2
  have d0 := HBX.out.cell 0
  simp at d0
  have r0 := HBR.out.cell 0
  have r1 := HBR.out.cell 1
  have r2 := HBR.out.cell 2
  simp at r0 r1 r2
  have fr0 := HBR.out.frozen 0
  have fr1 := HBR.out.frozen 1
  have fr2 := HBR.out.frozen 2
  have trs : (⟨tr.toArray⟩ : ByteArray).size = tr.length := by simp [ByteArray.size]
  clear hTT htl2
  go_wp2_with fail
  refine HT.out.mono ?_
  rintro en w4 ⟨rfl, hw4⟩
  subst hw4
  go_wp2_with fail
  have hk3 := ((HBR.out.set_ 0 (.bool neg)).set_ 1 (.string ⟨tr.toArray⟩)).set_ 2 (.int .i64 (e + (s.size : Int) - (tr.length : Int)))
  have hbf := ((HBel.out.setCell (p := ⟨w.heap.size + 1, 0, none⟩) (by simp) (.bool neg)).setCell (p := ⟨w.heap.size + 1, 1, none⟩) (by simp) (.string ⟨tr.toArray⟩)).setCell (p := ⟨w.heap.size + 1, 2, none⟩) (by simp) (.int .i64 (e + (s.size : Int) - (tr.length : Int)))
  generalize ((World.setCell _ _ _).setCell _ _).setCell _ _ = Wf at hk3 hbf ⊢
  have q0 : Wf.cell? ⟨w.heap.size + 1, 0, none⟩ = some (.bool neg) := hk3.cell 0
  have q1 : Wf.cell? ⟨w.heap.size + 1, 1, none⟩ = some (.string ⟨tr.toArray⟩) := hk3.cell 1
  have q2 : Wf.cell? ⟨w.heap.size + 1, 2, none⟩ = some (.int .i64 (e + (s.size : Int) - (tr.length : Int))) := hk3.cell 2
  refine bodyPost_ret (v := decV neg tr (e + (s.size : Int) - (tr.length : Int))) (by simp [results, Tryz.results29, go_sem, q0, q1, q2]) rfl ⟨?_, hbf⟩
  unfold cL cE
  rw [← HTR.out.1]
  rw [← HTE.out, show (((s.data.toList.length - n : Nat) : Nat) : Int) = (s.size : Int) - (n : Int) by have := HLEN.out; omega]
  rw [show e + ((s.size : Int) - (n : Int)) + (((n : Nat)) : Int) - (tr.length : Int) = e + (s.size : Int) - (tr.length : Int) by omega]
set_option maxHeartbeats 8000000 in
set_option maxRecDepth 100000 in
theorem round_yes (neg : Bool) (s : ByteArray) (e : Int) (n : Nat) (w : World) (h : Canon s.data.toList) (h1 : 1 ≤ n) (h2 : n ≤ s.size) (hsm : s.size < 140737488355327) (he1 : -1073741824 ≤ e) (he2 : e ≤ 1073741824) :
    Calls Tryz.prog 29 #[.agg #[.bool neg, .string s, .int .i64 e], .int .i64 (n : Nat), .bool true] w (RdPost w neg (cL s.data.toList n true) (cE s.data.toList e n true)) := by
  have hlen : s.data.toList.length = s.size := by simp
  have HLEN := Lib.hid hlen
  obtain ⟨P, hP, hPl, hPs⟩ := sl_to s (n : Int) n rfl h2
  obtain ⟨cap, W1, hcv, b1, hz1, hr1⟩ := conv_in P ((w.alloc (.cells #[.bool neg, .string s, .int .i64 e] 32)).alloc (.cells #[.bool false, .string ⟨#[]⟩, .int .i64 0] 32))
  have hbx := ((Blk.new w 32 #[.bool neg, .string s, .int .i64 e]).alloc (.cells #[.bool false, .string ⟨#[]⟩, .int .i64 0] 32))
  have HBX1 := Lib.hid (hbx.below b1 hbx.lt)
  have hbr := Blk.new (w.alloc (.cells #[.bool neg, .string s, .int .i64 e] 32)) 32 #[.bool false, .string ⟨#[]⟩, .int .i64 0]
  have HBR1 := Lib.hid (hbr.below b1 hbr.lt)
  have HBel1 := Lib.hid (bthen (((Below.refl _ w).alloc (Nat.le_refl _) (.cells #[.bool neg, .string s, .int .i64 e] 32)).alloc (by simp) (.cells #[.bool false, .string ⟨#[]⟩, .int .i64 0] 32)) b1)
  rw [hPl] at hr1
  have HB1 := Lib.hid hr1
  have e0 := HBX1.out.cell 0
  have e1 := HBX1.out.cell 1
  have e2 := HBX1.out.cell 2
  simp at e0 e1 e2
  simp at hcv HB1 HBR1
  have HN0 := Lib.hid (cN_pos h h1 (by omega) true)
  have HC := Lib.hid h
  have HPS := Lib.hid hPs
  rw [hPs] at hcv
  clear hPl hr1 b1 hbx hbr hlen hz1 hPs h
  go_enter Tryz.func29, Tryz.ntmps29
  go_wp2_with fail
  go_loopw [7, 9] (fun bv i wl => ∃ j : Nat, j ≤ n ∧ i = .int .i64 ((j : Int) - 1) ∧ bv = .slice (some ⟨w.heap.size + 1 + 1, 0, none⟩) n cap ∧ Hid ((dval (s.data.toList.take j) + 1) * 10 ^ (n - j) = cN s.data.toList n true) ∧ Hid (BRow wl (w.heap.size + 1 + 1) (carr s.data.toList n j)) ∧ Hid (Blk wl w.heap.size 32 #[.bool neg, .string s, .int .i64 e]) ∧ Hid (Blk wl (w.heap.size + 1) 32 #[.bool false, .string ⟨#[]⟩, .int .i64 0]) ∧ Hid (Below w.heap.size w wl)) (fun _ i _ => (intOf i + 1).toNat)
  case atStart =>
    refine ⟨n, Nat.le_refl _, rfl, rfl, Lib.hid ?_, ?_, HBX1, HBR1, HBel1⟩
    · unfold cN; simp
    · unfold carr; simp; exact HB1
  case round =>
    obtain ⟨j, hj, rfl, rfl, HD0, HBW, HBX, HBR, HBel⟩ := hrel
    by_cases hj0 : j = 0
    · have hLn : (carr s.data.toList n j).length = n := carr_len (by have := HLEN.out; omega) hj
      obtain ⟨g', cap', W2, happ, b2, hc2⟩ := app_front 49 (w.heap.size + 1 + 1) cap n (carr s.data.toList n j) wr hLn.symm (by rw [hLn]; omega) HBW.out
      obtain ⟨o1, o2, o3⟩ := carr_out (l := s.data.toList) n
      rw [← hj0] at o1 o2 o3
      have HD := Lib.hid o1
      have HV := Lib.hid (o2.trans HD0.out)
      have HH := Lib.hid o3
      have HM := Lib.hid (show n + 1 = (49 :: carr s.data.toList n j).length by rw [List.length_cons, hLn])
      have HB := Lib.hid hc2
      replace HBX := Lib.hid (HBX.out.below b2 HBX.out.lt)
      replace HBR := Lib.hid (HBR.out.below b2 HBR.out.lt)
      replace HBel := Lib.hid (bthen HBel.out b2)
      have t1 : decide ((j : Int) - 1 < 0) = true := decide_eq_true (by omega)
      have t2 : (j : Int) < 1 := by omega
      have e49 : ((49 : UInt8).toNat : Int) = 49 := rfl
      rw [e49] at happ
      clear o1 o2 o3 hc2 b2 hLn hj0
      generalize (49 :: carr s.data.toList n j) = L at *
      have HTR := Lib.hid (trim_tl HD.out HV.out HH.out HN0.out)
      have hco := conv_out W2 g' cap' L HB.out (n + 1) HM.out
      have HT := Lib.hid (show Calls Tryz.prog 53 #[.string ⟨(L).toArray⟩, .string ⟨#[48]⟩] W2 (fun e w' => e = .returned (.string ⟨(Lib.trimRightB (L) 48).toArray⟩) ∧ w' = W2) from Tryz.strings_TrimRight_one ⟨(L).toArray⟩ 48 (by decide) W2 (by have := HM.out; simp [ByteArray.size]; omega))
      have htl := HTR.out.2.1
      rw [← HM.out] at htl
      have htl2 := HTR.out.2.2 (e + ((s.data.toList.length - n : Nat) : Int))
      rw [← HM.out] at htl2
      generalize hTT : Lib.trimRightB (L) 48 = tr at HT HTR htl htl2
      have HTT := Lib.hid hTT
      have HTE := Lib.hid htl2
      have d0 := HBX.out.cell 0
      simp at d0
      have r0 := HBR.out.cell 0
      have r1 := HBR.out.cell 1
      have r2 := HBR.out.cell 2
      simp at r0 r1 r2
      have fr0 := HBR.out.frozen 0
      have fr1 := HBR.out.frozen 1
      have fr2 := HBR.out.frozen 2
      have trs : (⟨tr.toArray⟩ : ByteArray).size = tr.length := by simp [ByteArray.size]
      clear hTT htl2
      go_wp2_with (at_builtin; refine wpList_append_run rfl _ _ 60 rfl _ _ rfl rfl _ _ happ ?_)
      refine HT.out.mono ?_
      rintro en w4 ⟨rfl, hw4⟩
      subst hw4
      go_wp2_with fail
      have hk3 := ((HBR.out.set_ 0 (.bool neg)).set_ 1 (.string ⟨tr.toArray⟩)).set_ 2 (.int .i64 (e + (s.size : Int) - (n : Int) + ((n : Int) + 1) - (tr.length : Int)))
      have hbf := ((HBel.out.setCell (p := ⟨w.heap.size + 1, 0, none⟩) (by simp) (.bool neg)).setCell (p := ⟨w.heap.size + 1, 1, none⟩) (by simp) (.string ⟨tr.toArray⟩)).setCell (p := ⟨w.heap.size + 1, 2, none⟩) (by simp) (.int .i64 (e + (s.size : Int) - (n : Int) + ((n : Int) + 1) - (tr.length : Int)))
      generalize ((World.setCell _ _ _).setCell _ _).setCell _ _ = Wf at hk3 hbf ⊢
      have q0 : Wf.cell? ⟨w.heap.size + 1, 0, none⟩ = some (.bool neg) := hk3.cell 0
      have q1 : Wf.cell? ⟨w.heap.size + 1, 1, none⟩ = some (.string ⟨tr.toArray⟩) := hk3.cell 1
      have q2 : Wf.cell? ⟨w.heap.size + 1, 2, none⟩ = some (.int .i64 (e + (s.size : Int) - (n : Int) + ((n : Int) + 1) - (tr.length : Int))) := hk3.cell 2
      refine bodyPost_ret (v := decV neg tr (e + (s.size : Int) - (n : Int) + ((n : Int) + 1) - (tr.length : Int))) (by simp [results, Tryz.results29, go_sem, q0, q1, q2]) rfl ⟨?_, hbf⟩
      unfold cL cE
      rw [← HTR.out.1]
      rw [← HTE.out, show (((s.data.toList.length - n : Nat) : Nat) : Int) = (s.size : Int) - (n : Int) by have := HLEN.out; omega]
      rw [show e + ((s.size : Int) - (n : Int)) + (((n + 1 : Nat)) : Int) - (tr.length : Int) = e + (s.size : Int) - (n : Int) + ((n : Int) + 1) - (tr.length : Int) by omega]
    · obtain ⟨k, rfl⟩ : ∃ k, j = k + 1 := ⟨j - 1, by omega⟩
      rw [show (((k + 1 : Nat) : Int)) - 1 = (k : Int) by omega]
      have hkl : k < s.data.toList.length := by have := HLEN.out; omega
      have hLn : (carr s.data.toList n (k + 1)).length = n := carr_len (by have := HLEN.out; omega) hj
      have hcell : wr.cell? ⟨w.heap.size + 1 + 1, k, none⟩ = some (.int .u8 ((s.data.toList[k]'hkl).toNat : Int)) := by
        have := HBW.out.2.1 k (by rw [hLn]; omega)
        rw [carr_at (by have := HLEN.out; omega) (by omega)] at this
        exact this
      have hfr := HBW.out.2.2 k (by rw [hLn]; omega)
      have hdg := HC.out.digs (s.data.toList[k]'hkl) (List.getElem_mem _)
      have hset := HBW.out.set k (s.data.toList[k]'hkl + 1) (by rw [hLn]; omega)
      rw [show ((((s.data.toList[k]'hkl + 1).toNat : Nat)) : Int) = ((s.data.toList[k]'hkl).toNat : Int) + 1 by rw [byte_one hdg.2]; rfl] at hset
      by_cases h57 : (s.data.toList[k]'hkl).toNat = 57
      · have hset2 := hset.set k 48 (by rw [List.length_set, hLn]; omega)
        rw [carr_next _ (by have := HLEN.out; omega) (by omega)] at hset2
        have HS := Lib.hid hset2
        have HD1 := Lib.hid (show (dval (s.data.toList.take k) + 1) * 10 ^ (n - k) = cN s.data.toList n true by
          have h0 := HD0.out
          rw [List.take_succ_eq_append_getElem hkl, show s.data.toList[k]'hkl = 57 from UInt8.toNat_inj.1 h57, carry_on] at h0
          rw [← h0, show n - k = n - (k + 1) + 1 by omega])
        have HBX2 := Lib.hid ((HBX.out.far (p := ⟨w.heap.size + 1 + 1, k, none⟩) (by simp; omega) (.int .u8 (((s.data.toList[k]'hkl).toNat : Int) + 1))).far (p := ⟨w.heap.size + 1 + 1, k, none⟩) (by simp; omega) (.int .u8 48))
        have HBR2 := Lib.hid ((HBR.out.far (p := ⟨w.heap.size + 1 + 1, k, none⟩) (by simp) (.int .u8 (((s.data.toList[k]'hkl).toNat : Int) + 1))).far (p := ⟨w.heap.size + 1 + 1, k, none⟩) (by simp) (.int .u8 48))
        have HBel2 := Lib.hid ((HBel.out.setCell (p := ⟨w.heap.size + 1 + 1, k, none⟩) (by simp; omega) (.int .u8 (((s.data.toList[k]'hkl).toNat : Int) + 1))).setCell (p := ⟨w.heap.size + 1 + 1, k, none⟩) (by simp; omega) (.int .u8 48))
        have hx1 : (56 : Int) < ((s.data.toList[k]'hkl).toNat : Int) := by omega
        have hx2 : ((s.data.toList[k]'hkl).toNat : Int) ≤ 57 := by omega
        clear hset hset2 h57 hLn HBW HD0
        generalize s.data.toList[k]'hkl = c at *
        have t1 : decide ((c.toNat : Int) + 1 ≤ 57) = false := decide_eq_false (by omega)
        go_wp2_with fail
        go_roundw
        case rel => exact ⟨k, by omega, rfl, rfl, HD1, HS, HBX2, HBR2, HBel2⟩
        case measure => simp [intOf]
      · obtain ⟨o1, o2, o3, o4⟩ := carr_stop HC.out (by have := HLEN.out; omega) (show k < n by omega) hkl (by omega)
        have HD := Lib.hid o1
        have HV := Lib.hid (o2.trans HD0.out)
        have HH := Lib.hid o3
        have HM := Lib.hid o4.symm
        have HB := Lib.hid hset.2.1
        replace HBX := Lib.hid (HBX.out.far (p := ⟨w.heap.size + 1 + 1, k, none⟩) (by simp; omega) (.int .u8 (((s.data.toList[k]'hkl).toNat : Int) + 1)))
        replace HBR := Lib.hid (HBR.out.far (p := ⟨w.heap.size + 1 + 1, k, none⟩) (by simp) (.int .u8 (((s.data.toList[k]'hkl).toNat : Int) + 1)))
        replace HBel := Lib.hid (HBel.out.setCell (p := ⟨w.heap.size + 1 + 1, k, none⟩) (by simp; omega) (.int .u8 (((s.data.toList[k]'hkl).toNat : Int) + 1)))
        have hx1 : ((s.data.toList[k]'hkl).toNat : Int) ≤ 56 := by omega
        clear o1 o2 o3 o4 hset hLn HBW HD0 h57
        generalize (carr s.data.toList n (k + 1)).set k (s.data.toList[k]'hkl + 1) = L at *
        generalize s.data.toList[k]'hkl = c at *
        have t1 : decide ((c.toNat : Int) + 1 ≤ 57) = true := decide_eq_true (by omega)
        obtain ⟨Wx, hWx⟩ : ∃ Wx, Wx = wr.setCell ⟨w.heap.size + 1 + 1, k, none⟩ (.int .u8 ((c.toNat : Int) + 1)) := ⟨_, rfl⟩
        have HTR := Lib.hid (trim_tl HD.out HV.out HH.out HN0.out)
        have hco := conv_out (wr.setCell ⟨w.heap.size + 1 + 1, k, none⟩ (.int .u8 ((c.toNat : Int) + 1))) (w.heap.size + 1 + 1) cap L HB.out (n) HM.out
        have HT := Lib.hid (show Calls Tryz.prog 53 #[.string ⟨(L).toArray⟩, .string ⟨#[48]⟩] (wr.setCell ⟨w.heap.size + 1 + 1, k, none⟩ (.int .u8 ((c.toNat : Int) + 1))) (fun e w' => e = .returned (.string ⟨(Lib.trimRightB (L) 48).toArray⟩) ∧ w' = (wr.setCell ⟨w.heap.size + 1 + 1, k, none⟩ (.int .u8 ((c.toNat : Int) + 1)))) from Tryz.strings_TrimRight_one ⟨(L).toArray⟩ 48 (by decide) (wr.setCell ⟨w.heap.size + 1 + 1, k, none⟩ (.int .u8 ((c.toNat : Int) + 1))) (by have := HM.out; simp [ByteArray.size]; omega))
        have htl := HTR.out.2.1
        rw [← HM.out] at htl
        have htl2 := HTR.out.2.2 (e + ((s.data.toList.length - n : Nat) : Int))
        rw [← HM.out] at htl2
        generalize hTT : Lib.trimRightB (L) 48 = tr at HT HTR htl htl2
        have HTT := Lib.hid hTT
        have HTE := Lib.hid htl2
        have d0 := HBX.out.cell 0
        simp at d0
        have r0 := HBR.out.cell 0
        have r1 := HBR.out.cell 1
        have r2 := HBR.out.cell 2
        simp at r0 r1 r2
        have fr0 := HBR.out.frozen 0
        have fr1 := HBR.out.frozen 1
        have fr2 := HBR.out.frozen 2
        have trs : (⟨tr.toArray⟩ : ByteArray).size = tr.length := by simp [ByteArray.size]
        clear hTT htl2
        go_wp2_with fail
        refine HT.out.mono ?_
        rintro en w4 ⟨rfl, hw4⟩
        subst hw4
        go_wp2_with fail
        have hk3 := ((HBR.out.set_ 0 (.bool neg)).set_ 1 (.string ⟨tr.toArray⟩)).set_ 2 (.int .i64 (e + (s.size : Int) - (tr.length : Int)))
        have hbf := ((HBel.out.setCell (p := ⟨w.heap.size + 1, 0, none⟩) (by simp) (.bool neg)).setCell (p := ⟨w.heap.size + 1, 1, none⟩) (by simp) (.string ⟨tr.toArray⟩)).setCell (p := ⟨w.heap.size + 1, 2, none⟩) (by simp) (.int .i64 (e + (s.size : Int) - (tr.length : Int)))
        generalize ((World.setCell _ _ _).setCell _ _).setCell _ _ = Wf at hk3 hbf ⊢
        have q0 : Wf.cell? ⟨w.heap.size + 1, 0, none⟩ = some (.bool neg) := hk3.cell 0
        have q1 : Wf.cell? ⟨w.heap.size + 1, 1, none⟩ = some (.string ⟨tr.toArray⟩) := hk3.cell 1
        have q2 : Wf.cell? ⟨w.heap.size + 1, 2, none⟩ = some (.int .i64 (e + (s.size : Int) - (tr.length : Int))) := hk3.cell 2
        refine bodyPost_ret (v := decV neg tr (e + (s.size : Int) - (tr.length : Int))) (by simp [results, Tryz.results29, go_sem, q0, q1, q2]) rfl ⟨?_, hbf⟩
        unfold cL cE
        rw [← HTR.out.1]
        rw [← HTE.out, show (((s.data.toList.length - n : Nat) : Nat) : Int) = (s.size : Int) - (n : Int) by have := HLEN.out; omega]
        rw [show e + ((s.size : Int) - (n : Int)) + (((n : Nat)) : Int) - (tr.length : Int) = e + (s.size : Int) - (tr.length : Int) by omega]
end Go.Proofs.YtabmalnandbocaaGreatDoor.Num
namespace Go.Proofs.YtabmalnandbocaaGreatDoor.Num
set_option exponentiation.threshold 3000
set_option linter.unusedVariables false
set_option linter.unusedSimpArgs false
set_option exponentiation.threshold 3000
open Go.RowKit Go.Proofs.YtabmalnandbocaaGreatDoor.Mem Go.Proofs.YtabmalnandbocaaGreatDoor.Own Go.Proofs.YtabmalnandbocaaGreatDoor.Big Go.Proofs.YtabmalnandbocaaGreatDoor.Str
open Ieee (double single)
theorem round_w (neg : Bool) (s : ByteArray) (e : Int) (n : Nat) (u : Bool) (w : World) (h : Canon s.data.toList) (h1 : 1 ≤ n) (h2 : n ≤ s.size) (hsm : s.size < 140737488355327) (he1 : -1073741824 ≤ e) (he2 : e ≤ 1073741824) :
    Calls Tryz.prog 29 #[.agg #[.bool neg, .string s, .int .i64 e], .int .i64 (n : Nat), .bool u] w (RdPost w neg (cL s.data.toList n u) (cE s.data.toList e n u)) := by
  cases u
  · exact round_no neg s e n w h h1 h2 (by omega) he1 he2
  · exact round_yes neg s e n w h h1 h2 hsm he1 he2
/-- A candidate is a decimal in its one form. -/
theorem cand_form {k n : Nat} (hk : k < double.infRung) (h1 : 1 ≤ n) (h2 : n < (exL k).length) (u : Bool) : Form (cL (exL k) n u) (cE (exL k) (exE k) n u) ∧ (cL (exL k) n u).length ≤ 3000 := by
  have hc : Canon (exL k) := told_canon _
  obtain ⟨b1, b2, b3⟩ := ex_bounds hk
  have h0 := cN_pos hc h1 (by omega) u
  have hz := tz_lt h0 (cN_le hc n u)
  have hl := tl_len_le h1 (cN_le hc n u)
  refine ⟨.inr ⟨(told_tl _).ne h0, told_canon _, ?_⟩, by unfold cL; omega⟩
  unfold cE te
  rw [if_neg h0]
  omega
theorem word_inj {s : Bool} {a b : Nat} (ha : a < double.signWeight) (hb : b < double.signWeight) : double.word s a = double.word s b ↔ a = b := by
  have hx : ∀ n, double.word s n = (if s then 9223372036854775808 + n else n) := fun n => rfl
  rw [hx, hx]
  split <;> omega
theorem cm_ok {k n : Nat} (s : Bool) (hk : k < double.infRung) (u : Bool) : cmB s (cL (exL k) n u) (cE (exL k) (exE k) n u) (double.word s k) = okF k n u := by
  unfold cmB okF
  have hle : near64 (cL (exL k) n u) (cE (exL k) (exE k) n u) ≤ 9218868437227405312 := refF_le _ _ _ _ _
  have hs : double.signWeight = 9223372036854775808 := by decide
  rw [inf_num] at hk
  congr 1
  rw [word_inj (by omega) (by omega)]
  apply propext
  constructor
  · exact fun h => h.2
  · exact fun h => ⟨by omega, h⟩
def DgPost (w : World) (s : Bool) (k : Nat) (en : Ending) (w' : World) : Prop := en = .returned (.tuple #[decV s (dL k) (dE k), .int .i64 0]) ∧ Below w.heap.size w w'
theorem pick_past {ok : Nat → Bool → Bool} {nr : Nat → Bool} {K n : Nat} (h : K < n) : pickF ok nr (K + 1 - n) n = none := by rw [show K + 1 - n = 0 by omega]; rfl
set_option maxHeartbeats 8000000 in
set_option maxRecDepth 100000 in
theorem digits_yes (s : Bool) (k : Nat) (w : World) (hk : k < double.infRung) :
    Calls Tryz.prog 13 #[.float .f64 (double.word s k)] w (DgPost w s k) := by
  have HE := Lib.hid (fun W => exw_w s k W hk)
  have hc : Canon (exL k) := told_canon _
  obtain ⟨b1, b2, b3⟩ := ex_bounds hk
  have hnil := ex_nil (n := k)
  have HP0 := Lib.hid (dig_most hk)
  have hlz : (⟨(exL k).toArray⟩ : ByteArray).size = (exL k).length := by simp [ByteArray.size]
  have HRD := Lib.hid (fun (n : Nat) (u : Bool) (W : World) (h1 : 1 ≤ n) (h2 : n < (exL k).length) => round_w s ⟨(exL k).toArray⟩ (exE k) n u W hc h1 (by rw [hlz]; omega) (by rw [hlz]; omega) (by omega) (by omega))
  have HNR := Lib.hid (fun (n : Nat) (W : World) (h1 : 1 ≤ n) (h2 : n < (exL k).length) => nearer_w s ⟨(exL k).toArray⟩ (exE k) n W hc h1 (by rw [hlz]; omega) (by rw [hlz]; omega))
  have HCM : Hid (∀ (n : Nat) (u : Bool) (W : World) (h1 : 1 ≤ n) (h2 : n < (exL k).length), Calls Tryz.prog 30 #[decV s (cL (exL k) n u) (cE (exL k) (exE k) n u), .float .f64 (double.word s k)] W (NrPost W (okF k n u))) := Lib.hid (fun n u W h1 h2 => by
    have hf := cand_form hk h1 h2 u
    have := comes_w s ⟨(cL (exL k) n u).toArray⟩ (cE (exL k) (exE k) n u) (double.word s k) W hf.1 (size_of _ hf.2)
    rw [show cmB s (⟨(cL (exL k) n u).toArray⟩ : ByteArray).data.toList (cE (exL k) (exE k) n u) (double.word s k) = okF k n u from cm_ok s hk u] at this
    exact this)
  have HRD' : Hid (∀ (n : Nat) (u : Bool) (W : World) (h1 : 1 ≤ n) (h2 : n < (exL k).length), Calls Tryz.prog 29 #[decV s (exL k) (exE k), .int .i64 (n : Nat), .bool u] W (RdPost W s (cL (exL k) n u) (cE (exL k) (exE k) n u))) := HRD
  have HNR' : Hid (∀ (n : Nat) (W : World) (h1 : 1 ≤ n) (h2 : n < (exL k).length), Calls Tryz.prog 28 #[decV s (exL k) (exE k), .int .i64 (n : Nat)] W (NrPost W (nrF (exL k) n))) := HNR
  clear HRD HNR
  have hb0 := Blk.new w 32 #[.bool false, .string ⟨#[]⟩, .int .i64 0]
  have HB0 := Lib.hid hb0
  obtain ⟨l, hl⟩ : ∃ l, l = exL k := ⟨_, rfl⟩
  obtain ⟨ex, hx⟩ : ∃ ex, ex = exE k := ⟨_, rfl⟩
  obtain ⟨ok, hok⟩ : ∃ ok, ok = okF k := ⟨_, rfl⟩
  obtain ⟨x, hxx⟩ : ∃ x, x = double.word s k := ⟨_, rfl⟩
  rw [← hl, ← hx, ← hok, ← hxx] at HCM
  rw [← hl, ← hx] at HRD' HE
  rw [← hl, ← hx] at HNR'
  rw [← hl] at hc b1 hlz
  rw [← hl, ← hok] at HP0
  rw [← hx] at b2 b3
  rw [← hxx] at HE ⊢
  have HL := Lib.hid hl
  have HX := Lib.hid hx
  have HRD := HRD'
  have HNR := HNR'
  clear hb0 hl hx hok hxx HRD' HNR' hnil hc
  go_enter Tryz.func13, Tryz.ntmps13
  go_wp2_with fail
  go_step3
  go_wp2_with fail
  refine (HE.out _).mono ?_
  rintro en w1 ⟨rfl, bE⟩
  have HR1 := Lib.hid (HB0.out.below bE HB0.out.lt)
  have B1 := Lib.hid (bthen ((Below.refl _ w).alloc (Nat.le_refl _) (.cells #[.bool false, .string ⟨#[]⟩, .int .i64 0] 32)) bE)
  clear bE
  have HX2 := Lib.hid ((Blk.new w1 32 #[.bool s, .string ⟨l.toArray⟩, .int .i64 ex]).alloc (.cells #[.bool s, .string ⟨l.toArray⟩, .int .i64 ex] 32))
  have hy2 := Blk.new (w1.alloc (.cells #[.bool s, .string ⟨l.toArray⟩, .int .i64 ex] 32)) 32 #[.bool s, .string ⟨l.toArray⟩, .int .i64 ex]
  simp at hy2
  have HY2 := Lib.hid hy2
  have HR2 := Lib.hid ((HR1.out.alloc (.cells #[.bool s, .string ⟨l.toArray⟩, .int .i64 ex] 32)).alloc (.cells #[.bool s, .string ⟨l.toArray⟩, .int .i64 ex] 32))
  have B2 := Lib.hid ((B1.out.alloc B1.out.size (.cells #[.bool s, .string ⟨l.toArray⟩, .int .i64 ex] 32)).alloc (by have := B1.out.size; simp; omega) (.cells #[.bool s, .string ⟨l.toArray⟩, .int .i64 ex] 32))
  clear hy2
  obtain ⟨K, hK⟩ : ∃ K, K = min (l.length - 1) 17 := ⟨_, rfl⟩
  rw [← hK] at HP0
  have HK := Lib.hid hK
  clear hK
  go_wp2_with fail
  go_step3
  go_wp2_with fail
  go_loopw [7] (fun nv wl => ∃ n : Nat, 1 ≤ n ∧ Hid (n ≤ K + 1) ∧ nv = .int .i64 (n : Nat) ∧ Hid (pickF ok (nrF l) (K + 1 - n) n = digF k) ∧ Hid (Blk wl w1.heap.size 32 #[.bool s, .string ⟨l.toArray⟩, .int .i64 ex]) ∧ Hid (Blk wl (w1.heap.size + 1) 32 #[.bool s, .string ⟨l.toArray⟩, .int .i64 ex]) ∧ Hid (Blk wl w.heap.size 32 #[.bool false, .string ⟨#[]⟩, .int .i64 0]) ∧ Hid (Below w.heap.size w wl)) (fun nv _ => (K + 1 - (intOf nv).toNat))
  case atStart => exact ⟨1, Nat.le_refl _, Lib.hid (by omega), rfl, Lib.hid (by rw [Nat.add_sub_cancel]; exact HP0.out), HX2, HY2, HR2, B2⟩
  case round =>
    obtain ⟨n, hn1, hn17, rfl, HP, HXr, HYr, HRr, BR⟩ := hrel
    have x0 := HXr.out.cell 0
    have x1 := HXr.out.cell 1
    have x2 := HXr.out.cell 2
    simp at x0 x1 x2
    by_cases hgo : n ≤ K
    · have hn2 : n < l.length := by have := HK.out; omega
      have hn3 : n ≤ 17 := by have := HK.out; omega
      have HGO := Lib.hid hgo
      have t1 : decide ((n : Int) < ((⟨l.toArray⟩ : ByteArray).size : Int)) = true := decide_eq_true (by omega)
      clear hgo
      go_wp2_with fail
      obtain ⟨u, hu⟩ : ∃ u, u = nrF l n := ⟨_, rfl⟩
      have hNR := fun W => HNR.out n W hn1 hn2
      rw [← hu] at hNR
      have HU := Lib.hid hu
      clear hu
      refine (hNR _).mono ?_
      clear hNR
      rintro en wA ⟨rfl, bA⟩
      have WAX := Lib.hid (HXr.out.below bA HXr.out.lt)
      have WAY := Lib.hid (HYr.out.below bA HYr.out.lt)
      have WAR := Lib.hid (HRr.out.below bA HRr.out.lt)
      have BA := Lib.hid (bthen BR.out bA)
      have xa0 := WAX.out.cell 0
      have xa1 := WAX.out.cell 1
      have xa2 := WAX.out.cell 2
      simp at xa0 xa1 xa2
      clear bA x0 x1 x2
      go_wp2_with fail
      refine wp_loop_rounds 3 ?_
      rw [rounds_succ]
      go_wp2_with fail
      refine (HRD.out n u _ hn1 hn2).mono ?_
      rintro en wB1 ⟨rfl, bB⟩
      have HX1B := Lib.hid (WAX.out.below bB WAX.out.lt)
      have HY1B := Lib.hid (WAY.out.below bB WAY.out.lt)
      have HR1B := Lib.hid (WAR.out.below bB WAR.out.lt)
      have BB1 := Lib.hid (bthen BA.out bB)
      have HN1 := Lib.hid (Blk.new wB1 32 #[.bool s, .string ⟨(cL l n u).toArray⟩, .int .i64 (cE l ex n u)])
      clear bB
      go_wp2_with fail
      refine (HCM.out n u _ hn1 hn2).mono ?_
      rintro en wC1 ⟨rfl, bC⟩
      have HX1C := Lib.hid ((HX1B.out.alloc (.cells #[.bool s, .string ⟨(cL l n u).toArray⟩, .int .i64 (cE l ex n u)] 32)).below bC (by have := HX1B.out.lt; simp; omega))
      have HY1C := Lib.hid ((HY1B.out.alloc (.cells #[.bool s, .string ⟨(cL l n u).toArray⟩, .int .i64 (cE l ex n u)] 32)).below bC (by have := HY1B.out.lt; simp; omega))
      have HR1C := Lib.hid ((HR1B.out.alloc (.cells #[.bool s, .string ⟨(cL l n u).toArray⟩, .int .i64 (cE l ex n u)] 32)).below bC (by have := HR1B.out.lt; simp; omega))
      have HN1C := Lib.hid (HN1.out.below bC HN1.out.lt)
      have BC1 := Lib.hid (bthen (BB1.out.alloc BB1.out.size (.cells #[.bool s, .string ⟨(cL l n u).toArray⟩, .int .i64 (cE l ex n u)] 32)) bC)
      clear bC
      cases hok1 : ok n u
      case true =>
        have HOK := Lib.hid hok1
        have f0 := HN1C.out.cell 0
        have f1 := HN1C.out.cell 1
        have f2 := HN1C.out.cell 2
        have y0 := HY1C.out.cell 0
        have y1 := HY1C.out.cell 1
        have y2 := HY1C.out.cell 2
        have fy0 := HY1C.out.frozen 0
        have fy1 := HY1C.out.frozen 1
        have fy2 := HY1C.out.frozen 2
        have z0 := HR1C.out.cell 0
        have z1 := HR1C.out.cell 1
        have z2 := HR1C.out.cell 2
        have fz0 := HR1C.out.frozen 0
        have fz1 := HR1C.out.frozen 1
        have fz2 := HR1C.out.frozen 2
        simp at f0 f1 f2 y0 y1 y2 z0 z1 z2
        obtain ⟨LL, hLL⟩ : ∃ LL, LL = cL l n u := ⟨_, rfl⟩
        obtain ⟨EE, hEE⟩ : ∃ EE, EE = cE l ex n u := ⟨_, rfl⟩
        rw [← hLL] at f1
        rw [← hEE] at f2
        have HLL := Lib.hid hLL
        have HEE := Lib.hid hEE
        have hne : w1.heap.size + 1 ≠ w.heap.size := by have := B1.out.size; omega
        have hne2 : w.heap.size ≠ w1.heap.size + 1 := fun h => hne h.symm
        have hlow : w.heap.size ≤ w1.heap.size + 1 := by have := B1.out.size; omega
        have hr3 := (((((HR1C.out.far (p := ⟨w1.heap.size + 1, 0, none⟩) hne2 (.bool s)).far (p := ⟨w1.heap.size + 1, 1, none⟩) hne2 (.string ⟨LL.toArray⟩)).far (p := ⟨w1.heap.size + 1, 2, none⟩) hne2 (.int .i64 EE)).set_ 0 (.bool s)).set_ 1 (.string ⟨LL.toArray⟩)).set_ 2 (.int .i64 EE)
        have hbf := (((((BC1.out.setCell (p := ⟨w1.heap.size + 1, 0, none⟩) hlow (.bool s)).setCell (p := ⟨w1.heap.size + 1, 1, none⟩) hlow (.string ⟨LL.toArray⟩)).setCell (p := ⟨w1.heap.size + 1, 2, none⟩) hlow (.int .i64 EE)).setCell (p := ⟨w.heap.size, 0, none⟩) (Nat.le_refl _) (.bool s)).setCell (p := ⟨w.heap.size, 1, none⟩) (Nat.le_refl _) (.string ⟨LL.toArray⟩)).setCell (p := ⟨w.heap.size, 2, none⟩) (Nat.le_refl _) (.int .i64 EE)
        have HR3 := Lib.hid hr3
        have HBF := Lib.hid hbf
        clear hLL hEE hok1 hr3 hbf
        go_wp2_with fail
        have hr3 := HR3.out
        have hbf := HBF.out
        clear HR3 HBF
        generalize (((((wC1.setCell _ _).setCell _ _).setCell _ _).setCell _ _).setCell _ _).setCell _ _ = Wf at hr3 hbf ⊢
        have q0 : Wf.cell? ⟨w.heap.size, 0, none⟩ = some (.bool s) := hr3.cell 0
        have q1 : Wf.cell? ⟨w.heap.size, 1, none⟩ = some (.string ⟨LL.toArray⟩) := hr3.cell 1
        have q2 : Wf.cell? ⟨w.heap.size, 2, none⟩ = some (.int .i64 EE) := hr3.cell 2
        refine bodyPost_ret (v := .tuple #[decV s LL EE, .int .i64 0]) (by simp [results, Tryz.results13, go_sem, q0, q1, q2]) rfl ⟨?_, hbf⟩
        have hdd : digF k = some (n, u) := by
          rw [← HP.out, show K + 1 - n = (K - n) + 1 by have := HGO.out; omega]
          unfold pickF
          rw [← HU.out, if_pos HOK.out]
        rw [HLL.out, HEE.out, (dL_len hdd).1, (dL_len hdd).2, HL.out, HX.out]
      case false =>
        have HNO := Lib.hid hok1
        clear hok1 xa0 xa1 xa2
        have xb0 := HX1C.out.cell 0
        have xb1 := HX1C.out.cell 1
        have xb2 := HX1C.out.cell 2
        simp at xb0 xb1 xb2
        go_wp2_with fail
        rw [rounds_succ]
        go_wp2_with fail
        refine (HRD.out n (!u) _ hn1 hn2).mono ?_
        rintro en wB2 ⟨rfl, bB⟩
        have HX2B := Lib.hid (HX1C.out.below bB HX1C.out.lt)
        have HY2B := Lib.hid (HY1C.out.below bB HY1C.out.lt)
        have HR2B := Lib.hid (HR1C.out.below bB HR1C.out.lt)
        have BB2 := Lib.hid (bthen BC1.out bB)
        have HN2 := Lib.hid (Blk.new wB2 32 #[.bool s, .string ⟨(cL l n (!u)).toArray⟩, .int .i64 (cE l ex n (!u))])
        clear bB
        go_wp2_with fail
        refine (HCM.out n (!u) _ hn1 hn2).mono ?_
        rintro en wC2 ⟨rfl, bC⟩
        have HX2C := Lib.hid ((HX2B.out.alloc (.cells #[.bool s, .string ⟨(cL l n (!u)).toArray⟩, .int .i64 (cE l ex n (!u))] 32)).below bC (by have := HX2B.out.lt; simp; omega))
        have HY2C := Lib.hid ((HY2B.out.alloc (.cells #[.bool s, .string ⟨(cL l n (!u)).toArray⟩, .int .i64 (cE l ex n (!u))] 32)).below bC (by have := HY2B.out.lt; simp; omega))
        have HR2C := Lib.hid ((HR2B.out.alloc (.cells #[.bool s, .string ⟨(cL l n (!u)).toArray⟩, .int .i64 (cE l ex n (!u))] 32)).below bC (by have := HR2B.out.lt; simp; omega))
        have HN2C := Lib.hid (HN2.out.below bC HN2.out.lt)
        have BC2 := Lib.hid (bthen (BB2.out.alloc BB2.out.size (.cells #[.bool s, .string ⟨(cL l n (!u)).toArray⟩, .int .i64 (cE l ex n (!u))] 32)) bC)
        clear bC
        cases hok2 : ok n (!u)
        case true =>
          have HOK := Lib.hid hok2
          have f0 := HN2C.out.cell 0
          have f1 := HN2C.out.cell 1
          have f2 := HN2C.out.cell 2
          have y0 := HY2C.out.cell 0
          have y1 := HY2C.out.cell 1
          have y2 := HY2C.out.cell 2
          have fy0 := HY2C.out.frozen 0
          have fy1 := HY2C.out.frozen 1
          have fy2 := HY2C.out.frozen 2
          have z0 := HR2C.out.cell 0
          have z1 := HR2C.out.cell 1
          have z2 := HR2C.out.cell 2
          have fz0 := HR2C.out.frozen 0
          have fz1 := HR2C.out.frozen 1
          have fz2 := HR2C.out.frozen 2
          simp at f0 f1 f2 y0 y1 y2 z0 z1 z2
          obtain ⟨LL, hLL⟩ : ∃ LL, LL = cL l n (!u) := ⟨_, rfl⟩
          obtain ⟨EE, hEE⟩ : ∃ EE, EE = cE l ex n (!u) := ⟨_, rfl⟩
          rw [← hLL] at f1
          rw [← hEE] at f2
          have HLL := Lib.hid hLL
          have HEE := Lib.hid hEE
          have hne : w1.heap.size + 1 ≠ w.heap.size := by have := B1.out.size; omega
          have hne2 : w.heap.size ≠ w1.heap.size + 1 := fun h => hne h.symm
          have hlow : w.heap.size ≤ w1.heap.size + 1 := by have := B1.out.size; omega
          have hr3 := (((((HR2C.out.far (p := ⟨w1.heap.size + 1, 0, none⟩) hne2 (.bool s)).far (p := ⟨w1.heap.size + 1, 1, none⟩) hne2 (.string ⟨LL.toArray⟩)).far (p := ⟨w1.heap.size + 1, 2, none⟩) hne2 (.int .i64 EE)).set_ 0 (.bool s)).set_ 1 (.string ⟨LL.toArray⟩)).set_ 2 (.int .i64 EE)
          have hbf := (((((BC2.out.setCell (p := ⟨w1.heap.size + 1, 0, none⟩) hlow (.bool s)).setCell (p := ⟨w1.heap.size + 1, 1, none⟩) hlow (.string ⟨LL.toArray⟩)).setCell (p := ⟨w1.heap.size + 1, 2, none⟩) hlow (.int .i64 EE)).setCell (p := ⟨w.heap.size, 0, none⟩) (Nat.le_refl _) (.bool s)).setCell (p := ⟨w.heap.size, 1, none⟩) (Nat.le_refl _) (.string ⟨LL.toArray⟩)).setCell (p := ⟨w.heap.size, 2, none⟩) (Nat.le_refl _) (.int .i64 EE)
          have HR3 := Lib.hid hr3
          have HBF := Lib.hid hbf
          clear hLL hEE hok2 hr3 hbf
          go_wp2_with fail
          have hr3 := HR3.out
          have hbf := HBF.out
          clear HR3 HBF
          generalize (((((wC2.setCell _ _).setCell _ _).setCell _ _).setCell _ _).setCell _ _).setCell _ _ = Wf at hr3 hbf ⊢
          have q0 : Wf.cell? ⟨w.heap.size, 0, none⟩ = some (.bool s) := hr3.cell 0
          have q1 : Wf.cell? ⟨w.heap.size, 1, none⟩ = some (.string ⟨LL.toArray⟩) := hr3.cell 1
          have q2 : Wf.cell? ⟨w.heap.size, 2, none⟩ = some (.int .i64 EE) := hr3.cell 2
          refine bodyPost_ret (v := .tuple #[decV s LL EE, .int .i64 0]) (by simp [results, Tryz.results13, go_sem, q0, q1, q2]) rfl ⟨?_, hbf⟩
          have hdd : digF k = some (n, (!u)) := by
            rw [← HP.out, show K + 1 - n = (K - n) + 1 by have := HGO.out; omega]
            unfold pickF
            rw [← HU.out, if_neg (by rw [HNO.out]; decide), if_pos HOK.out]
          rw [HLL.out, HEE.out, (dL_len hdd).1, (dL_len hdd).2, HL.out, HX.out]
        case false =>
          have HNO2 := Lib.hid hok2
          clear hok2 xb0 xb1 xb2
          go_wp2_with fail
          rw [rounds_succ]
          go_wp2_with fail
          go_roundw
          case rel => exact ⟨n + 1, by omega, Lib.hid (by have := HGO.out; omega), by go_num, Lib.hid (by
            rw [← HP.out, show K + 1 - n = (K + 1 - (n + 1)) + 1 by have := HGO.out; omega]
            conv => rhs; unfold pickF
            rw [if_neg (by rw [← HU.out, HNO.out]; decide), if_neg (by rw [← HU.out, HNO2.out]; decide)]), HX2C, HY2C, HR2C, BC2⟩
          case measure => have := HGO.out; simp [intOf]; omega
    · have hnone : digF k = none := by rw [← HP.out, show K + 1 - n = 0 by omega]; rfl
      obtain ⟨e1, e2⟩ := dL_none hnone
      have HE1 := Lib.hid e1
      have HE2 := Lib.hid e2
      have y0 := HYr.out.cell 0
      have y1 := HYr.out.cell 1
      have y2 := HYr.out.cell 2
      have z0 := HRr.out.cell 0
      have z1 := HRr.out.cell 1
      have z2 := HRr.out.cell 2
      have fz0 := HRr.out.frozen 0
      have fz1 := HRr.out.frozen 1
      have fz2 := HRr.out.frozen 2
      simp at y0 y1 y2 z0 z1 z2
      have hr3 := ((HRr.out.set_ 0 (.bool s)).set_ 1 (.string ⟨l.toArray⟩)).set_ 2 (.int .i64 ex)
      have hbf := ((BR.out.setCell (p := ⟨w.heap.size, 0, none⟩) (Nat.le_refl _) (.bool s)).setCell (p := ⟨w.heap.size, 1, none⟩) (Nat.le_refl _) (.string ⟨l.toArray⟩)).setCell (p := ⟨w.heap.size, 2, none⟩) (Nat.le_refl _) (.int .i64 ex)
      have HR3 := Lib.hid hr3
      have HBF := Lib.hid hbf
      have hor : l.length ≤ n ∨ 17 < n := by have := HK.out; omega
      clear hnone e1 e2 hr3 hbf hgo
      by_cases hn2 : n < l.length
      · have hn3 : 17 < n := by omega
        have t1 : decide ((n : Int) < ((⟨l.toArray⟩ : ByteArray).size : Int)) = true := decide_eq_true (by omega)
        have t2 : decide ((n : Int) ≤ 17) = false := decide_eq_false (by omega)
        clear hor
        go_wp2_with fail
        have hr3 := HR3.out
        have hbf := HBF.out
        clear HR3 HBF
        generalize ((wr.setCell _ _).setCell _ _).setCell _ _ = Wf at hr3 hbf ⊢
        have q0 : Wf.cell? ⟨w.heap.size, 0, none⟩ = some (.bool s) := hr3.cell 0
        have q1 : Wf.cell? ⟨w.heap.size, 1, none⟩ = some (.string ⟨l.toArray⟩) := hr3.cell 1
        have q2 : Wf.cell? ⟨w.heap.size, 2, none⟩ = some (.int .i64 ex) := hr3.cell 2
        refine bodyPost_ret (v := .tuple #[decV s l ex, .int .i64 0]) (by simp [results, Tryz.results13, go_sem, q0, q1, q2]) rfl ⟨?_, hbf⟩
        rw [HE1.out, HE2.out, HL.out, HX.out]
      · have t1 : decide ((n : Int) < ((⟨l.toArray⟩ : ByteArray).size : Int)) = false := decide_eq_false (by omega)
        clear hor
        go_wp2_with fail
        have hr3 := HR3.out
        have hbf := HBF.out
        clear HR3 HBF
        generalize ((wr.setCell _ _).setCell _ _).setCell _ _ = Wf at hr3 hbf ⊢
        have q0 : Wf.cell? ⟨w.heap.size, 0, none⟩ = some (.bool s) := hr3.cell 0
        have q1 : Wf.cell? ⟨w.heap.size, 1, none⟩ = some (.string ⟨l.toArray⟩) := hr3.cell 1
        have q2 : Wf.cell? ⟨w.heap.size, 2, none⟩ = some (.int .i64 ex) := hr3.cell 2
        refine bodyPost_ret (v := .tuple #[decV s l ex, .int .i64 0]) (by simp [results, Tryz.results13, go_sem, q0, q1, q2]) rfl ⟨?_, hbf⟩
        rw [HE1.out, HE2.out, HL.out, HX.out]
theorem digits_no (s : Bool) (k : Nat) (w : World) (h : double.infRung ≤ k) (h' : k < double.signWeight) :
    Calls Tryz.prog 13 #[.float .f64 (double.word s k)] w (NoPost w) := by
  have HE := Lib.hid (fun W => exact_no s k W h h')
  have hb0 := Blk.new w 32 #[.bool false, .string ⟨#[]⟩, .int .i64 0]
  have HB0 := Lib.hid hb0
  obtain ⟨x, hxx⟩ : ∃ x, x = double.word s k := ⟨_, rfl⟩
  rw [← hxx] at HE ⊢
  clear hb0 hxx
  go_enter Tryz.func13, Tryz.ntmps13
  go_wp2_with fail
  go_step3
  go_wp2_with fail
  refine (HE.out _).mono ?_
  unfold NoPost decV
  rintro en w1 ⟨rfl, bE⟩
  have HR1 := Lib.hid (HB0.out.below bE HB0.out.lt)
  have B1 := Lib.hid (bthen ((Below.refl _ w).alloc (Nat.le_refl _) (.cells #[.bool false, .string ⟨#[]⟩, .int .i64 0] 32)) bE)
  have r0 := HR1.out.cell 0
  have r1 := HR1.out.cell 1
  have r2 := HR1.out.cell 2
  simp at r0 r1 r2
  have fr0 := HR1.out.frozen 0
  have fr1 := HR1.out.frozen 1
  have fr2 := HR1.out.frozen 2
  have hlt := HR1.out.lt
  have hr3 := (((HR1.out.set_ 0 (.bool false)).set_ 1 (.string ⟨#[]⟩)).set_ 2 (.int .i64 0)).alloc (.cells #[.bool false, .string ⟨#[]⟩, .int .i64 0] 32)
  have hbf := (((B1.out.setCell (p := ⟨w.heap.size, 0, none⟩) (Nat.le_refl _) (.bool false)).setCell (p := ⟨w.heap.size, 1, none⟩) (Nat.le_refl _) (.string ⟨#[]⟩)).setCell (p := ⟨w.heap.size, 2, none⟩) (Nat.le_refl _) (.int .i64 0)).alloc (by have := B1.out.size; simpa [World.setCell] using this) (.cells #[.bool false, .string ⟨#[]⟩, .int .i64 0] 32)
  have HR3 := Lib.hid hr3
  have HBF := Lib.hid hbf
  clear bE hr3 hbf
  go_wp2_with fail
  have hr3 := HR3.out
  have hbf := HBF.out
  clear HR3 HBF
  generalize (((w1.setCell _ _).setCell _ _).setCell _ _).alloc _ = Wf at hr3 hbf ⊢
  have q0 : Wf.cell? ⟨w.heap.size, 0, none⟩ = some (.bool false) := hr3.cell 0
  have q1 : Wf.cell? ⟨w.heap.size, 1, none⟩ = some (.string ⟨#[]⟩) := hr3.cell 1
  have q2 : Wf.cell? ⟨w.heap.size, 2, none⟩ = some (.int .i64 0) := hr3.cell 2
  exact bodyPost_ret (v := .tuple #[decV false [] 0, .int .i64 130]) (by simp [results, Tryz.results13, go_sem, q0, q1, q2]) rfl ⟨rfl, hbf⟩
end Go.Proofs.YtabmalnandbocaaGreatDoor.Num
