/- Chapters 13 and 14 (floats, shortest): contracts of the reader of numbers. No conditions beside those that each contract names. -/
import Derived.ScopeJumps
import Derived.Test.YtabmalnandbocaaGreatDoorMS
import Derived.Test.YtabmalnandbocaaGreatDoorMA
import Derived.Test.YtabmalnandbocaaGreatDoorShelf
import Derived.Deep.QuietTactic
import Derived.BigQuiet
import Derived.Test.YtabmalnandbocaaGreatDoorMV
import Derived.WalkMore
import Derived.Test.YtabmalnandbocaaGreatDoorMY
import Derived.Test.YtabmalnandbocaaGreatDoorMB
import Derived.Test.YtabmalnandbocaaGreatDoorMD
import Derived.Test.YtabmalnandbocaaGreatDoorMT
namespace Go.Proofs.YtabmalnandbocaaGreatDoor.Lbl
set_option exponentiation.threshold 3000
set_option linter.unusedVariables false
/-- As Q; by a goto to a label: what holds there. -/
def jumps (J : Nat → Act → World → Prop) (Q : Exit → Act → World → Prop) : Exit → Act → World → Prop
  | .goto l, a, w => J l a w
  | e, a, w => Q e a w
section
variable {P : Program} {a : Act} {w : World} {Q : Exit → Act → World → Prop}
theorem wp_scope_labels {c : Code} (J : Nat → Act → World → Prop) (μ : Nat → Act → World → Nat)
    (first : c.wp P (jumps J Q) a w)
    (pass : ∀ l a w, J l a w → ∃ rest, findLabel c l = some rest ∧ rest.wp P (jumps (fun l' a' w' => J l' a' w' ∧ μ l' a' w' < μ l a w) Q) a w) : (Code.scope c).wp P Q a w := by
  intro b k cs
  have key : ∀ n l a w, μ l a w = n → J l a w → ∀ rest, findLabel c l = some rest → ∃ e a' w', Q e a' w' ∧ Arrives P (lone (b.at a (.code rest :: .inScope c :: k)) cs w) b k cs e a' w' := by
    intro n
    induction n using Nat.strongRecOn with
    | _ n ih =>
      intro l a w hn hJ rest hf
      obtain ⟨rest', hf', hp⟩ := pass l a w hJ
      obtain rfl : rest' = rest := Option.some.inj (hf'.symm.trans hf)
      obtain ⟨e, a₁, w₁, hq, harr⟩ := hp b (.inScope c :: k) cs
      cases e with
      | normal => exact ⟨.normal, a₁, w₁, hq, Steps.trans harr (.one step_inScope)⟩
      | exit id => exact ⟨.exit id, a₁, w₁, hq, fun k' hk => harr k' (by simp [exitTo, hk])⟩
      | goto l' =>
        obtain ⟨hJ', hlt⟩ := hq
        obtain ⟨rest2, hf2, -⟩ := pass l' a₁ w₁ hJ'
        have hg : gotoIn l' (.inScope c :: k) = some (.code rest2 :: .inScope c :: k) := by simp [gotoIn, hf2]
        obtain ⟨e₂, a₂, w₂, hq₂, harr₂⟩ := ih _ (by omega) l' a₁ w₁ rfl hJ' rest2 hf2
        exact ⟨e₂, a₂, w₂, hq₂, .of_steps (harr _ hg) harr₂⟩
      | ret => exact ⟨_, a₁, w₁, hq, harr⟩
      | panic ch => exact ⟨_, a₁, w₁, hq, harr⟩
      | outgrown => exact ⟨_, a₁, w₁, hq, harr⟩
  obtain ⟨e, a₁, w₁, hq, harr⟩ := first b (.inScope c :: k) cs
  cases e with
  | normal => exact ⟨.normal, a₁, w₁, hq, .head step_scope (Steps.trans harr (.one step_inScope))⟩
  | exit id => exact ⟨.exit id, a₁, w₁, hq, fun k' hk => .head step_scope (harr k' (by simp [exitTo, hk]))⟩
  | goto l' =>
    obtain ⟨rest2, hf2, -⟩ := pass l' a₁ w₁ hq
    have hg : gotoIn l' (.inScope c :: k) = some (.code rest2 :: .inScope c :: k) := by simp [gotoIn, hf2]
    obtain ⟨e₂, a₂, w₂, hq₂, harr₂⟩ := key _ l' a₁ w₁ rfl hq rest2 hf2
    exact ⟨e₂, a₂, w₂, hq₂, .of_steps (.head step_scope (harr _ hg)) harr₂⟩
  | ret => exact ⟨_, a₁, w₁, hq, .of_steps (.one step_scope) harr⟩
  | panic ch => exact ⟨_, a₁, w₁, hq, .of_steps (.one step_scope) harr⟩
  | outgrown => exact ⟨_, a₁, w₁, hq, .of_steps (.one step_scope) harr⟩
end
end Go.Proofs.YtabmalnandbocaaGreatDoor.Lbl
namespace Go.Proofs.YtabmalnandbocaaGreatDoor.Rdr
set_option exponentiation.threshold 3000
set_option linter.unusedVariables false
set_option linter.unusedSimpArgs false
open Go.RowKit Go.Proofs.YtabmalnandbocaaGreatDoor.Mem Go.Proofs.YtabmalnandbocaaGreatDoor.Own Go.Proofs.YtabmalnandbocaaGreatDoor.Str
/-- What a reader holds. -/
def rdr (s : ByteArray) (k : Nat) (neg : Bool) (all : Value) (dn ex : Int) : Array Value := #[.string s, .int .i64 (k : Nat), .bool neg, all, .int .i64 dn, .int .i64 ex]
def RgPost (w : World) (g : Nat) (cs : Array Value) (c : Int) (b : Bool) (en : Ending) (w' : World) : Prop := en = .returned (.tuple #[.int .u8 c, .bool b]) ∧ Only g w w' ∧ Blk w' g 85 cs
section
variable {w : World} {g : Nat} {s : ByteArray} {k : Nat} {neg : Bool} {all : Value} {dn ex : Int}
theorem rdr_cells (h : Blk w g 85 (rdr s k neg all dn ex)) : w.cell? ⟨g, 0, none⟩ = some (.string s) ∧ w.cell? ⟨g, 1, none⟩ = some (.int .i64 (k : Nat)) ∧ w.cell? ⟨g, 2, none⟩ = some (.bool neg) ∧ w.cell? ⟨g, 3, none⟩ = some all ∧ w.cell? ⟨g, 4, none⟩ = some (.int .i64 dn) ∧ w.cell? ⟨g, 5, none⟩ = some (.int .i64 ex) :=
  ⟨h.cell 0, h.cell 1, h.cell 2, h.cell 3, h.cell 4, h.cell 5⟩
end
set_option maxHeartbeats 4000000 in
set_option maxRecDepth 100000 in
theorem dig_no (g : Nat) (s : ByteArray) (k : Nat) (neg : Bool) (all : Value) (dn ex : Int) (w : World) (h : Blk w g 85 (rdr s k neg all dn ex)) (hk : k < s.size) (hd : ¬ (48 ≤ s[k].toNat ∧ s[k].toNat ≤ 57)) (hsm : s.size < 140737488355328) :
    Calls Tryz.prog 87 #[.pointer (some ⟨g, 0, none⟩)] w (RgPost w g (rdr s k neg all dn ex) 0 false) := by
  obtain ⟨c0, c1, -, -, -, -⟩ := rdr_cells h
  have HB := Lib.hid h
  have t0 : decide ((k : Int) < (s.size : Int)) = true := decide_eq_true (by omega)
  have hx := s[k].toNat_lt
  obtain ⟨v, hv, hv9⟩ : ∃ v : Int, IntKind.u8.wrap ((s[k].toNat : Int) - 48) = v ∧ 9 < v := ⟨_, rfl, by rw [IntKind.wrap_u8]; omega⟩
  have t1 : decide (v ≤ 9) = false := decide_eq_false (by omega)
  clear h hd
  go_enter Tryz.func87, Tryz.ntmps87
  go_wp2_with fail
  go_quiet (fail)
  go_wp2_with fail
  go_ret2
  exact ⟨rfl, (Only.refl _ _).drewN _, HB.out.drewN _⟩
set_option maxHeartbeats 4000000 in
set_option maxRecDepth 100000 in
theorem dig_out (g : Nat) (s : ByteArray) (k : Nat) (neg : Bool) (all : Value) (dn ex : Int) (w : World) (h : Blk w g 85 (rdr s k neg all dn ex)) (hk : ¬ k < s.size) (hk2 : k < 140737488355329) (hsm : s.size < 140737488355328) :
    Calls Tryz.prog 87 #[.pointer (some ⟨g, 0, none⟩)] w (RgPost w g (rdr s k neg all dn ex) 0 false) := by
  obtain ⟨c0, c1, -, -, -, -⟩ := rdr_cells h
  have HB := Lib.hid h
  have t0 : decide ((k : Int) < (s.size : Int)) = false := decide_eq_false (by omega)
  clear h
  go_enter Tryz.func87, Tryz.ntmps87
  go_wp2_with fail
  go_quiet (fail)
  go_wp2_with fail
  go_ret2
  exact ⟨rfl, (Only.refl _ _).drewN _, HB.out.drewN _⟩
set_option maxHeartbeats 4000000 in
set_option maxRecDepth 100000 in
theorem dig_yes (g : Nat) (s : ByteArray) (k : Nat) (neg : Bool) (all : Value) (dn ex : Int) (w : World) (h : Blk w g 85 (rdr s k neg all dn ex)) (hk : k < s.size) (hd : 48 ≤ s[k].toNat ∧ s[k].toNat ≤ 57) (hsm : s.size < 140737488355328) :
    Calls Tryz.prog 87 #[.pointer (some ⟨g, 0, none⟩)] w (RgPost w g (rdr s (k + 1) neg all dn ex) (s[k].toNat : Nat) true) := by
  obtain ⟨c0, c1, -, -, -, -⟩ := rdr_cells h
  have f1 := h.frozen 1
  have HB := Lib.hid h
  have t0 : decide ((k : Int) < (s.size : Int)) = true := decide_eq_true (by omega)
  have hw8 : IntKind.u8.wrap ((s[k].toNat : Int) - 48) = (s[k].toNat : Int) - 48 := IntWalk.u8_in _ (by omega)
  have t1 : decide ((s[k].toNat : Int) - 48 ≤ 9) = true := by rw [decide_eq_true_iff]; omega
  have e1 : ((k + 1 : Nat) : Int) = (k : Int) + 1 := by omega
  have hwm : IntKind.i64.wrap ((k : Int) + 1 - 1) = (k : Int) := by rw [show (k : Int) + 1 - 1 = k by omega]; exact IntWalk.i64_in _ (by omega)
  clear h
  go_enter Tryz.func87, Tryz.ntmps87
  go_wp2_with fail
  go_quiet (fail)
  go_wp2_with fail
  have hb2 := (HB.out.drewN nq).set_ 1 (.int .i64 ((k : Int) + 1))
  have ho2 := ((Only.refl g w).drewN nq).setCell 1 (.int .i64 ((k : Int) + 1))
  generalize (w.drewN nq).setCell ⟨g, 1, none⟩ (.int .i64 ((k : Int) + 1)) = W2 at *
  have hb3 : Blk W2 g 85 (rdr s (k + 1) neg all dn ex) := hb2
  clear hb2
  have d0 := (rdr_cells hb3).1
  have d1 : W2.cell? ⟨g, 1, none⟩ = some (.int .i64 ((k : Int) + 1)) := (rdr_cells hb3).2.1
  have HB3 := Lib.hid hb3
  have HO2 := Lib.hid ho2
  clear hb3 ho2 c0 c1 f1
  go_quiet (fail)
  go_wp2_with fail
  go_ret2
  exact ⟨rfl, HO2.out.drewN _, HB3.out.drewN _⟩
/-- Is one of these the byte? -/
def oneOf (sm : ByteArray) (c : UInt8) : Bool := decide (0 ≤ Lib.indexByte sm.data.toList c)
theorem ib_w (sm : ByteArray) (c : UInt8) (w : World) : Calls Tryz.prog 117 #[.string sm, .int .u8 (c.toNat : Int)] w fun e w' => e = .returned (.int .i64 (Lib.indexByte sm.data.toList c)) ∧ w' = w := by
  have h := Tryz.strings_IndexByte sm (c.toNat : Int) w
  rw [show ((c.toNat : Int).toNat.toUInt8) = c by simp] at h
  exact h
set_option maxHeartbeats 4000000 in
set_option maxRecDepth 100000 in
theorem take_no (g : Nat) (s sm : ByteArray) (k : Nat) (neg : Bool) (all : Value) (dn ex : Int) (w : World) (h : Blk w g 85 (rdr s k neg all dn ex)) (hk : k < s.size) (hd : oneOf sm s[k] = false) (hsm : s.size < 140737488355328) :
    Calls Tryz.prog 86 #[.pointer (some ⟨g, 0, none⟩), .string sm] w (RgPost w g (rdr s k neg all dn ex) 0 false) := by
  obtain ⟨c0, c1, -, -, -, -⟩ := rdr_cells h
  have HB := Lib.hid h
  have t0 : decide ((k : Int) < (s.size : Int)) = true := decide_eq_true (by omega)
  have hib := fun W => ib_w sm s[k] W
  have hv9 : Lib.indexByte sm.data.toList s[k] < 0 := by
    unfold oneOf at hd
    rw [decide_eq_false_iff_not] at hd
    omega
  generalize Lib.indexByte sm.data.toList s[k] = v at hib hv9
  have HIB := Lib.hid hib
  have t1 : decide (0 ≤ v) = false := decide_eq_false (by omega)
  clear h hd hib
  go_enter Tryz.func86, Tryz.ntmps86
  go_wp2_with fail
  go_quiet ((go_at_call 117; exact Calls.quiet_of_same (HIB.out _)))
  go_wp2_with fail
  go_ret2
  exact ⟨rfl, (Only.refl _ _).drewN _, HB.out.drewN _⟩
set_option maxHeartbeats 4000000 in
set_option maxRecDepth 100000 in
theorem take_out (g : Nat) (s sm : ByteArray) (k : Nat) (neg : Bool) (all : Value) (dn ex : Int) (w : World) (h : Blk w g 85 (rdr s k neg all dn ex)) (hk : ¬ k < s.size) (hk2 : k < 140737488355329) (hsm : s.size < 140737488355328) :
    Calls Tryz.prog 86 #[.pointer (some ⟨g, 0, none⟩), .string sm] w (RgPost w g (rdr s k neg all dn ex) 0 false) := by
  obtain ⟨c0, c1, -, -, -, -⟩ := rdr_cells h
  have HB := Lib.hid h
  have t0 : decide ((k : Int) < (s.size : Int)) = false := decide_eq_false (by omega)
  clear h
  go_enter Tryz.func86, Tryz.ntmps86
  go_wp2_with fail
  go_quiet (fail)
  go_wp2_with fail
  go_ret2
  exact ⟨rfl, (Only.refl _ _).drewN _, HB.out.drewN _⟩
set_option maxHeartbeats 4000000 in
set_option maxRecDepth 100000 in
theorem take_yes (g : Nat) (s sm : ByteArray) (k : Nat) (neg : Bool) (all : Value) (dn ex : Int) (w : World) (h : Blk w g 85 (rdr s k neg all dn ex)) (hk : k < s.size) (hd : oneOf sm s[k] = true) (hsm : s.size < 140737488355328) :
    Calls Tryz.prog 86 #[.pointer (some ⟨g, 0, none⟩), .string sm] w (RgPost w g (rdr s (k + 1) neg all dn ex) (s[k].toNat : Nat) true) := by
  obtain ⟨c0, c1, -, -, -, -⟩ := rdr_cells h
  have f1 := h.frozen 1
  have HB := Lib.hid h
  have t0 : decide ((k : Int) < (s.size : Int)) = true := decide_eq_true (by omega)
  have hib := fun W => ib_w sm s[k] W
  have hv9 : 0 ≤ Lib.indexByte sm.data.toList s[k] := by
    unfold oneOf at hd
    rw [decide_eq_true_iff] at hd
    exact hd
  generalize Lib.indexByte sm.data.toList s[k] = v at hib hv9
  have HIB := Lib.hid hib
  have t1 : decide (0 ≤ v) = true := decide_eq_true hv9
  have e1 : ((k + 1 : Nat) : Int) = (k : Int) + 1 := by omega
  have hwm : IntKind.i64.wrap ((k : Int) + 1 - 1) = (k : Int) := by rw [show (k : Int) + 1 - 1 = k by omega]; exact IntWalk.i64_in _ (by omega)
  clear h hd hib
  go_enter Tryz.func86, Tryz.ntmps86
  go_wp2_with fail
  go_quiet ((go_at_call 117; exact Calls.quiet_of_same (HIB.out _)))
  go_wp2_with fail
  have hb2 := (HB.out.drewN nq).set_ 1 (.int .i64 ((k : Int) + 1))
  have ho2 := ((Only.refl g w).drewN nq).setCell 1 (.int .i64 ((k : Int) + 1))
  generalize (w.drewN nq).setCell ⟨g, 1, none⟩ (.int .i64 ((k : Int) + 1)) = W2 at *
  have hb3 : Blk W2 g 85 (rdr s (k + 1) neg all dn ex) := hb2
  clear hb2
  have d0 := (rdr_cells hb3).1
  have d1 : W2.cell? ⟨g, 1, none⟩ = some (.int .i64 ((k : Int) + 1)) := (rdr_cells hb3).2.1
  have HB3 := Lib.hid hb3
  have HO2 := Lib.hid ho2
  clear hb3 ho2 c0 c1 f1
  go_quiet (fail)
  go_wp2_with fail
  go_ret2
  exact ⟨rfl, HO2.out.drewN _, HB3.out.drewN _⟩
end Go.Proofs.YtabmalnandbocaaGreatDoor.Rdr
namespace Go.Proofs.YtabmalnandbocaaGreatDoor.Rdr
set_option exponentiation.threshold 3000
set_option linter.unusedVariables false
set_option linter.unusedSimpArgs false
open Go.RowKit Go.Proofs.YtabmalnandbocaaGreatDoor.Lbl Go.Proofs.YtabmalnandbocaaGreatDoor.Mem Go.Proofs.YtabmalnandbocaaGreatDoor.Own Go.Proofs.YtabmalnandbocaaGreatDoor.Num
def bodyIn : Code → Option Code
  | .scope c => some c
  | .seq a b => match bodyIn a with | some c => some c | none => bodyIn b
  | .block _ c => bodyIn c
  | _ => none
noncomputable def restL (l : Nat) : Code := ((Tryz.f55.body.bind bodyIn).bind (fun c => findLabel c l)).getD .skip
/-- The code behind a label, without the skip that stands in the label's place. -/
noncomputable def tailL (l : Nat) : Code := match restL l with | .seq .skip c => c | c => c
/-- The frame: the reader, the byte, whether there was one, whether the exponent is turned. -/
def frA (g : Nat) (u : Nat → Value) (x : Int) (b t : Bool) : Act := ⟨#[.pointer (some ⟨g, 0, none⟩), u 1, u 2, .int .u8 x, .bool b, .bool t, u 6, u 7, u 8, u 9, u 10, u 11, u 12, u 13, u 14, u 15, u 16, u 17, u 18, u 19, u 20, u 21, u 22, u 23, u 24, u 25, u 26, u 27, u 28, u 29, u 30, u 31, u 32, u 33, u 34, u 35, u 36, u 37, u 38, u 39, u 40, u 41, u 42, u 43, u 44, u 45, u 46, u 47, u 48, u 49, u 50, u 51, u 52, u 53, u 54, u 55, u 56, u 57, u 58, u 59, u 60, u 61, u 62, u 63, u 64, u 65, u 66, u 67, u 68, u 69, u 70, u 71, u 72, u 73, u 74, u 75, u 76, u 77, u 78, u 79, u 80, u 81, u 82, u 83, u 84, u 85, u 86, u 87, u 88, u 89, u 90, u 91, u 92, u 93, u 94, u 95, u 96, u 97, u 98, u 99, u 100, u 101, u 102, u 103, u 104, u 105, u 106, u 107, u 108, u 109, u 110, u 111, u 112, u 113, u 114, u 115, u 116, u 117, u 118, u 119, u 120, u 121, u 122, u 123, u 124, u 125, u 126, u 127, u 128, u 129, u 130, u 131, u 132, u 133, u 134, u 135, u 136, u 137, u 138], []⟩
def InFr (g : Nat) (x : Int) (t : Bool) (a : Act) : Prop := ∃ u b, a = frA g u x b t
theorem InFr.of {g : Nat} {x : Int} {b t : Bool} {A : Array Value} (h : (⟨A, []⟩ : Act) = frA g (fun i => A.getD i undef) x b t) : InFr g x t ⟨A, []⟩ := ⟨_, _, h⟩
theorem tw_step {l : List UInt8} {k : Nat} (h : k < l.length) (hd : isD (l[k]'h) = true) : (l.drop k).takeWhile isD = (l[k]'h) :: (l.drop (k + 1)).takeWhile isD ∧ dEnd l k = dEnd l (k + 1) := by
  refine ⟨by rw [List.drop_eq_getElem_cons h, List.takeWhile_cons_of_pos hd], (dEnd_yes ?_).2⟩
  unfold dAt
  rw [List.getElem?_eq_getElem h]
  exact hd
theorem tw_stop {l : List UInt8} {k : Nat} (h : ∀ h : k < l.length, isD (l[k]'h) = false) : (l.drop k).takeWhile isD = [] ∧ dEnd l k = k := by
  by_cases hk : k < l.length
  · refine ⟨by rw [List.drop_eq_getElem_cons hk, List.takeWhile_cons_of_neg (by rw [h hk]; decide)], dEnd_no ?_⟩
    unfold dAt
    rw [List.getElem?_eq_getElem hk]
    exact h hk
  · refine ⟨by rw [List.drop_of_length_le (by omega)]; rfl, dEnd_no ?_⟩
    unfold dAt
    rw [List.getElem?_eq_none (by omega)]
/-- What stands where the digits of the exponent go on: one more is to be taken in. -/
structure AtTen (w0 : World) (g : Nat) (s : ByteArray) (neg : Bool) (all : Value) (dn : Int) (V : Nat) (j : Nat) (w : World) (k : Nat) (e : Nat) (c : UInt8) : Prop where
  only : Only g w0 w
  blk : Blk w g 85 (rdr s k neg all dn (e : Nat))
  size : k ≤ s.size
  low : e < 11258999068426250
  dig : 48 ≤ c.toNat ∧ c.toNat ≤ 57
  val : ((s.data.toList.drop k).takeWhile isD).foldl tenP (tenP e c) = V
  fin : dEnd s.data.toList k = j
set_option maxHeartbeats 8000000 in
set_option maxRecDepth 1000000 in
theorem tens_pass (w0 : World) (g : Nat) (s : ByteArray) (neg : Bool) (all : Value) (dn : Int) (V j : Nat) (u : Nat → Value) (c : UInt8) (b t : Bool) (w : World) (k e : Nat) (Q : Exit → Act → World → Prop) (hsm : s.size < 140737488355328)
    (h : AtTen w0 g s neg all dn V j w k e c)
    (hQ : ∀ a' w', a'.tmps.getD 2 undef = .bool true → a'.defers = [] → Only g w0 w' → Blk w' g 85 (rdr s j neg all dn (if t then -(V : Int) else (V : Int))) → Q .ret a' w') :
    Code.wp Tryz.prog (tailL 4) (jumps (fun l a' w' => l = 4 ∧ ∃ (c' : UInt8) (k' e' : Nat), InFr g (c'.toNat : Nat) t a' ∧ AtTen w0 g s neg all dn V j w' k' e' c' ∧ k < k') Q) (frA g u (c.toNat : Nat) b t) w := by
  conv => arg 2; whnf
  unfold frA
  have HB := Lib.hid h.blk
  obtain ⟨c0, c1, c2, c3, c4, c5⟩ := rdr_cells h.blk
  have f5 := h.blk.frozen 5
  have HH := Lib.hid h
  have HQ := Lib.hid hQ
  have hx := h.dig
  have hlow := h.low
  clear h hQ
  by_cases hfar : e < 1125899906842624
  · have t1 : decide ((e : Int) < 1125899906842624) = true := decide_eq_true (by omega)
    have HEQ := Lib.hid (show ((tenP e c : Nat) : Int) = 10 * (e : Int) + ((c.toNat : Int) - 48) by unfold tenP; rw [if_pos hfar]; omega)
    have HLOW := Lib.hid (show tenP e c < 11258999068426250 by unfold tenP; rw [if_pos hfar]; omega)
    have HBN := Lib.hid (HB.out.set_ 5 (.int .i64 (10 * (e : Int) + ((c.toNat : Int) - 48))))
    have HON := Lib.hid ((HH.out.only).setCell 5 (.int .i64 (10 * (e : Int) + ((c.toNat : Int) - 48))))
    by_cases hks : k < s.size
    · by_cases hdg : 48 ≤ s[k].toNat ∧ s[k].toNat ≤ 57
      · have HC := Lib.hid (fun W (hb : Blk W g 85 (rdr s k neg all dn (10 * (e : Int) + ((c.toNat : Int) - 48)))) => dig_yes g s k neg all dn (10 * (e : Int) + ((c.toNat : Int) - 48)) W hb hks hdg hsm)
        have HDG := Lib.hid hdg
        have HSTP := Lib.hid (tw_step (l := s.data.toList) (k := k) (by simpa using hks) (isD_of hdg))
        clear hdg
        go_wp2_with fail
        refine (HC.out _ HBN.out).mono ?_
        rintro en w2 ⟨rfl, ho, hb⟩
        have HO := Lib.hid ho
        have HB2 := Lib.hid hb
        clear ho hb
        go_wp2_with fail
        go_step3
        refine ⟨rfl, s[k], k + 1, tenP e c, InFr.of (b := true) rfl, ⟨HON.out.trans HO.out, by rw [HEQ.out]; exact HB2.out, hks, HLOW.out, HDG.out, ?_, ?_⟩, Nat.lt_succ_self _⟩
        · rw [← HH.out.val, HSTP.out.1, List.foldl_cons]; rfl
        · rw [← HSTP.out.2]; exact HH.out.fin
      · have HC := Lib.hid (fun W (hb : Blk W g 85 (rdr s k neg all dn (10 * (e : Int) + ((c.toNat : Int) - 48)))) => dig_no g s k neg all dn (10 * (e : Int) + ((c.toNat : Int) - 48)) W hb hks hdg hsm)
        have HSTP := Lib.hid (tw_stop (l := s.data.toList) (k := k) (fun h => by unfold isD; rw [← Bool.decide_and, decide_eq_false_iff_not]; exact hdg))
        clear hdg
        have HFIN := Lib.hid (show V = tenP e c ∧ j = k from ⟨by have h := HH.out.val; rw [HSTP.out.1] at h; exact h.symm, by rw [← HH.out.fin, HSTP.out.2]⟩)
        cases t
        · go_wp2_with fail
          refine (HC.out _ HBN.out).mono ?_
          rintro en w2 ⟨rfl, ho, hb⟩
          have HO := Lib.hid ho
          have HB2 := Lib.hid hb
          clear ho hb
          go_wp2_with fail
          show Q Exit.ret _ _
          refine HQ.out _ _ rfl rfl (HON.out.trans HO.out) ?_
          rw [HFIN.out.1, HFIN.out.2, HEQ.out]
          exact HB2.out
        · go_wp2_with fail
          refine (HC.out _ HBN.out).mono ?_
          rintro en w2 ⟨rfl, ho, hb⟩
          have d5 := (rdr_cells hb).2.2.2.2.2
          have g5 := hb.frozen 5
          have HS5 := Lib.hid (hb.set_ 5 (.int .i64 (-(10 * (e : Int) + ((c.toNat : Int) - 48)))))
          have HO5 := Lib.hid (ho.setCell 5 (.int .i64 (-(10 * (e : Int) + ((c.toNat : Int) - 48)))))
          clear ho hb c0 c1 c2 c3 c4 c5 f5
          go_wp2_with fail
          show Q Exit.ret _ _
          refine HQ.out _ _ rfl rfl (HON.out.trans HO5.out) ?_
          rw [HFIN.out.1, HFIN.out.2, HEQ.out]
          exact HS5.out
    · have hle := HH.out.size
      have HC := Lib.hid (fun W (hb : Blk W g 85 (rdr s k neg all dn (10 * (e : Int) + ((c.toNat : Int) - 48)))) => dig_out g s k neg all dn (10 * (e : Int) + ((c.toNat : Int) - 48)) W hb hks (by omega) hsm)
      have HSTP := Lib.hid (tw_stop (l := s.data.toList) (k := k) (fun h => absurd (by simpa using h) hks))
      have HFIN := Lib.hid (show V = tenP e c ∧ j = k from ⟨by have h := HH.out.val; rw [HSTP.out.1] at h; exact h.symm, by rw [← HH.out.fin, HSTP.out.2]⟩)
      cases t
      · go_wp2_with fail
        refine (HC.out _ HBN.out).mono ?_
        rintro en w2 ⟨rfl, ho, hb⟩
        have HO := Lib.hid ho
        have HB2 := Lib.hid hb
        clear ho hb
        go_wp2_with fail
        show Q Exit.ret _ _
        refine HQ.out _ _ rfl rfl (HON.out.trans HO.out) ?_
        rw [HFIN.out.1, HFIN.out.2, HEQ.out]
        exact HB2.out
      · go_wp2_with fail
        refine (HC.out _ HBN.out).mono ?_
        rintro en w2 ⟨rfl, ho, hb⟩
        have d5 := (rdr_cells hb).2.2.2.2.2
        have g5 := hb.frozen 5
        have HS5 := Lib.hid (hb.set_ 5 (.int .i64 (-(10 * (e : Int) + ((c.toNat : Int) - 48)))))
        have HO5 := Lib.hid (ho.setCell 5 (.int .i64 (-(10 * (e : Int) + ((c.toNat : Int) - 48)))))
        clear ho hb c0 c1 c2 c3 c4 c5 f5
        go_wp2_with fail
        show Q Exit.ret _ _
        refine HQ.out _ _ rfl rfl (HON.out.trans HO5.out) ?_
        rw [HFIN.out.1, HFIN.out.2, HEQ.out]
        exact HS5.out
  · have t1 : decide ((e : Int) < 1125899906842624) = false := decide_eq_false (by omega)
    have HTEN := Lib.hid (show tenP e c = e from if_neg hfar)
    have HEQ := Lib.hid (show ((tenP e c : Nat) : Int) = (e : Int) by rw [HTEN.out])
    have HLOW := Lib.hid (show tenP e c < 11258999068426250 by rw [HTEN.out]; exact hlow)
    have HBN := HB
    by_cases hks : k < s.size
    · by_cases hdg : 48 ≤ s[k].toNat ∧ s[k].toNat ≤ 57
      · have HC := Lib.hid (fun W (hb : Blk W g 85 (rdr s k neg all dn ((e : Nat)))) => dig_yes g s k neg all dn ((e : Nat)) W hb hks hdg hsm)
        have HDG := Lib.hid hdg
        have HSTP := Lib.hid (tw_step (l := s.data.toList) (k := k) (by simpa using hks) (isD_of hdg))
        clear hdg
        go_wp2_with fail
        refine (HC.out _ HBN.out).mono ?_
        rintro en w2 ⟨rfl, ho, hb⟩
        have HO := Lib.hid ho
        have HB2 := Lib.hid hb
        clear ho hb
        go_wp2_with fail
        go_step3
        refine ⟨rfl, s[k], k + 1, tenP e c, InFr.of (b := true) rfl, ⟨HH.out.only.trans HO.out, by rw [HEQ.out]; exact HB2.out, hks, HLOW.out, HDG.out, ?_, ?_⟩, Nat.lt_succ_self _⟩
        · rw [← HH.out.val, HSTP.out.1, List.foldl_cons]; rfl
        · rw [← HSTP.out.2]; exact HH.out.fin
      · have HC := Lib.hid (fun W (hb : Blk W g 85 (rdr s k neg all dn ((e : Nat)))) => dig_no g s k neg all dn ((e : Nat)) W hb hks hdg hsm)
        have HSTP := Lib.hid (tw_stop (l := s.data.toList) (k := k) (fun h => by unfold isD; rw [← Bool.decide_and, decide_eq_false_iff_not]; exact hdg))
        clear hdg
        have HFIN := Lib.hid (show V = tenP e c ∧ j = k from ⟨by have h := HH.out.val; rw [HSTP.out.1] at h; exact h.symm, by rw [← HH.out.fin, HSTP.out.2]⟩)
        cases t
        · go_wp2_with fail
          refine (HC.out _ HBN.out).mono ?_
          rintro en w2 ⟨rfl, ho, hb⟩
          have HO := Lib.hid ho
          have HB2 := Lib.hid hb
          clear ho hb
          go_wp2_with fail
          show Q Exit.ret _ _
          refine HQ.out _ _ rfl rfl (HH.out.only.trans HO.out) ?_
          rw [HFIN.out.1, HFIN.out.2, HEQ.out]
          exact HB2.out
        · go_wp2_with fail
          refine (HC.out _ HBN.out).mono ?_
          rintro en w2 ⟨rfl, ho, hb⟩
          have d5 := (rdr_cells hb).2.2.2.2.2
          have g5 := hb.frozen 5
          have HS5 := Lib.hid (hb.set_ 5 (.int .i64 (-(e : Int))))
          have HO5 := Lib.hid (ho.setCell 5 (.int .i64 (-(e : Int))))
          clear ho hb c0 c1 c2 c3 c4 c5 f5
          go_wp2_with fail
          show Q Exit.ret _ _
          refine HQ.out _ _ rfl rfl (HH.out.only.trans HO5.out) ?_
          rw [HFIN.out.1, HFIN.out.2, HEQ.out]
          exact HS5.out
    · have hle := HH.out.size
      have HC := Lib.hid (fun W (hb : Blk W g 85 (rdr s k neg all dn ((e : Nat)))) => dig_out g s k neg all dn ((e : Nat)) W hb hks (by omega) hsm)
      have HSTP := Lib.hid (tw_stop (l := s.data.toList) (k := k) (fun h => absurd (by simpa using h) hks))
      have HFIN := Lib.hid (show V = tenP e c ∧ j = k from ⟨by have h := HH.out.val; rw [HSTP.out.1] at h; exact h.symm, by rw [← HH.out.fin, HSTP.out.2]⟩)
      cases t
      · go_wp2_with fail
        refine (HC.out _ HBN.out).mono ?_
        rintro en w2 ⟨rfl, ho, hb⟩
        have HO := Lib.hid ho
        have HB2 := Lib.hid hb
        clear ho hb
        go_wp2_with fail
        show Q Exit.ret _ _
        refine HQ.out _ _ rfl rfl (HH.out.only.trans HO.out) ?_
        rw [HFIN.out.1, HFIN.out.2, HEQ.out]
        exact HB2.out
      · go_wp2_with fail
        refine (HC.out _ HBN.out).mono ?_
        rintro en w2 ⟨rfl, ho, hb⟩
        have d5 := (rdr_cells hb).2.2.2.2.2
        have g5 := hb.frozen 5
        have HS5 := Lib.hid (hb.set_ 5 (.int .i64 (-(e : Int))))
        have HO5 := Lib.hid (ho.setCell 5 (.int .i64 (-(e : Int))))
        clear ho hb c0 c1 c2 c3 c4 c5 f5
        go_wp2_with fail
        show Q Exit.ret _ _
        refine HQ.out _ _ rfl rfl (HH.out.only.trans HO5.out) ?_
        rw [HFIN.out.1, HFIN.out.2, HEQ.out]
        exact HS5.out
end Go.Proofs.YtabmalnandbocaaGreatDoor.Rdr
namespace Go.Proofs.YtabmalnandbocaaGreatDoor.Rdr
set_option exponentiation.threshold 3000
set_option linter.unusedVariables false
set_option linter.unusedSimpArgs false
open Go.RowKit Go.Proofs.YtabmalnandbocaaGreatDoor.Lbl Go.Proofs.YtabmalnandbocaaGreatDoor.Mem Go.Proofs.YtabmalnandbocaaGreatDoor.Own Go.Proofs.YtabmalnandbocaaGreatDoor.Num
theorem oneOf_two (x y c : UInt8) : oneOf ⟨#[x, y]⟩ c = (c == x || c == y) := by
  unfold oneOf
  show decide (0 ≤ Lib.indexByte [x, y] c) = _
  unfold Lib.indexByte
  by_cases h1 : c = x
  · subst h1; simp
  · by_cases h2 : c = y
    · subst h2
      have h3 : (x == c) = false := by simpa using fun e => h1 e.symm
      simp [Lib.indexByte, h3]
    · have h3 : (x == c) = false := by simpa using fun e => h1 e.symm
      have h4 : (y == c) = false := by simpa using fun e => h2 e.symm
      simp [Lib.indexByte, h3, h4, h1, h2]
theorem oneOf_one (x c : UInt8) : oneOf ⟨#[x]⟩ c = (c == x) := by
  unfold oneOf
  show decide (0 ≤ Lib.indexByte [x] c) = _
  unfold Lib.indexByte
  by_cases h1 : c = x
  · subst h1; simp
  · have h3 : (x == c) = false := by simpa using fun e => h1 e.symm
    simp [Lib.indexByte, h3, h1]
/-- The exponent is left out. -/
theorem expF_not {l : List UInt8} {i : Nat} (h : bAt l i 101 69 = false) : expF l i = some (false, [], i) := by
  unfold expF
  rw [if_neg (by rw [h]; decide)]
theorem bAt_in {l : List UInt8} {i : Nat} (h : i < l.length) (x y : UInt8) : bAt l i x y = (l[i] == x || l[i] == y) := by
  unfold bAt
  rw [List.getElem?_eq_getElem h]
theorem bAt_out {l : List UInt8} {i : Nat} (h : ¬ i < l.length) (x y : UInt8) : bAt l i x y = false := by
  unfold bAt
  rw [List.getElem?_eq_none (by omega)]
/-- A byte is taken, or none is: what take answers, whatever stands there. -/
def tkPost (w : World) (g : Nat) (s : ByteArray) (i : Nat) (neg : Bool) (all : Value) (dn ex : Int) (x y : UInt8) (en : Ending) (w' : World) : Prop :=
  ∃ c : UInt8, en = .returned (.tuple #[.int .u8 (c.toNat : Nat), .bool (bAt s.data.toList i x y)]) ∧ Only g w w' ∧ Blk w' g 85 (rdr s (if bAt s.data.toList i x y = true then i + 1 else i) neg all dn ex) ∧ (bAt s.data.toList i x y = true → s.data.toList[i]? = some c) ∧ (bAt s.data.toList i x y = false → c = 0)
theorem take_any (g : Nat) (s : ByteArray) (i : Nat) (neg : Bool) (all : Value) (dn ex : Int) (x y : UInt8) (w : World) (h : Blk w g 85 (rdr s i neg all dn ex)) (hi : i ≤ s.size) (hsm : s.size < 140737488355328) :
    Calls Tryz.prog 86 #[.pointer (some ⟨g, 0, none⟩), .string ⟨#[x, y]⟩] w (tkPost w g s i neg all dn ex x y) := by
  have hl : s.data.toList.length = s.size := by simp
  by_cases hk : i < s.size
  · have hb := bAt_in (l := s.data.toList) (i := i) (by omega) x y
    have ho := oneOf_two x y s[i]
    rw [show s.data.toList[i]'(by omega) = s[i] from rfl, ← ho] at hb
    cases hc : oneOf ⟨#[x, y]⟩ s[i]
    · refine (take_no g s ⟨#[x, y]⟩ i neg all dn ex w h hk hc hsm).mono fun en w' hh => ?_
      obtain ⟨rfl, h1, h2⟩ := hh
      exact ⟨0, by rw [hb, hc]; rfl, h1, by rw [hb, hc]; exact h2, (fun e => by rw [hb, hc] at e; cases e), fun _ => rfl⟩
    · refine (take_yes g s ⟨#[x, y]⟩ i neg all dn ex w h hk hc hsm).mono fun en w' hh => ?_
      obtain ⟨rfl, h1, h2⟩ := hh
      exact ⟨s[i], by rw [hb, hc], h1, by rw [hb, hc]; exact h2, fun _ => List.getElem?_eq_getElem (by omega), fun e => by rw [hb, hc] at e; cases e⟩
  · have hb := bAt_out (l := s.data.toList) (i := i) (by omega) x y
    refine (take_out g s ⟨#[x, y]⟩ i neg all dn ex w h hk (by omega) hsm).mono fun en w' hh => ?_
    obtain ⟨rfl, h1, h2⟩ := hh
    exact ⟨0, by rw [hb]; rfl, h1, by rw [hb]; exact h2, (fun e => by rw [hb] at e; cases e), fun _ => rfl⟩
/-- A digit is taken, or none is. -/
def dgPost (w : World) (g : Nat) (s : ByteArray) (i : Nat) (neg : Bool) (all : Value) (dn ex : Int) (en : Ending) (w' : World) : Prop :=
  ∃ c : UInt8, en = .returned (.tuple #[.int .u8 (c.toNat : Nat), .bool (dAt s.data.toList i)]) ∧ Only g w w' ∧ Blk w' g 85 (rdr s (if dAt s.data.toList i = true then i + 1 else i) neg all dn ex) ∧ (dAt s.data.toList i = true → s.data.toList[i]? = some c ∧ 48 ≤ c.toNat ∧ c.toNat ≤ 57)
theorem dig_any (g : Nat) (s : ByteArray) (i : Nat) (neg : Bool) (all : Value) (dn ex : Int) (w : World) (h : Blk w g 85 (rdr s i neg all dn ex)) (hi : i ≤ s.size) (hsm : s.size < 140737488355328) :
    Calls Tryz.prog 87 #[.pointer (some ⟨g, 0, none⟩)] w (dgPost w g s i neg all dn ex) := by
  have hl : s.data.toList.length = s.size := by simp
  by_cases hk : i < s.size
  · have hb : dAt s.data.toList i = isD s[i] := by unfold dAt; rw [List.getElem?_eq_getElem (by omega)]; rfl
    by_cases hd : 48 ≤ s[i].toNat ∧ s[i].toNat ≤ 57
    · rw [isD_of hd] at hb
      refine (dig_yes g s i neg all dn ex w h hk hd hsm).mono fun en w' hh => ?_
      obtain ⟨rfl, h1, h2⟩ := hh
      exact ⟨s[i], by rw [hb], h1, by rw [hb]; exact h2, fun _ => ⟨List.getElem?_eq_getElem (by omega), hd⟩⟩
    · have hf : isD s[i] = false := by unfold isD; rw [← Bool.decide_and, decide_eq_false_iff_not]; exact hd
      rw [hf] at hb
      refine (dig_no g s i neg all dn ex w h hk hd hsm).mono fun en w' hh => ?_
      obtain ⟨rfl, h1, h2⟩ := hh
      exact ⟨0, by rw [hb]; rfl, h1, by rw [hb]; exact h2, fun e => by rw [hb] at e; cases e⟩
  · have hb : dAt s.data.toList i = false := by unfold dAt; rw [List.getElem?_eq_none (by omega)]
    refine (dig_out g s i neg all dn ex w h hk (by omega) hsm).mono fun en w' hh => ?_
    obtain ⟨rfl, h1, h2⟩ := hh
    exact ⟨0, by rw [hb]; rfl, h1, by rw [hb]; exact h2, fun e => by rw [hb] at e; cases e⟩
theorem tens_at (w0 : World) (g : Nat) (s : ByteArray) (neg : Bool) (all : Value) (dn : Int) (V j : Nat) {A : Array Value} (c : UInt8) (b t : Bool) (w : World) (k e : Nat) (Q : Exit → Act → World → Prop) (hA : (⟨A, []⟩ : Act) = frA g (fun i => A.getD i undef) (c.toNat : Nat) b t) (hsm : s.size < 140737488355328)
    (h : AtTen w0 g s neg all dn V j w k e c)
    (hQ : ∀ a' w', a'.tmps.getD 2 undef = .bool true → a'.defers = [] → Only g w0 w' → Blk w' g 85 (rdr s j neg all dn (if t then -(V : Int) else (V : Int))) → Q .ret a' w') :
    Code.wp Tryz.prog (tailL 4) (jumps (fun l a' w' => l = 4 ∧ ∃ (c' : UInt8) (k' e' : Nat), InFr g (c'.toNat : Nat) t a' ∧ AtTen w0 g s neg all dn V j w' k' e' c' ∧ k < k') Q) ⟨A, []⟩ w := by
  rw [hA]
  exact tens_pass w0 g s neg all dn V j _ c b t w k e Q hsm h hQ
/-- One pass more of the exponent's digits. -/
theorem exp_some_of {l : List UInt8} {i : Nat} (h : bAt l i 101 69 = true) (hd : dAt l (if bAt l (i + 1) 43 45 = true then i + 2 else i + 1) = true) :
    ∃ hp : (if bAt l (i + 1) 43 45 = true then i + 2 else i + 1) < l.length, expF l i = some (bAt l (i + 1) 45 45, (l[if bAt l (i + 1) 43 45 = true then i + 2 else i + 1]'hp) :: (l.drop ((if bAt l (i + 1) 43 45 = true then i + 2 else i + 1) + 1)).takeWhile isD, dEnd l ((if bAt l (i + 1) 43 45 = true then i + 2 else i + 1) + 1)) := by
  generalize hp' : (if bAt l (i + 1) 43 45 = true then i + 2 else i + 1) = p at *
  have hp := (dEnd_yes hd).1
  have hdd : isD (l[p]'hp) = true := by
    unfold dAt at hd
    rw [List.getElem?_eq_getElem hp] at hd
    exact hd
  obtain ⟨e1, e2⟩ := tw_step hp hdd
  have h3 := dEnd_ge l (p + 1)
  refine ⟨hp, ?_⟩
  unfold expF
  rw [if_pos h, hp', if_neg (by omega)]
  unfold span
  have e3 : (l.drop p).take (dEnd l p - p) = (l.drop p).takeWhile isD := by
    unfold dEnd
    rw [Nat.add_sub_cancel_left]
    exact (List.prefix_iff_eq_take.1 (List.takeWhile_prefix isD)).symm
  rw [e3, e1, e2]
theorem exp_none_of {l : List UInt8} {i : Nat} (h : bAt l i 101 69 = true) (hd : dAt l (if bAt l (i + 1) 43 45 = true then i + 2 else i + 1) = false) : expF l i = none := by
  unfold expF
  rw [if_pos h, if_pos (dEnd_no hd)]
set_option maxHeartbeats 8000000 in
set_option maxRecDepth 1000000 in
theorem exp_pass (w0 : World) (g : Nat) (s : ByteArray) (neg : Bool) (all : Value) (dn : Int) (i : Nat) (u : Nat → Value) (x : Int) (b : Bool) (w : World) (J : Nat → Act → World → Prop) (Q : Exit → Act → World → Prop) (hsm : s.size < 140737488355328)
    (ho : Only g w0 w) (hb : Blk w g 85 (rdr s i neg all dn 0)) (hi : i ≤ s.size)
    (hNo : expF s.data.toList i = none → ∀ a' w', a'.tmps.getD 2 undef = .bool false → a'.defers = [] → Only g w0 w' → (∃ k, Blk w' g 85 (rdr s k neg all dn 0)) → Q .ret a' w')
    (hYes : ∀ en ds j, expF s.data.toList i = some (en, ds, j) → ∀ a' w', a'.tmps.getD 2 undef = .bool true → a'.defers = [] → Only g w0 w' → Blk w' g 85 (rdr s j neg all dn (if en then -((ds.foldl tenP 0 : Nat) : Int) else ((ds.foldl tenP 0 : Nat) : Int))) → Q .ret a' w')
    (hJ : ∀ en ds j, expF s.data.toList i = some (en, ds, j) → ∀ (c : UInt8) k e a' w', InFr g (c.toNat : Nat) en a' → AtTen w0 g s neg all dn (ds.foldl tenP 0) j w' k e c → i < k → J 4 a' w') :
    Code.wp Tryz.prog (tailL 2) (jumps J Q) (frA g u x b false) w := by
  conv => arg 2; whnf
  unfold frA
  have HO0 := Lib.hid ho
  have HB0 := Lib.hid hb
  have HNo := Lib.hid hNo
  have HYes := Lib.hid hYes
  have HJ := Lib.hid hJ
  have HT := Lib.hid (take_any g s i neg all dn 0 101 69 w hb hi hsm)
  clear ho hb hNo hYes hJ
  go_wp2_with fail
  refine HT.out.mono ?_
  rintro en w1 ⟨c, rfl, o1, b1, hc1, hc0⟩
  have HO1 := Lib.hid (HO0.out.trans o1)
  have HB1 := Lib.hid b1
  cases hat : bAt s.data.toList i 101 69
  · have hex := expF_not hat
    rw [hat, if_neg (by decide)] at b1
    have HB2 := Lib.hid b1
    have HEX := Lib.hid hex
    clear hc1 hc0 o1 b1 hex hat HB1
    go_wp2_with fail
    show Q Exit.ret _ _
    exact HYes.out false [] i HEX.out _ _ rfl rfl HO1.out HB2.out
  · rw [hat, if_pos rfl] at b1
    have hil : i < s.data.toList.length := by
      apply Classical.byContradiction
      intro hn
      rw [bAt_out hn] at hat
      cases hat
    have hl : s.data.toList.length = s.size := by simp
    have HT2 := Lib.hid (take_any g s (i + 1) neg all dn 0 43 45 w1 b1 (by omega) hsm)
    have HAT := Lib.hid hat
    have HIL := Lib.hid (show i + 1 ≤ s.size by omega)
    clear hc1 hc0 o1 b1 hat HB1 hil hl
    go_wp2_with fail
    refine HT2.out.mono ?_
    rintro en w2 ⟨c2, rfl, o2, b2, hc1, hc0⟩
    have HO2 := Lib.hid (HO1.out.trans o2)
    have hen : ((c2.toNat : Int) == 45) = bAt s.data.toList (i + 1) 45 45 := by
      cases h4 : bAt s.data.toList (i + 1) 43 45
      · rw [hc0 h4]
        have : bAt s.data.toList (i + 1) 45 45 = false := by
          unfold bAt at h4 ⊢
          cases h5 : s.data.toList[i + 1]? with
          | none => rfl
          | some d => rw [h5] at h4; simp at h4 ⊢; exact h4.2
        rw [this]; rfl
      · have h5 := hc1 h4
        unfold bAt
        rw [h5]
        show _ = (c2 == 45 || c2 == 45)
        rw [Bool.or_self]
        by_cases h6 : c2 = 45
        · subst h6; rfl
        · have h7 : (c2 == 45) = false := by simpa using h6
          rw [h7, beq_eq_false_iff_ne]
          intro h8
          exact h6 (UInt8.toNat_inj.1 (by show c2.toNat = 45; omega))
    obtain ⟨en, hen2⟩ : ∃ en, en = bAt s.data.toList (i + 1) 45 45 := ⟨_, rfl⟩
    obtain ⟨p, hp⟩ : ∃ p, p = if bAt s.data.toList (i + 1) 43 45 = true then i + 2 else i + 1 := ⟨_, rfl⟩
    rw [← hen2] at hen
    replace b2 : Blk w2 g 85 (rdr s p neg all dn 0) := by rw [hp]; exact b2
    have hps : p ≤ s.size ∧ i < p := by
      have hl : s.data.toList.length = s.size := by simp
      have := HIL.out
      rw [hp]
      cases h4 : bAt s.data.toList (i + 1) 43 45
      · rw [if_neg (by decide)]; omega
      · rw [if_pos rfl]
        have : i + 1 < s.data.toList.length := by
          apply Classical.byContradiction
          intro hn
          rw [bAt_out hn] at h4
          cases h4
        omega
    have HD := Lib.hid (dig_any g s p neg all dn 0 w2 b2 hps.1 hsm)
    have HEN := Lib.hid hen2
    have HP := Lib.hid hp
    have HPS := Lib.hid hps
    clear hc1 hc0 o2 b2 hen2 hp hps
    go_wp2_with fail
    refine HD.out.mono ?_
    rintro en3 w3 ⟨c3, rfl, o3, b3, hc3⟩
    have HO3 := Lib.hid (HO2.out.trans o3)
    cases hd3 : dAt s.data.toList p
    · rw [hd3, if_neg (by decide)] at b3
      have HN := Lib.hid (exp_none_of HAT.out (by rw [← HP.out]; exact hd3))
      have HB3 := Lib.hid b3
      clear hc3 o3 b3 hd3
      go_wp2_with fail
      show Q Exit.ret _ _
      exact HNo.out HN.out _ _ rfl rfl HO3.out ⟨_, HB3.out⟩
    · rw [hd3, if_pos rfl] at b3
      obtain ⟨hq1, hq2⟩ := exp_some_of HAT.out (by rw [← HP.out]; exact hd3)
      obtain ⟨hc4, hc5⟩ := hc3 hd3
      simp only [← HP.out, ← HEN.out] at hq1 hq2
      have hc6 : s.data.toList[p]'hq1 = c3 := by
        rw [List.getElem?_eq_getElem hq1] at hc4
        exact Option.some.inj hc4
      rw [hc6] at hq2
      have HQ2 := Lib.hid hq2
      have HB3 := Lib.hid b3
      have HC5 := Lib.hid hc5
      have HSZ := Lib.hid (show p + 1 ≤ s.size by have : s.data.toList.length = s.size := by simp
                                                  omega)
      clear hc3 o3 b3 hd3 hc4 hc5 hc6 hq2
      go_wp2_with fail
      go_step3
      first | go_values | go_skip | go_guarded | go_step | go_upon | go_back
      first | go_values | go_skip | go_guarded | go_step | go_upon | go_back
      refine wp_mono (tens_at w0 g s neg all dn _ _ c3 true en w3 (p + 1) 0 Q (by rfl) hsm ⟨HO3.out, HB3.out, HSZ.out, by decide, HC5.out, rfl, rfl⟩ (fun a' w' r1 r2 r3 r4 => HYes.out en (c3 :: (s.data.toList.drop (p + 1)).takeWhile isD) _ HQ2.out a' w' r1 r2 r3 r4)) ?_
      intro ex a' w' hh
      cases ex with
      | goto l =>
        obtain ⟨rfl, c', k', e', h1, h2, h3⟩ := hh
        exact HJ.out en (c3 :: (s.data.toList.drop (p + 1)).takeWhile isD) _ HQ2.out c' k' e' a' w' h1 h2 (by have := HPS.out; omega)
      | _ => exact hh
end Go.Proofs.YtabmalnandbocaaGreatDoor.Rdr
namespace Go.Proofs.YtabmalnandbocaaGreatDoor.Rdr
set_option exponentiation.threshold 3000
set_option linter.unusedVariables false
set_option linter.unusedSimpArgs false
open Go.RowKit Go.Proofs.YtabmalnandbocaaGreatDoor.Lbl Go.Proofs.YtabmalnandbocaaGreatDoor.Mem Go.Proofs.YtabmalnandbocaaGreatDoor.Own Go.Proofs.YtabmalnandbocaaGreatDoor.Num
/-- The digits read so far, in a row that the call owns. -/
abbrev DRow (w : World) (base : Nat) (v : Value) (l : List UInt8) : Prop := NRow .u8 5 w base v (l.map UInt8.toNat)
/-- One more: the run of the append. -/
theorem app_dig (w : World) (base : Nat) (v : Value) (l : List UInt8) (c : UInt8) (h : DRow w base v l) (hb : base ≤ w.heap.size) (hl : l.length < 140737488355327) :
    ∃ v' w', (Builtin.append_ #[60, 60] 60 #[v, .slice (some ⟨w.heap.size, 0, none⟩) 1 1]).run Tryz.prog (w.alloc (.cells #[.int .u8 (c.toNat : Int)] 5)) = .ok v' w' ∧ DRow w' base v' (l ++ [c]) ∧ (w.alloc (.cells #[.int .u8 (c.toNat : Int)] 5)).grownBy w' v.ownBlock := by
  obtain ⟨i8, hi8, hz8, hs8, hb8⟩ := info_of u8_info
  obtain ⟨v', w', hrun, h2, h3⟩ := run_append_num (P := Tryz.prog) (w.alloc (.cells #[.int .u8 (c.toNat : Int)] 5)) .u8 base 60 60 5 (.int .u8 0) 1 i8 Tryz.underlying60 hi8 hz8 hs8 hb8 rfl v (l.map UInt8.toNat) (h.below ((Below.refl _ w).alloc (Nat.le_refl _) _)) (some ⟨w.heap.size, 0, none⟩) 1 1 [c.toNat] rfl (one_at w c.toNat) (by unfold maxLen; simp; omega) (by simp; omega) (by simp; omega)
  exact ⟨v', w', hrun, by unfold DRow; rw [List.map_append]; exact h2, h3⟩
theorem only_grown {g : Nat} {a w w' : World} {row : Option Nat} (h : Only g a w) (hg : w.grownBy w' row) (hr : ∀ b, row = some b → a.heap.size ≤ b) : Only g a w' :=
  ⟨hg.os.trans h.os, hg.tape.trans h.tape, hg.output.trans h.output, Nat.le_trans h.size hg.size, fun i hi hn => (hg.block i (Nat.lt_of_lt_of_le hi h.size) (fun e => by have := hr i e.symm; omega)).trans (h.block i hi hn)⟩
theorem tw_yes {l : List UInt8} {k : Nat} {c : UInt8} (h : dAt l k = true) (hc : l[k]? = some c) : (l.drop k).takeWhile isD = c :: (l.drop (k + 1)).takeWhile isD ∧ dEnd l k = dEnd l (k + 1) ∧ k < l.length := by
  obtain ⟨hi, rfl⟩ := List.getElem?_eq_some_iff.1 hc
  have hd : isD l[k] = true := by unfold dAt at h; rw [hc] at h; exact h
  obtain ⟨h1, h2⟩ := tw_step hi hd
  exact ⟨h1, h2, hi⟩
theorem tw_no {l : List UInt8} {k : Nat} (h : dAt l k = false) : (l.drop k).takeWhile isD = [] ∧ dEnd l k = k :=
  tw_stop fun hi => by unfold dAt at h; rw [List.getElem?_eq_getElem hi] at h; exact h
/-- What the run's end is asked for. -/
def Fin (Q : Exit → Act → World → Prop) (w0 : World) (g : Nat) (s : ByteArray) (neg : Bool) (r : Rd) : Prop :=
  (r = none → ∀ a' w', a'.tmps.getD 2 undef = .bool false → a'.defers = [] → Only g w0 w' → (∃ k v dn, Blk w' g 85 (rdr s k neg v dn 0)) → Q .ret a' w') ∧
  (∀ ds dn en x j, r = some (ds, dn, en, x, j) → ∀ a' w', a'.tmps.getD 2 undef = .bool true → a'.defers = [] → Only g w0 w' → (∃ v, Blk w' g 85 (rdr s j neg v (dn : Nat) (if en then -((x.foldl tenP 0 : Nat) : Int) else ((x.foldl tenP 0 : Nat) : Int))) ∧ DRow w' w0.heap.size v ds) → Q .ret a' w')
/-- The reader and its digits at a label. -/
structure AtLab (w0 : World) (g : Nat) (s : ByteArray) (neg : Bool) (w : World) (k : Nat) (v : Value) (ds : List UInt8) (dn : Nat) : Prop where
  only : Only g w0 w
  blk : Blk w g 85 (rdr s k neg v (dn : Nat) 0)
  row : DRow w w0.heap.size v ds
  size : k ≤ s.size
  len : ds.length ≤ k
  dnk : dn ≤ k
  low : g < w0.heap.size
section
variable (w0 : World) (g : Nat) (s : ByteArray) (neg : Bool) (r : Rd)
def J0 (a : Act) (w : World) : Prop := ∃ u x b k v ds, a = frA g u x b false ∧ AtLab w0 g s neg w k v ds 0 ∧ r = pointR s.data.toList ds k
def J1 (a : Act) (w : World) : Prop := ∃ u x b k v ds, a = frA g u x b false ∧ AtLab w0 g s neg w k v ds 0 ∧ r = wholeR s.data.toList ds k
def J2 (a : Act) (w : World) : Prop := ∃ u x b k v ds dn, a = frA g u x b false ∧ AtLab w0 g s neg w k v ds dn ∧ r = expR s.data.toList ds dn k
def J3 (a : Act) (w : World) : Prop := ∃ u, ∃ c : UInt8, ∃ b k v ds dn, a = frA g u (c.toNat : Nat) b false ∧ AtLab w0 g s neg w k v ds dn ∧ ds.length < k ∧ dn < k ∧ r = expR s.data.toList (ds ++ c :: (s.data.toList.drop k).takeWhile isD) (dn + 1 + ((s.data.toList.drop k).takeWhile isD).length) (dEnd s.data.toList k)
def J4 (a : Act) (w : World) : Prop := ∃ w1 all, ∃ dn : Nat, ∃ V j, ∃ c : UInt8, ∃ k e en ds x, Only g w0 w1 ∧ DRow w1 w0.heap.size all ds ∧ g < w0.heap.size ∧ InFr g (c.toNat : Nat) en a ∧ AtTen w1 g s neg all (dn : Nat) V j w k e c ∧ r = some (ds, dn, en, x, j) ∧ x.foldl tenP 0 = V
def JL (l : Nat) (a : Act) (w : World) : Prop := if l = 0 then J0 w0 g s neg r a w else if l = 1 then J1 w0 g s neg r a w else if l = 2 then J2 w0 g s neg r a w else if l = 3 then J3 w0 g s neg r a w else if l = 4 then J4 w0 g s neg r a w else False
def kOf (w : World) : Nat := match w.cell? ⟨g, 1, none⟩ with | some (.int _ i) => i.toNat | _ => 0
def rankL (l : Nat) : Nat := if l = 0 then 4 else if l = 1 then 5 else if l = 2 then 2 else if l = 3 then 3 else 1
def muL (l : Nat) (w : World) : Nat := 8 * (s.size + 1 - kOf g w) + rankL l
def JM (M : Nat) (l : Nat) (a : Act) (w : World) : Prop := JL w0 g s neg r l a w ∧ muL g s l w < M
end
theorem kOf_of {w : World} {g : Nat} {s : ByteArray} {k : Nat} {neg : Bool} {all : Value} {dn ex : Int} (h : Blk w g 85 (rdr s k neg all dn ex)) : kOf g w = k := by
  unfold kOf
  rw [(rdr_cells h).2.1]
  simp
/-- At the exponent. -/
theorem exp_lab (w0 : World) (g : Nat) (s : ByteArray) (neg : Bool) (r : Rd) (M k : Nat) (u : Nat → Value) (x : Int) (b : Bool) (w : World) (v : Value) (ds : List UInt8) (dn : Nat) (Q : Exit → Act → World → Prop) (hsm : s.size < 140737488355328)
    (h : AtLab w0 g s neg w k v ds dn) (hr : r = expR s.data.toList ds dn k) (hQ : Fin Q w0 g s neg r) (hM : 8 * (s.size + 1 - k) + 2 ≤ M) :
    Code.wp Tryz.prog (tailL 2) (jumps (JM w0 g s neg r M) Q) (frA g u x b false) w := by
  have hrow : ∀ w', Only g w w' → DRow w' w0.heap.size v ds := fun w' ho => own_only h.row ho h.low
  refine exp_pass w g s neg v (dn : Nat) k u x b w _ Q hsm (Only.refl _ _) h.blk h.size ?_ ?_ ?_
  · intro he a' w' h1 h2 h3 ⟨k', h4⟩
    refine hQ.1 (by rw [hr]; unfold expR; rw [he]) a' w' h1 h2 (h.only.trans h3) ⟨k', v, _, h4⟩
  · intro en xs j he a' w' h1 h2 h3 h4
    exact hQ.2 ds dn en xs j (by rw [hr]; unfold expR; rw [he]) a' w' h1 h2 (h.only.trans h3) ⟨v, h4, hrow w' h3⟩
  · intro en xs j he c k' e a' w' h1 h2 h3
    refine ⟨?_, ?_⟩
    · show J4 w0 g s neg r a' w'
      exact ⟨w, v, dn, _, j, c, k', e, en, ds, xs, h.only, h.row, h.low, h1, h2, by rw [hr]; unfold expR; rw [he], rfl⟩
    · unfold muL
      rw [kOf_of h2.blk]
      show 8 * (s.size + 1 - k') + 1 < M
      have := h2.size
      omega
theorem exp_at (w0 : World) (g : Nat) (s : ByteArray) (neg : Bool) (r : Rd) (M k : Nat) {A : Array Value} (x : Int) (b : Bool) (w : World) (v : Value) (ds : List UInt8) (dn : Nat) (Q : Exit → Act → World → Prop) (hA : (⟨A, []⟩ : Act) = frA g (fun i => A.getD i undef) x b false) (hsm : s.size < 140737488355328)
    (h : AtLab w0 g s neg w k v ds dn) (hr : r = expR s.data.toList ds dn k) (hQ : Fin Q w0 g s neg r) (hM : 8 * (s.size + 1 - k) + 2 ≤ M) :
    Code.wp Tryz.prog (tailL 2) (jumps (JM w0 g s neg r M) Q) ⟨A, []⟩ w := by
  rw [hA]
  exact exp_lab w0 g s neg r M k _ x b w v ds dn Q hsm h hr hQ hM
/-- A pass of the exponent's digits. -/
theorem tens_lab (w0 : World) (g : Nat) (s : ByteArray) (neg : Bool) (r : Rd) (M : Nat) (a : Act) (w : World) (Q : Exit → Act → World → Prop) (hsm : s.size < 140737488355328)
    (h : J4 w0 g s neg r a w) (hQ : Fin Q w0 g s neg r) (hM : muL g s 4 w ≤ M) :
    Code.wp Tryz.prog (tailL 4) (jumps (JM w0 g s neg r M) Q) a w := by
  obtain ⟨w1, all, dn, V, j, c, k, e, en, ds, x, ho, hrow, hlow, ⟨u, b, rfl⟩, ht, hr, hx⟩ := h
  have hkw := kOf_of ht.blk
  refine wp_mono (tens_pass w1 g s neg all (dn : Nat) V j u c b en w k e Q hsm ht ?_) ?_
  · intro a' w' h1 h2 h3 h4
    refine hQ.2 ds dn en x j hr a' w' h1 h2 (ho.trans h3) ⟨all, ?_, own_only hrow h3 hlow⟩
    rw [hx]; exact h4
  · intro ex a' w' hh
    cases ex with
    | goto l =>
      obtain ⟨rfl, c', k', e', h1, h2, h3⟩ := hh
      refine ⟨?_, ?_⟩
      · show J4 w0 g s neg r a' w'
        exact ⟨w1, all, dn, V, j, c', k', e', en, ds, x, ho, hrow, hlow, h1, h2, hr, hx⟩
      · unfold muL at hM ⊢
        rw [kOf_of h2.blk]
        rw [hkw] at hM
        have := h2.size
        omega
    | _ => exact hh
end Go.Proofs.YtabmalnandbocaaGreatDoor.Rdr
namespace Go.Proofs.YtabmalnandbocaaGreatDoor.Rdr
set_option exponentiation.threshold 3000
set_option linter.unusedVariables false
set_option linter.unusedSimpArgs false
open Go.RowKit Go.Proofs.YtabmalnandbocaaGreatDoor.Lbl Go.Proofs.YtabmalnandbocaaGreatDoor.Mem Go.Proofs.YtabmalnandbocaaGreatDoor.Own Go.Proofs.YtabmalnandbocaaGreatDoor.Num
theorem J3_of {w0 : World} {g : Nat} {s : ByteArray} {neg : Bool} {r : Rd} {A : Array Value} {c : UInt8} {b : Bool} {w : World} {k : Nat} {v : Value} {ds : List UInt8} {dn : Nat} (hA : (⟨A, []⟩ : Act) = frA g (fun i => A.getD i undef) (c.toNat : Nat) b false) (h : AtLab w0 g s neg w k v ds dn) (h1 : ds.length < k) (h2 : dn < k)
    (hr : r = expR s.data.toList (ds ++ c :: (s.data.toList.drop k).takeWhile isD) (dn + 1 + ((s.data.toList.drop k).takeWhile isD).length) (dEnd s.data.toList k)) : J3 w0 g s neg r ⟨A, []⟩ w := ⟨_, _, _, _, _, _, _, hA, h, h1, h2, hr⟩
set_option maxHeartbeats 8000000 in
set_option maxRecDepth 1000000 in
theorem below_lab (w0 : World) (g : Nat) (s : ByteArray) (neg : Bool) (r : Rd) (M k : Nat) (u : Nat → Value) (c : UInt8) (b : Bool) (w : World) (v : Value) (ds : List UInt8) (dn : Nat) (Q : Exit → Act → World → Prop) (hsm : s.size < 140737488355328)
    (h : AtLab w0 g s neg w k v ds dn) (hlen : ds.length < k) (hdn : dn < k) (hr : r = expR s.data.toList (ds ++ c :: (s.data.toList.drop k).takeWhile isD) (dn + 1 + ((s.data.toList.drop k).takeWhile isD).length) (dEnd s.data.toList k)) (hQ : Fin Q w0 g s neg r) (hM : 8 * (s.size + 1 - k) + 3 ≤ M) :
    Code.wp Tryz.prog (tailL 3) (jumps (JM w0 g s neg r M) Q) (frA g u (c.toNat : Nat) b false) w := by
  conv => arg 2; whnf
  unfold frA
  obtain ⟨c0, c1, c2, c3, c4, c5⟩ := rdr_cells h.blk
  have f3 := h.blk.frozen 3
  have f4 := h.blk.frozen 4
  have HH := Lib.hid h
  have HQ := Lib.hid hQ
  have HR := Lib.hid hr
  have HM := Lib.hid hM
  have hks := h.size
  have HKS := Lib.hid hks
  have hbase := h.only.size
  obtain ⟨v', w1, happ, hr1, hgr⟩ := app_dig w w0.heap.size v ds c h.row hbase (by omega)
  obtain ⟨g', cap', hv', hgb, hgl⟩ := hr1.slice (by simp)
  generalize hn : (List.map UInt8.toNat (ds ++ [c])).length = n at hv'
  clear hn
  subst hv'
  have hlow := h.row.low
  have hgl0 := h.low
  have hgne : some g ≠ v.ownBlock := fun e => by have := hlow g e.symm; omega
  have HB1 := Lib.hid ((h.blk.alloc (.cells #[.int .u8 (c.toNat : Int)] 5)).grown hgr hgne)
  have HO1 := Lib.hid (only_grown (h.only.alloc (.cells #[.int .u8 (c.toNat : Int)] 5)) hgr (fun b e => (hlow b e).1))
  have HR1 := Lib.hid hr1
  have d3 := (rdr_cells HB1.out).2.2.2.1
  have d4 := (rdr_cells HB1.out).2.2.2.2.1
  have g3 := HB1.out.frozen 3
  have g4 := HB1.out.frozen 4
  have hglt := HB1.out.lt
  have HL := Lib.hid (And.intro hlen hdn)
  clear h hr1 hgr hlow hgb hgl hgne hQ hr hM hbase hgl0
  go_wp2_with (at_builtin; refine wpList_append_run rfl _ _ 60 rfl _ _ rfl rfl _ _ happ ?_)
  have HS := Lib.hid ((HB1.out.set_ 3 (.slice (some ⟨g', 0, none⟩) n cap')).set_ 4 (.int .i64 ((dn : Int) + 1)))
  have HOS := Lib.hid ((HO1.out.setCell 3 (.slice (some ⟨g', 0, none⟩) n cap')).setCell 4 (.int .i64 ((dn : Int) + 1)))
  have HRS := Lib.hid (own_only (own_only HR1.out ((Only.refl g w1).setCell 3 (.slice (some ⟨g', 0, none⟩) n cap')) HH.out.low) ((Only.refl g _).setCell 4 (.int .i64 ((dn : Int) + 1))) HH.out.low)
  have HD := Lib.hid (dig_any g s k neg (.slice (some ⟨g', 0, none⟩) n cap') ((dn : Int) + 1) 0 _ HS.out HKS.out hsm)
  refine HD.out.mono ?_
  rintro en w3 ⟨x3, rfl, o3, b3, hx3⟩
  have HO3 := Lib.hid (HOS.out.trans o3)
  have HROW3 := Lib.hid (own_only HRS.out o3 HH.out.low)
  clear HS HOS HRS HD c0 c1 c2 c3 c4 c5 d3 d4 f3 f4 g3 g4 happ
  cases hd3 : dAt s.data.toList k
  · rw [hd3, if_neg (by decide)] at b3
    obtain ⟨e1, e2⟩ := tw_no hd3
    have HB3 := Lib.hid (show Blk w3 g 85 (rdr s k neg (.slice (some ⟨g', 0, none⟩) n cap') ((dn + 1 : Nat) : Int) 0) from b3)
    have HR3 := Lib.hid (show r = expR s.data.toList (ds ++ [c]) (dn + 1) k by rw [HR.out, e1, e2]; rfl)
    clear hx3 o3 b3 hd3 e1 e2
    go_wp2_with fail
    go_step3
    first | go_values | go_skip | go_guarded | go_step | go_upon | go_back
    first | go_values | go_skip | go_guarded | go_step | go_upon | go_back
    exact exp_at w0 g s neg r M k (x3.toNat : Nat) false w3 _ (ds ++ [c]) (dn + 1) Q (by rfl) hsm ⟨HO3.out, HB3.out, HROW3.out, HKS.out, by rw [List.length_append]; exact HL.out.1, HL.out.2, HH.out.low⟩ HR3.out HQ.out (by have := HM.out; omega)
  · rw [hd3, if_pos rfl] at b3
    obtain ⟨hc4, hc5⟩ := hx3 hd3
    obtain ⟨e1, e2, e3⟩ := tw_yes hd3 hc4
    have HB3 := Lib.hid (show Blk w3 g 85 (rdr s (k + 1) neg (.slice (some ⟨g', 0, none⟩) n cap') ((dn + 1 : Nat) : Int) 0) from b3)
    have HR3 := Lib.hid (show r = expR s.data.toList ((ds ++ [c]) ++ x3 :: (s.data.toList.drop (k + 1)).takeWhile isD) (dn + 1 + 1 + ((s.data.toList.drop (k + 1)).takeWhile isD).length) (dEnd s.data.toList (k + 1)) by
      rw [HR.out, e1, e2, List.length_cons, List.append_assoc, show dn + 1 + (((s.data.toList.drop (k + 1)).takeWhile isD).length + 1) = dn + 1 + 1 + ((s.data.toList.drop (k + 1)).takeWhile isD).length by omega]
      rfl)
    have HSZ := Lib.hid (show k + 1 ≤ s.size by have : s.data.toList.length = s.size := by simp
                                                omega)
    clear hx3 o3 b3 hd3 hc4 hc5 e1 e2 e3
    go_wp2_with fail
    go_step3
    refine ⟨?_, ?_⟩
    · show J3 w0 g s neg r _ _
      exact J3_of (c := x3) (b := true) (by rfl) ⟨HO3.out, HB3.out, HROW3.out, HSZ.out, by rw [List.length_append]; have := HL.out.1; simp; omega, by have := HL.out.2; omega, HH.out.low⟩ (by rw [List.length_append]; have := HL.out.1; simp; omega) (by have := HL.out.2; omega) HR3.out
    · show 8 * (s.size + 1 - kOf g w3) + 3 < M
      have e := kOf_of HB3.out
      have := HM.out
      have := HSZ.out
      omega
end Go.Proofs.YtabmalnandbocaaGreatDoor.Rdr
namespace Go.Proofs.YtabmalnandbocaaGreatDoor.Rdr
set_option exponentiation.threshold 3000
set_option linter.unusedVariables false
set_option linter.unusedSimpArgs false
open Go.RowKit Go.Proofs.YtabmalnandbocaaGreatDoor.Lbl Go.Proofs.YtabmalnandbocaaGreatDoor.Mem Go.Proofs.YtabmalnandbocaaGreatDoor.Own Go.Proofs.YtabmalnandbocaaGreatDoor.Num
theorem take_one (g : Nat) (s : ByteArray) (i : Nat) (neg : Bool) (all : Value) (dn ex : Int) (x : UInt8) (w : World) (h : Blk w g 85 (rdr s i neg all dn ex)) (hi : i ≤ s.size) (hsm : s.size < 140737488355328) :
    Calls Tryz.prog 86 #[.pointer (some ⟨g, 0, none⟩), .string ⟨#[x]⟩] w (tkPost w g s i neg all dn ex x x) := by
  have hl : s.data.toList.length = s.size := by simp
  by_cases hk : i < s.size
  · have hb := bAt_in (l := s.data.toList) (i := i) (by omega) x x
    have ho := oneOf_one x s[i]
    rw [show s.data.toList[i]'(by omega) = s[i] from rfl, Bool.or_self, ← ho] at hb
    cases hc : oneOf ⟨#[x]⟩ s[i]
    · refine (take_no g s ⟨#[x]⟩ i neg all dn ex w h hk hc hsm).mono fun en w' hh => ?_
      obtain ⟨rfl, h1, h2⟩ := hh
      exact ⟨0, by rw [hb, hc]; rfl, h1, by rw [hb, hc]; exact h2, (fun e => by rw [hb, hc] at e; cases e), fun _ => rfl⟩
    · refine (take_yes g s ⟨#[x]⟩ i neg all dn ex w h hk hc hsm).mono fun en w' hh => ?_
      obtain ⟨rfl, h1, h2⟩ := hh
      exact ⟨s[i], by rw [hb, hc], h1, by rw [hb, hc]; exact h2, fun _ => List.getElem?_eq_getElem (by omega), fun e => by rw [hb, hc] at e; cases e⟩
  · have hb := bAt_out (l := s.data.toList) (i := i) (by omega) x x
    refine (take_out g s ⟨#[x]⟩ i neg all dn ex w h hk (by omega) hsm).mono fun en w' hh => ?_
    obtain ⟨rfl, h1, h2⟩ := hh
    exact ⟨0, by rw [hb]; rfl, h1, by rw [hb]; exact h2, (fun e => by rw [hb] at e; cases e), fun _ => rfl⟩
theorem below_at (w0 : World) (g : Nat) (s : ByteArray) (neg : Bool) (r : Rd) (M k : Nat) {A : Array Value} (c : UInt8) (b : Bool) (w : World) (v : Value) (ds : List UInt8) (dn : Nat) (Q : Exit → Act → World → Prop) (hA : (⟨A, []⟩ : Act) = frA g (fun i => A.getD i undef) (c.toNat : Nat) b false) (hsm : s.size < 140737488355328)
    (h : AtLab w0 g s neg w k v ds dn) (hlen : ds.length < k) (hdn : dn < k) (hr : r = expR s.data.toList (ds ++ c :: (s.data.toList.drop k).takeWhile isD) (dn + 1 + ((s.data.toList.drop k).takeWhile isD).length) (dEnd s.data.toList k)) (hQ : Fin Q w0 g s neg r) (hM : 8 * (s.size + 1 - k) + 3 ≤ M) :
    Code.wp Tryz.prog (tailL 3) (jumps (JM w0 g s neg r M) Q) ⟨A, []⟩ w := by
  rw [hA]
  exact below_lab w0 g s neg r M k _ c b w v ds dn Q hsm h hlen hdn hr hQ hM
theorem J2_of {w0 : World} {g : Nat} {s : ByteArray} {neg : Bool} {r : Rd} {A : Array Value} {x : Int} {b : Bool} {w : World} {k : Nat} {v : Value} {ds : List UInt8} {dn : Nat} (hA : (⟨A, []⟩ : Act) = frA g (fun i => A.getD i undef) x b false) (h : AtLab w0 g s neg w k v ds dn) (hr : r = expR s.data.toList ds dn k) : J2 w0 g s neg r ⟨A, []⟩ w := ⟨_, _, _, _, _, _, _, hA, h, hr⟩
set_option maxHeartbeats 8000000 in
set_option maxRecDepth 1000000 in
theorem point_lab (w0 : World) (g : Nat) (s : ByteArray) (neg : Bool) (r : Rd) (M k : Nat) (u : Nat → Value) (x : Int) (b : Bool) (w : World) (v : Value) (ds : List UInt8) (Q : Exit → Act → World → Prop) (hsm : s.size < 140737488355328)
    (h : AtLab w0 g s neg w k v ds 0) (hr : r = pointR s.data.toList ds k) (hQ : Fin Q w0 g s neg r) (hM : 8 * (s.size + 1 - k) + 4 ≤ M) :
    Code.wp Tryz.prog (tailL 0) (jumps (JM w0 g s neg r M) Q) (frA g u x b false) w := by
  conv => arg 2; whnf
  unfold frA
  have HH := Lib.hid h
  have HQ := Lib.hid hQ
  have HR := Lib.hid hr
  have HM := Lib.hid hM
  have HT := Lib.hid (take_one g s k neg v 0 0 46 w h.blk h.size hsm)
  clear h hr hQ hM
  go_wp2_with fail
  refine HT.out.mono ?_
  rintro en w1 ⟨c, rfl, o1, b1, hc1, hc0⟩
  have HO1 := Lib.hid (HH.out.only.trans o1)
  have HROW := Lib.hid (own_only HH.out.row o1 HH.out.low)
  cases hat : bAt s.data.toList k 46 46
  · rw [hat, if_neg (by decide)] at b1
    have HB2 := Lib.hid b1
    have HR2 := Lib.hid (show r = expR s.data.toList ds 0 k by rw [HR.out]; unfold pointR; rw [hat, if_neg (by decide)])
    clear hc1 hc0 o1 b1 hat
    go_wp2_with fail
    go_step3
    refine ⟨?_, ?_⟩
    · show J2 w0 g s neg r _ _
      exact J2_of (x := x) (b := false) (by rfl) ⟨HO1.out, HB2.out, HROW.out, HH.out.size, HH.out.len, Nat.zero_le _, HH.out.low⟩ HR2.out
    · show 8 * (s.size + 1 - kOf g w1) + 2 < M
      have e := kOf_of HB2.out
      have := HM.out
      omega
  · rw [hat, if_pos rfl] at b1
    have hil : k < s.data.toList.length := by
      apply Classical.byContradiction
      intro hn
      rw [bAt_out hn] at hat
      cases hat
    have hl : s.data.toList.length = s.size := by simp
    have HT2 := Lib.hid (dig_any g s (k + 1) neg v 0 0 w1 b1 (by omega) hsm)
    have HIL := Lib.hid (show k + 1 ≤ s.size by omega)
    have HR2 := Lib.hid (show r = if dAt s.data.toList (k + 1) = false then none else expR s.data.toList (ds ++ (s.data.toList.drop (k + 1)).takeWhile isD) ((s.data.toList.drop (k + 1)).takeWhile isD).length (dEnd s.data.toList (k + 1)) by rw [HR.out]; unfold pointR; rw [hat, if_pos rfl])
    clear hc1 hc0 o1 b1 hil hl hat
    go_wp2_with fail
    refine HT2.out.mono ?_
    rintro en3 w3 ⟨c3, rfl, o3, b3, hc3⟩
    have HO3 := Lib.hid (HO1.out.trans o3)
    cases hd3 : dAt s.data.toList (k + 1)
    · rw [hd3, if_neg (by decide)] at b3
      have HB3 := Lib.hid b3
      have HN := Lib.hid (show r = none by rw [HR2.out, hd3, if_pos rfl])
      clear hc3 o3 b3 hd3
      go_wp2_with fail
      show Q Exit.ret _ _
      exact HQ.out.1 HN.out _ _ rfl rfl HO3.out ⟨_, _, _, HB3.out⟩
    · rw [hd3, if_pos rfl] at b3
      obtain ⟨hc4, hc5⟩ := hc3 hd3
      obtain ⟨e1, e2, e3⟩ := tw_yes hd3 hc4
      have HB3 := Lib.hid b3
      have HR3 := Lib.hid (show r = expR s.data.toList (ds ++ c3 :: (s.data.toList.drop (k + 2)).takeWhile isD) (0 + 1 + ((s.data.toList.drop (k + 2)).takeWhile isD).length) (dEnd s.data.toList (k + 2)) by
        rw [HR2.out, hd3, if_neg (by decide), e1, e2, List.length_cons, Nat.zero_add, Nat.add_comm 1])
      have HSZ := Lib.hid (show k + 2 ≤ s.size by have : s.data.toList.length = s.size := by simp
                                                  omega)
      have HROW3 := Lib.hid (own_only HROW.out o3 HH.out.low)
      have HC5 := Lib.hid hc5
      clear hc3 o3 b3 hd3 hc4 hc5 e1 e2 e3
      go_wp2_with fail
      go_step3
      first | go_values | go_skip | go_guarded | go_step | go_upon | go_back
      first | go_values | go_skip | go_guarded | go_step | go_upon | go_back
      exact below_at w0 g s neg r M (k + 2) c3 true w3 v ds 0 Q (by rfl) hsm ⟨HO3.out, HB3.out, HROW3.out, HSZ.out, by have := HH.out.len; omega, Nat.zero_le _, HH.out.low⟩ (by have := HH.out.len; omega) (by omega) HR3.out HQ.out (by have := HM.out; have := HSZ.out; omega)
end Go.Proofs.YtabmalnandbocaaGreatDoor.Rdr
namespace Go.Proofs.YtabmalnandbocaaGreatDoor.Rdr
set_option exponentiation.threshold 3000
set_option linter.unusedVariables false
set_option linter.unusedSimpArgs false
open Go.RowKit Go.Proofs.YtabmalnandbocaaGreatDoor.Lbl Go.Proofs.YtabmalnandbocaaGreatDoor.Mem Go.Proofs.YtabmalnandbocaaGreatDoor.Own Go.Proofs.YtabmalnandbocaaGreatDoor.Num
theorem point_at (w0 : World) (g : Nat) (s : ByteArray) (neg : Bool) (r : Rd) (M k : Nat) {A : Array Value} (x : Int) (b : Bool) (w : World) (v : Value) (ds : List UInt8) (Q : Exit → Act → World → Prop) (hA : (⟨A, []⟩ : Act) = frA g (fun i => A.getD i undef) x b false) (hsm : s.size < 140737488355328)
    (h : AtLab w0 g s neg w k v ds 0) (hr : r = pointR s.data.toList ds k) (hQ : Fin Q w0 g s neg r) (hM : 8 * (s.size + 1 - k) + 4 ≤ M) :
    Code.wp Tryz.prog (tailL 0) (jumps (JM w0 g s neg r M) Q) ⟨A, []⟩ w := by
  rw [hA]
  exact point_lab w0 g s neg r M k _ x b w v ds Q hsm h hr hQ hM
theorem J1_of {w0 : World} {g : Nat} {s : ByteArray} {neg : Bool} {r : Rd} {A : Array Value} {x : Int} {b : Bool} {w : World} {k : Nat} {v : Value} {ds : List UInt8} (hA : (⟨A, []⟩ : Act) = frA g (fun i => A.getD i undef) x b false) (h : AtLab w0 g s neg w k v ds 0) (hr : r = wholeR s.data.toList ds k) : J1 w0 g s neg r ⟨A, []⟩ w := ⟨_, _, _, _, _, _, hA, h, hr⟩
set_option maxHeartbeats 8000000 in
set_option maxRecDepth 1000000 in
theorem whole_lab (w0 : World) (g : Nat) (s : ByteArray) (neg : Bool) (r : Rd) (M k : Nat) (u : Nat → Value) (x : Int) (b : Bool) (w : World) (v : Value) (ds : List UInt8) (Q : Exit → Act → World → Prop) (hsm : s.size < 140737488355328)
    (h : AtLab w0 g s neg w k v ds 0) (hr : r = wholeR s.data.toList ds k) (hQ : Fin Q w0 g s neg r) (hM : 8 * (s.size + 1 - k) + 5 ≤ M) :
    Code.wp Tryz.prog (tailL 1) (jumps (JM w0 g s neg r M) Q) (frA g u x b false) w := by
  conv => arg 2; whnf
  unfold frA
  have HH := Lib.hid h
  have HQ := Lib.hid hQ
  have HR := Lib.hid hr
  have HM := Lib.hid hM
  have HT := Lib.hid (dig_any g s k neg v 0 0 w h.blk h.size hsm)
  clear h hr hQ hM
  go_wp2_with fail
  refine HT.out.mono ?_
  rintro en w1 ⟨c, rfl, o1, b1, hc1⟩
  have HO1 := Lib.hid (HH.out.only.trans o1)
  have HROW := Lib.hid (own_only HH.out.row o1 HH.out.low)
  cases hat : dAt s.data.toList k
  · rw [hat, if_neg (by decide)] at b1
    have HB2 := Lib.hid b1
    obtain ⟨e1, e2⟩ := tw_no hat
    have HR2 := Lib.hid (show r = pointR s.data.toList ds k by rw [HR.out]; unfold wholeR; rw [e1, e2, List.append_nil])
    clear hc1 o1 b1 hat e1 e2
    go_wp2_with fail
    go_step3
    first | go_values | go_skip | go_guarded | go_step | go_upon | go_back
    first | go_values | go_skip | go_guarded | go_step | go_upon | go_back
    exact point_at w0 g s neg r M k (c.toNat : Nat) false w1 v ds Q (by rfl) hsm ⟨HO1.out, HB2.out, HROW.out, HH.out.size, HH.out.len, Nat.zero_le _, HH.out.low⟩ HR2.out HQ.out (by have := HM.out; omega)
  · rw [hat, if_pos rfl] at b1
    obtain ⟨hc4, hc5⟩ := hc1 hat
    obtain ⟨e1, e2, e3⟩ := tw_yes hat hc4
    have hl : s.data.toList.length = s.size := by simp
    have HSZ := Lib.hid (show k + 1 ≤ s.size by omega)
    have HR2 := Lib.hid (show r = wholeR s.data.toList (ds ++ [c]) (k + 1) by rw [HR.out]; unfold wholeR; rw [e1, e2, List.append_assoc]; rfl)
    obtain ⟨d0, d1, d2, d3, d4, d5⟩ := rdr_cells b1
    have f3 := b1.frozen 3
    have hbase := HO1.out.size
    have hlen := HH.out.len
    have hrow := HROW.out
    obtain ⟨v', w2, happ, hr1, hgr⟩ := app_dig w1 w0.heap.size v ds c hrow hbase (by omega)
    obtain ⟨g', cap', hv', hgb, hgl⟩ := hr1.slice (by simp)
    generalize hn : (List.map UInt8.toNat (ds ++ [c])).length = n at hv'
    clear hn
    subst hv'
    have hlow := NRow.low hrow
    have hgl0 := HH.out.low
    have hgne : some g ≠ v.ownBlock := fun e => by have := hlow g e.symm; omega
    have HB2 := Lib.hid ((b1.alloc (.cells #[.int .u8 (c.toNat : Int)] 5)).grown hgr hgne)
    have HO2 := Lib.hid (only_grown (HO1.out.alloc (.cells #[.int .u8 (c.toNat : Int)] 5)) hgr (fun b e => (hlow b e).1))
    have HR1 := Lib.hid hr1
    have g3 := HB2.out.frozen 3
    have d3' := (rdr_cells HB2.out).2.2.2.1
    have hglt := HB2.out.lt
    clear hc1 hc4 hc5 e1 e2 e3 hl o1 b1 hat hbase hlen hrow hr1 hlow hgl0 hgb hgl hgne hgr
    go_wp2_with (at_builtin; refine wpList_append_run rfl _ _ 60 rfl _ _ rfl rfl _ _ happ ?_)
    have HS := Lib.hid (HB2.out.set_ 3 (.slice (some ⟨g', 0, none⟩) n cap'))
    have HOS := Lib.hid (HO2.out.setCell 3 (.slice (some ⟨g', 0, none⟩) n cap'))
    have HRS := Lib.hid (own_only HR1.out ((Only.refl g w2).setCell 3 (.slice (some ⟨g', 0, none⟩) n cap')) HH.out.low)
    go_step3
    refine ⟨?_, ?_⟩
    · show J1 w0 g s neg r _ _
      exact J1_of (x := (c.toNat : Nat)) (b := true) (by rfl) ⟨HOS.out, HS.out, HRS.out, HSZ.out, by rw [List.length_append]; have := HH.out.len; simp; omega, Nat.zero_le _, HH.out.low⟩ HR2.out
    · show 8 * (s.size + 1 - kOf g _) + 5 < M
      have e := kOf_of HS.out
      have := HM.out
      have := HSZ.out
      omega
end Go.Proofs.YtabmalnandbocaaGreatDoor.Rdr
namespace Go.Proofs.YtabmalnandbocaaGreatDoor.Rdr
set_option exponentiation.threshold 3000
set_option linter.unusedVariables false
set_option linter.unusedSimpArgs false
open Go.RowKit Go.Proofs.YtabmalnandbocaaGreatDoor.Lbl Go.Proofs.YtabmalnandbocaaGreatDoor.Mem Go.Proofs.YtabmalnandbocaaGreatDoor.Own Go.Proofs.YtabmalnandbocaaGreatDoor.Num
theorem whole_at (w0 : World) (g : Nat) (s : ByteArray) (neg : Bool) (r : Rd) (M k : Nat) {A : Array Value} (x : Int) (b : Bool) (w : World) (v : Value) (ds : List UInt8) (Q : Exit → Act → World → Prop) (hA : (⟨A, []⟩ : Act) = frA g (fun i => A.getD i undef) x b false) (hsm : s.size < 140737488355328)
    (h : AtLab w0 g s neg w k v ds 0) (hr : r = wholeR s.data.toList ds k) (hQ : Fin Q w0 g s neg r) (hM : 8 * (s.size + 1 - k) + 5 ≤ M) :
    Code.wp Tryz.prog (tailL 1) (jumps (JM w0 g s neg r M) Q) ⟨A, []⟩ w := by
  rw [hA]
  exact whole_lab w0 g s neg r M k _ x b w v ds Q hsm h hr hQ hM
theorem J0_of {w0 : World} {g : Nat} {s : ByteArray} {neg : Bool} {r : Rd} {A : Array Value} {x : Int} {b : Bool} {w : World} {k : Nat} {v : Value} {ds : List UInt8} (hA : (⟨A, []⟩ : Act) = frA g (fun i => A.getD i undef) x b false) (h : AtLab w0 g s neg w k v ds 0) (hr : r = pointR s.data.toList ds k) : J0 w0 g s neg r ⟨A, []⟩ w := ⟨_, _, _, _, _, _, hA, h, hr⟩
/-- Each label's code does what is asked behind it. -/
theorem lab_pass (w0 : World) (g : Nat) (s : ByteArray) (neg : Bool) (r : Rd) (l : Nat) (a : Act) (w : World) (Q : Exit → Act → World → Prop) (hsm : s.size < 140737488355328) (h : JL w0 g s neg r l a w) (hQ : Fin Q w0 g s neg r) :
    Code.wp Tryz.prog (tailL l) (jumps (JM w0 g s neg r (muL g s l w)) Q) a w := by
  unfold JL at h
  by_cases h0 : l = 0
  · subst h0; rw [if_pos rfl] at h
    obtain ⟨u, x, b, k, v, ds, rfl, ha, hr⟩ := h
    exact point_lab w0 g s neg r _ k u x b w v ds Q hsm ha hr hQ (by unfold muL; rw [kOf_of ha.blk]; exact Nat.le_refl _)
  rw [if_neg h0] at h
  by_cases h1 : l = 1
  · subst h1; rw [if_pos rfl] at h
    obtain ⟨u, x, b, k, v, ds, rfl, ha, hr⟩ := h
    exact whole_lab w0 g s neg r _ k u x b w v ds Q hsm ha hr hQ (by unfold muL; rw [kOf_of ha.blk]; exact Nat.le_refl _)
  rw [if_neg h1] at h
  by_cases h2 : l = 2
  · subst h2; rw [if_pos rfl] at h
    obtain ⟨u, x, b, k, v, ds, dn, rfl, ha, hr⟩ := h
    exact exp_lab w0 g s neg r _ k u x b w v ds dn Q hsm ha hr hQ (by unfold muL; rw [kOf_of ha.blk]; exact Nat.le_refl _)
  rw [if_neg h2] at h
  by_cases h3 : l = 3
  · subst h3; rw [if_pos rfl] at h
    obtain ⟨u, c, b, k, v, ds, dn, rfl, ha, h4, h5, hr⟩ := h
    exact below_lab w0 g s neg r _ k u c b w v ds dn Q hsm ha h4 h5 hr hQ (by unfold muL; rw [kOf_of ha.blk]; exact Nat.le_refl _)
  rw [if_neg h3] at h
  by_cases h4 : l = 4
  · subst h4; rw [if_pos rfl] at h
    exact tens_lab w0 g s neg r _ a w Q hsm h hQ (Nat.le_refl _)
  rw [if_neg h4] at h
  exact h.elim
theorem JL_lt {w0 : World} {g : Nat} {s : ByteArray} {neg : Bool} {r : Rd} {l : Nat} {a : Act} {w : World} (h : JL w0 g s neg r l a w) : l < 5 := by
  unfold JL at h
  by_cases h0 : l = 0; omega
  rw [if_neg h0] at h
  by_cases h1 : l = 1; omega
  rw [if_neg h1] at h
  by_cases h2 : l = 2; omega
  rw [if_neg h2] at h
  by_cases h3 : l = 3; omega
  rw [if_neg h3] at h
  by_cases h4 : l = 4; omega
  rw [if_neg h4] at h
  exact h.elim
/-- What read answers, and what it has left in the reader. -/
def RePost (w : World) (g : Nat) (s : ByteArray) (neg : Bool) (r : Rd) (en : Ending) (w' : World) : Prop :=
  en = .returned (.bool r.isSome) ∧ Only g w w' ∧
  (r = none → ∃ k v dn, Blk w' g 85 (rdr s k neg v dn 0)) ∧
  (∀ ds dn en x j, r = some (ds, dn, en, x, j) → ∃ v, Blk w' g 85 (rdr s j neg v (dn : Nat) (sgn en (x.foldl tenP 0))) ∧ DRow w' w.heap.size v ds)
theorem fin_of (w : World) (g : Nat) (s : ByteArray) (neg : Bool) (r : Rd) : Fin (bodyPost Tryz.prog Tryz.f55 (RePost w g s neg r)) w g s neg r := by
  refine ⟨?_, ?_⟩
  · intro hn a' w1 h1 h2 h3 h4
    refine bodyPost_ret (v := .bool false) (by simp [results, Tryz.results55, go_sem]; simpa using h1) h2 ⟨?_, h3, fun _ => h4, fun ds dn en x j e => ?_⟩
    · rw [hn]; rfl
    · rw [hn] at e; cases e
  · intro ds dn en x j hs a' w1 h1 h2 h3 h4
    refine bodyPost_ret (v := .bool true) (by simp [results, Tryz.results55, go_sem]; simpa using h1) h2 ⟨?_, h3, fun e => ?_, fun ds' dn' en' x' j' e => ?_⟩
    · rw [hs]; rfl
    · rw [hs] at e; cases e
    · rw [hs] at e
      injection e with e
      injection e with e1 e
      injection e with e2 e
      injection e with e3 e
      injection e with e4 e5
      subst e1 e2 e3 e4 e5
      exact h4
theorem rest_is : ∀ l, l < 5 → restL l = .seq .skip (tailL l) := by
  intro l hl
  rcases l with _ | _ | _ | _ | _ | l
  · kernel_rfl
  · kernel_rfl
  · kernel_rfl
  · kernel_rfl
  · kernel_rfl
  · omega
set_option maxHeartbeats 8000000 in
set_option maxRecDepth 1000000 in
theorem read_any (g : Nat) (s : ByteArray) (p : Nat) (neg : Bool) (q : Nat) (r : Rd) (w : World) (h : Blk w g 85 (rdr s p false (.slice none 0 0) 0 0)) (hp : p ≤ s.size) (hsm : s.size < 140737488355328)
    (hneg : neg = bAt s.data.toList p 45 45) (hq : q = if neg = true then p + 1 else p) (hr : r = readR s.data.toList q) :
    Calls Tryz.prog 55 #[.pointer (some ⟨g, 0, none⟩)] w (RePost w g s neg r) := by
  have HB := Lib.hid h
  have HN := Lib.hid hneg
  have HQ := Lib.hid hq
  have HR := Lib.hid hr
  have HT := Lib.hid (take_one g s p false (.slice none 0 0) 0 0 45 w h hp hsm)
  clear h hneg hq hr
  go_enter Tryz.func55, Tryz.ntmps55
  go_wp2_with fail
  refine wp_scope_labels (JL w g s neg r) (fun l _ w' => muL g s l w') ?_ ?_
  · go_wp2_with fail
    refine HT.out.mono ?_
    rintro en w1 ⟨c, rfl, o1, b1, hc1, hc0⟩
    have hqs : q ≤ s.size := by
      have h1 := HQ.out
      have h2 := HN.out
      have hl : s.data.toList.length = s.size := by simp
      cases neg
      · rw [if_neg (by decide)] at h1; omega
      · have : p < s.data.toList.length := by
          apply Classical.byContradiction
          intro hn
          rw [bAt_out hn] at h2
          cases h2
        rw [if_pos rfl] at h1
        omega
    rw [← HN.out, ← HQ.out] at b1
    rw [← HN.out]
    have f2 := b1.frozen 2
    have HS := Lib.hid (b1.set_ 2 (.bool neg))
    have HO := Lib.hid (o1.setCell 2 (.bool neg))
    have HD := Lib.hid (dig_any g s q neg (.slice none 0 0) 0 0 _ HS.out hqs hsm)
    obtain ⟨d0, d1, d2, d3, d4, d5⟩ := rdr_cells b1
    have HQS := Lib.hid hqs
    have HLT := Lib.hid HB.out.lt
    clear hc1 hc0 o1 b1 HT HB hqs
    go_wp2_with fail
    refine HD.out.mono ?_
    rintro en w2 ⟨x, rfl, o2, b2, hx⟩
    have HO2 := Lib.hid (HO.out.trans o2)
    clear HD HS HO d0 d1 d2 d3 d4 d5 f2
    cases hd : dAt s.data.toList q
    · rw [hd, if_neg (by decide)] at b2
      have HRN := Lib.hid (show r = none by rw [HR.out]; unfold readR; rw [if_pos hd])
      have HB2 := Lib.hid b2
      clear hx o2 b2 hd
      go_wp2_with fail
      show bodyPost Tryz.prog Tryz.f55 (RePost w g s neg r) Exit.ret _ _
      refine bodyPost_ret (v := .bool false) (by simp [results, Tryz.results55, go_sem]) rfl ⟨?_, HO2.out, fun _ => ⟨_, _, _, HB2.out⟩, fun ds dn en x j e => ?_⟩
      · rw [HRN.out]; rfl
      · rw [HRN.out] at e; cases e
    · rw [hd, if_pos rfl] at b2
      obtain ⟨hc4, hc5⟩ := hx hd
      obtain ⟨e1, e2, e3⟩ := tw_yes hd hc4
      have hl : s.data.toList.length = s.size := by simp
      have HSZ := Lib.hid (show q + 1 ≤ s.size by omega)
      obtain ⟨d0, d1, d2, d3, d4, d5⟩ := rdr_cells b2
      have f3 := b2.frozen 3
      have hbase := HO2.out.size
      have hglt2 := b2.lt
      have hb48 : bAt s.data.toList q 48 48 = (x == 48) := by unfold bAt; rw [hc4]; show (x == 48 || x == 48) = _; rw [Bool.or_self]
      obtain ⟨v', w3, happ, hr1, hgr⟩ := app_dig w2 w.heap.size (.slice none 0 0) [] x (NRow.nil _ _ _ _) hbase (by simp)
      obtain ⟨g', cap', hv', hgb, hgl⟩ := hr1.slice (by simp)
      generalize hn : (List.map UInt8.toNat ([] ++ [x])).length = n at hv'
      clear hn
      subst hv'
      have hgne : some g ≠ (Value.slice none 0 0).ownBlock := fun e => by cases e
      have HB3 := Lib.hid ((b2.alloc (.cells #[.int .u8 (x.toNat : Int)] 5)).grown hgr hgne)
      have HO3 := Lib.hid (only_grown (HO2.out.alloc (.cells #[.int .u8 (x.toNat : Int)] 5)) hgr (fun b e => by cases e))
      have HR1 := Lib.hid hr1
      have g3 := HB3.out.frozen 3
      have d3' := (rdr_cells HB3.out).2.2.2.1
      have hglt := HB3.out.lt
      have HS := Lib.hid (HB3.out.set_ 3 (.slice (some ⟨g', 0, none⟩) n cap'))
      have HOS := Lib.hid (HO3.out.setCell 3 (.slice (some ⟨g', 0, none⟩) n cap'))
      have HRS := Lib.hid (own_only HR1.out ((Only.refl g w3).setCell 3 (.slice (some ⟨g', 0, none⟩) n cap')) HLT.out)
      have HRR := Lib.hid (show r = if bAt s.data.toList q 48 48 = true then pointR s.data.toList [x] (q + 1) else wholeR s.data.toList [x] (q + 1) by
        rw [HR.out]
        unfold readR
        rw [if_neg (by rw [hd]; decide)]
        have : (s.data.toList.drop q).take 1 = [x] := by
          rw [List.drop_eq_getElem_cons e3, List.take_succ_cons, List.take_zero]
          rw [List.getElem?_eq_getElem e3] at hc4
          rw [Option.some.inj hc4]
        rw [this]
        unfold wholeR
        rw [e1, e2]
        rfl)
      rw [hb48] at HRR
      clear hx hc4 hc5 e1 e2 e3 hl o2 b2 hd hbase hr1 hgb hgl hgne hgr hb48
      by_cases h48 : x = 48
      · have t1 : ((x.toNat : Int) == 48) = true := by rw [h48]; rfl
        have HR0 := Lib.hid (show r = pointR s.data.toList [x] (q + 1) by rw [HRR.out, if_pos (by rw [h48]; rfl)])
        clear h48
        go_wp2_with (at_builtin; refine wpList_append_run rfl _ _ 60 rfl _ _ rfl rfl _ _ happ ?_)
        go_step3
        show J0 w g s neg r _ _
        exact J0_of (x := (x.toNat : Nat)) (b := true) (by rfl) ⟨HOS.out, HS.out, HRS.out, HSZ.out, by simp, Nat.zero_le _, HLT.out⟩ HR0.out
      · have t1 : ((x.toNat : Int) == 48) = false := by
          rw [beq_eq_false_iff_ne]
          intro h8
          exact h48 (UInt8.toNat_inj.1 (by show x.toNat = 48; omega))
        have HR0 := Lib.hid (show r = wholeR s.data.toList [x] (q + 1) by rw [HRR.out, if_neg (by simpa using h48)])
        clear h48
        go_wp2_with (at_builtin; refine wpList_append_run rfl _ _ 60 rfl _ _ rfl rfl _ _ happ ?_)
        go_step3
        first | go_values | go_skip | go_guarded | go_step | go_upon | go_back
        first | go_values | go_skip | go_guarded | go_step | go_upon | go_back
        refine wp_mono (whole_at w g s neg r (8 * (s.size + 1) + 5) (q + 1) (x.toNat : Nat) true _ _ [x] (bodyPost Tryz.prog Tryz.f55 (RePost w g s neg r)) (by rfl) hsm ⟨HOS.out, HS.out, HRS.out, HSZ.out, by simp, Nat.zero_le _, HLT.out⟩ HR0.out (fin_of w g s neg r) (by omega)) ?_
        intro ex a' w' hh
        cases ex with
        | goto l => exact hh.1
        | _ => exact hh
  · intro l a w' hJ
    have hl := JL_lt hJ
    refine ⟨restL l, ?_, ?_⟩
    · rcases l with _ | _ | _ | _ | _ | l
      · kernel_rfl
      · kernel_rfl
      · kernel_rfl
      · kernel_rfl
      · kernel_rfl
      · omega
    · rw [rest_is l hl]
      refine wp_seq (wp_skip ?_)
      exact lab_pass w g s neg r l a w' _ hsm hJ (fin_of w g s neg r)
theorem read_w (g : Nat) (s : ByteArray) (p : Nat) (w : World) (h : Blk w g 85 (rdr s p false (.slice none 0 0) 0 0)) (hp : p ≤ s.size) (hsm : s.size < 140737488355328) :
    Calls Tryz.prog 55 #[.pointer (some ⟨g, 0, none⟩)] w (RePost w g s (bAt s.data.toList p 45 45) (readR s.data.toList (if bAt s.data.toList p 45 45 = true then p + 1 else p))) :=
  read_any g s p _ _ _ w h hp hsm rfl rfl rfl
end Go.Proofs.YtabmalnandbocaaGreatDoor.Rdr
namespace Go.Proofs.YtabmalnandbocaaGreatDoor.Rdr
set_option exponentiation.threshold 3000
set_option linter.unusedVariables false
set_option linter.unusedSimpArgs false
open Go.RowKit Go.Proofs.YtabmalnandbocaaGreatDoor.Lbl Go.Proofs.YtabmalnandbocaaGreatDoor.Mem Go.Proofs.YtabmalnandbocaaGreatDoor.Own Go.Proofs.YtabmalnandbocaaGreatDoor.Num Go.Proofs.YtabmalnandbocaaGreatDoor.Str Go.Proofs.YtabmalnandbocaaGreatDoor.Big
/-- Digits without the noughts ahead. -/
theorem lead_cut (l : List UInt8) : ∃ z, l = List.replicate z 48 ++ Lib.trimLeftB l 48 ∧ ∀ c, (Lib.trimLeftB l 48).head? = some c → c.toNat ≠ 48 := by
  induction l with
  | nil => exact ⟨0, rfl, fun c hc => by simp [Lib.trimLeftB] at hc⟩
  | cons a l ih =>
    by_cases h : a = 48
    · subst h
      obtain ⟨z, h1, h2⟩ := ih
      have e : Lib.trimLeftB (48 :: l) 48 = Lib.trimLeftB l 48 := by unfold Lib.trimLeftB; rw [List.dropWhile_cons_of_pos (by decide)]
      rw [e]
      exact ⟨z + 1, by rw [List.replicate_succ, List.cons_append, ← h1], h2⟩
    · have e : Lib.trimLeftB (a :: l) 48 = a :: l := by unfold Lib.trimLeftB; rw [List.dropWhile_cons_of_neg (by simpa using h)]
      rw [e]
      exact ⟨0, rfl, fun c hc => by simp at hc; subst hc; intro h3; exact h (UInt8.toNat_inj.1 (by rw [h3]; rfl))⟩
theorem lead_val {l : List UInt8} (hd : isDigs l) : isDigs (Lib.trimLeftB l 48) ∧ dval (Lib.trimLeftB l 48) = dval l ∧ (Lib.trimLeftB l 48).length ≤ l.length ∧ ∀ c, (Lib.trimLeftB l 48).head? = some c → c.toNat ≠ 48 := by
  obtain ⟨z, h1, h2⟩ := lead_cut l
  refine ⟨fun c hc => hd c (by rw [h1]; exact List.mem_append_right _ hc), ?_, ?_, h2⟩
  · conv => rhs; rw [h1]
    exact (dval_lead z _).symm
  · have := congrArg List.length h1
    rw [List.length_append] at this
    omega
theorem trim_none {l : List UInt8} (hd : isDigs l) (h0 : dval l = 0) : Lib.trimLeftB l 48 = [] := by
  obtain ⟨a1, a2, a3, a4⟩ := lead_val hd
  cases h : Lib.trimLeftB l 48 with
  | nil => rfl
  | cons c t =>
    rw [h] at a1 a2 a4
    rw [h0] at a2
    have := a4 c rfl
    have hc := a1 c (by simp)
    rw [dval_cons] at a2
    have : 0 < (c.toNat - 48) * 10 ^ t.length := Nat.mul_pos (by omega) (Nat.pow_pos (by decide))
    omega
theorem row_cells {w : World} {base : Nat} {v : Value} {ds : List UInt8} (h : DRow w base v ds) (h0 : ds ≠ []) : ∃ g' cap', v = .slice (some ⟨g', 0, none⟩) ds.length cap' ∧ g' < w.heap.size ∧ ∀ j (h : j < ds.length), w.cell? ⟨g', j, none⟩ = some (.int .u8 (ds[j].toNat : Int)) := by
  obtain ⟨g', cap', hv, -, hl⟩ := h.slice (by rw [List.length_map]; exact List.length_pos_iff.2 h0)
  rw [List.length_map] at hv
  subst hv
  refine ⟨g', cap', rfl, hl, fun j hj => ?_⟩
  have := h.cell j (by rw [List.length_map]; exact hj)
  rw [this]
  rw [List.getD_eq_getElem?_getD, List.getElem?_map, List.getElem?_eq_getElem hj]
  rfl
theorem dec_store (w : World) (nq : Nat) (a b c : Value) : Blk (((((w.alloc (.cells #[.bool false, .string ⟨#[]⟩, .int .i64 0] 32)).drewN nq).setCell ⟨w.heap.size, 0, none⟩ a).setCell ⟨w.heap.size, 1, none⟩ b).setCell ⟨w.heap.size, 2, none⟩ c) w.heap.size 32 #[a, b, c] ∧ Below w.heap.size w (((((w.alloc (.cells #[.bool false, .string ⟨#[]⟩, .int .i64 0] 32)).drewN nq).setCell ⟨w.heap.size, 0, none⟩ a).setCell ⟨w.heap.size, 1, none⟩ b).setCell ⟨w.heap.size, 2, none⟩ c) :=
  ⟨((((Blk.new w 32 #[.bool false, .string ⟨#[]⟩, .int .i64 0]).drewN nq).set_ 0 a).set_ 1 b).set_ 2 c,
   (((bdrewN ((Below.refl _ w).alloc (Nat.le_refl _) (.cells #[.bool false, .string ⟨#[]⟩, .int .i64 0] 32)) nq).setCell (p := ⟨w.heap.size, 0, none⟩) (Nat.le_refl _) a).setCell (p := ⟨w.heap.size, 1, none⟩) (Nat.le_refl _) b).setCell (p := ⟨w.heap.size, 2, none⟩) (Nat.le_refl _) c⟩
set_option maxHeartbeats 8000000 in
set_option maxRecDepth 100000 in
theorem number_w (g : Nat) (s : ByteArray) (k : Nat) (neg : Bool) (v : Value) (dn : Nat) (ex : Int) (ds : List UInt8) (base : Nat) (w : World) (hb : Blk w g 85 (rdr s k neg v (dn : Nat) ex)) (hr : DRow w base v ds) (h0 : ds ≠ []) (hd : isDigs ds) (hl : ds.length < 140737488355328) (hdn : dn ≤ ds.length) (he1 : -11258999068426250 < ex) (he2 : ex < 11258999068426250) :
    Calls Tryz.prog 56 #[.pointer (some ⟨g, 0, none⟩)] w (MkPost w (madeF neg (dval ds) (ex - (dn : Nat)))) := by
  obtain ⟨c0, c1, c2, c3, c4, c5⟩ := rdr_cells hb
  have hg := hb.lt
  obtain ⟨g', cap', rfl, hgl, hcell⟩ := row_cells hr h0
  have hco : ∀ W, (∀ b o, b < w.heap.size → W.cell? ⟨b, o, none⟩ = w.cell? ⟨b, o, none⟩) → (convert 60 9 (.slice (some ⟨g', 0, none⟩) ds.length cap')).run Tryz.prog W = .ok (.string ⟨ds.toArray⟩) W := fun W hW => conv_out W g' cap' ds (fun j hj => (hW g' j hgl).trans (hcell j hj)) _ rfl
  have hco := hco (w.alloc (.cells #[.bool false, .string ⟨#[]⟩, .int .i64 0] 32)) (fun b o h => World.cell?_alloc_lt _ _ _ h)
  obtain ⟨a1, a2, a3, a4⟩ := lead_val hd
  have HTL := Lib.hid (fun W => Tryz.strings_TrimLeft_one ⟨ds.toArray⟩ 48 (by decide) W)
  have e1 : (⟨ds.toArray⟩ : ByteArray).data.toList = ds := rfl
  rw [e1] at HTL
  by_cases hN : dval ds = 0
  · have hnil := trim_none hd hN
    rw [hnil] at HTL
    have HTR := Lib.hid (fun W => Tryz.strings_TrimRight_one ⟨([] : List UInt8).toArray⟩ 48 (by decide) W (by simp [ByteArray.size]))
    have HV := Lib.hid (made_zero neg hN (ex - (dn : Nat)))
    clear hb hr h0 hd hcell a1 a2 a3 a4 e1 hN hnil
    generalize dval ds = N at *
    generalize hn : ds.length = n at *
    clear hn
    go_enter Tryz.func56, Tryz.ntmps56
    go_wp2_with fail
    refine (HTL.out _).mono ?_
    rintro en w1 ⟨rfl, hw1⟩
    subst hw1
    go_wp2_with fail
    refine (HTR.out _).mono ?_
    rintro en w2 ⟨rfl, hw2⟩
    subst hw2
    go_wp2_with fail
    go_quiet (fail)
    go_wp2_with fail
    obtain ⟨hk3, hbf⟩ := dec_store w nq (.bool neg) (.string ⟨#[]⟩) (.int .i64 0)
    generalize ((World.setCell _ _ _).setCell _ _).setCell _ _ = Wf at hk3 hbf ⊢
    have q0 : Wf.cell? ⟨w.heap.size, 0, none⟩ = some (.bool neg) := hk3.cell 0
    have q1 : Wf.cell? ⟨w.heap.size, 1, none⟩ = some (.string ⟨#[]⟩) := hk3.cell 1
    have q2 : Wf.cell? ⟨w.heap.size, 2, none⟩ = some (.int .i64 0) := hk3.cell 2
    refine bodyPost_ret (v := .tuple #[decV neg [] 0, .bool true]) (by simp [results, Tryz.results56, go_sem, q0, q1, q2]) rfl ⟨?_, hbf⟩
    rw [HV.out]; rfl
  · obtain ⟨b1, b2, b3⟩ := trim_tl a1 a2 a4 hN
    have hlt := b3 (ex - (dn : Nat))
    have HTR := Lib.hid (fun W => Tryz.strings_TrimRight_one ⟨(Lib.trimLeftB ds 48).toArray⟩ 48 (by decide) W (by simp [ByteArray.size]; omega))
    rw [show (⟨(Lib.trimLeftB ds 48).toArray⟩ : ByteArray).data.toList = Lib.trimLeftB ds 48 from rfl, b1] at HTR
    rw [b1] at b2 hlt
    have HLT := Lib.hid hlt
    have hne : tl (dval ds) ≠ [] := by
      intro he
      have h2 := trim_tl a1 a2 a4 hN
      obtain ⟨z, hz⟩ := drop_last 48 (Lib.trimLeftB ds 48)
      have hz' : Lib.trimLeftB ds 48 = Lib.trimRightB (Lib.trimLeftB ds 48) 48 ++ List.replicate z 48 := hz
      rw [h2.1, he, List.nil_append] at hz'
      have := dval_zeros [] z
      rw [List.nil_append, ← hz', a2] at this
      simp [dval] at this
      exact hN this
    have hcl : (Lib.trimLeftB ds 48).length ≤ ds.length := a3
    have HNN := Lib.hid hN
    have hal : (⟨(Lib.trimLeftB ds 48).toArray⟩ : ByteArray).size = (Lib.trimLeftB ds 48).length := by simp [ByteArray.size]
    have htl : (⟨(tl (dval ds)).toArray⟩ : ByteArray).size = (tl (dval ds)).length := by simp [ByteArray.size]
    have HN1 := Lib.hid hne
    clear hb hr h0 hd hcell a1 a2 a4 e1 hN b1 b3 hlt a3
    generalize dval ds = N at *
    generalize hn : ds.length = n at *
    generalize Lib.trimLeftB ds 48 = A at *
    obtain ⟨E, hE⟩ : ∃ E, E = te N (ex - (dn : Nat)) := ⟨_, rfl⟩
    obtain ⟨L, hL⟩ : ∃ L, L = tl N := ⟨_, rfl⟩
    rw [← hL] at HTR HLT HN1 htl b2
    rw [← hE] at HLT
    clear hn
    have HLT2 := HLT.out
    have hlpos : 0 < L.length := List.length_pos_iff.2 HN1.out
    have tne : L.isEmpty = false := by rw [List.isEmpty_eq_false_iff]; exact HN1.out
    have HEE := Lib.hid hE
    have HLL := Lib.hid hL
    clear hE hL HLT2
    obtain ⟨X, hX⟩ : ∃ X, X = ex - (dn : Int) := ⟨_, rfl⟩
    rw [← hX] at HLT HEE
    have HXX := Lib.hid hX
    have hE2 := HLT.out
    have tE : IntKind.i64.wrap (ex - (dn : Int) + (A.length : Int) - (L.length : Int)) = E := by
      rw [← hX, hE2]; exact IntWalk.i64_in _ (by omega)
    have hEb : -12000000000000000 < E ∧ E < 12000000000000000 := by omega
    by_cases hbig : 1073741824 < E
    · have HV := Lib.hid (made_big neg HNN.out X (.inl (by rw [← HEE.out]; exact hbig)))
      have t4 : decide (1073741824 < E) = true := decide_eq_true hbig
      clear hbig hX hE2
      go_enter Tryz.func56, Tryz.ntmps56
      go_wp2_with fail
      refine (HTL.out _).mono ?_
      rintro en w1 ⟨rfl, hw1⟩
      subst hw1
      go_wp2_with fail
      refine (HTR.out _).mono ?_
      rintro en w2 ⟨rfl, hw2⟩
      subst hw2
      go_wp2_with fail
      go_quiet (fail)
      go_wp2_with fail
      obtain ⟨hk3, hbf⟩ := dec_store w nq (.bool false) (.string ⟨#[]⟩) (.int .i64 0)
      generalize ((World.setCell _ _ _).setCell _ _).setCell _ _ = Wf at hk3 hbf ⊢
      have q0 : Wf.cell? ⟨w.heap.size, 0, none⟩ = some (.bool false) := hk3.cell 0
      have q1 : Wf.cell? ⟨w.heap.size, 1, none⟩ = some (.string ⟨#[]⟩) := hk3.cell 1
      have q2 : Wf.cell? ⟨w.heap.size, 2, none⟩ = some (.int .i64 0) := hk3.cell 2
      refine bodyPost_ret (v := .tuple #[decV false [] 0, .bool false]) (by simp [results, Tryz.results56, go_sem, q0, q1, q2]) rfl ⟨?_, hbf⟩
      rw [HXX.out] at HV
      rw [HV.out]; rfl
    · by_cases hlow : E < -1073741824
      · have HV := Lib.hid (made_big neg HNN.out X (.inr (by rw [← HEE.out]; exact hlow)))
        have t4 : decide (1073741824 < E) = false := decide_eq_false hbig
        have t5 : decide (E < -1073741824) = true := decide_eq_true hlow
        clear hbig hlow hX hE2
        go_enter Tryz.func56, Tryz.ntmps56
        go_wp2_with fail
        refine (HTL.out _).mono ?_
        rintro en w1 ⟨rfl, hw1⟩
        subst hw1
        go_wp2_with fail
        refine (HTR.out _).mono ?_
        rintro en w2 ⟨rfl, hw2⟩
        subst hw2
        go_wp2_with fail
        go_quiet (fail)
        go_wp2_with fail
        obtain ⟨hk3, hbf⟩ := dec_store w nq (.bool false) (.string ⟨#[]⟩) (.int .i64 0)
        generalize ((World.setCell _ _ _).setCell _ _).setCell _ _ = Wf at hk3 hbf ⊢
        have q0 : Wf.cell? ⟨w.heap.size, 0, none⟩ = some (.bool false) := hk3.cell 0
        have q1 : Wf.cell? ⟨w.heap.size, 1, none⟩ = some (.string ⟨#[]⟩) := hk3.cell 1
        have q2 : Wf.cell? ⟨w.heap.size, 2, none⟩ = some (.int .i64 0) := hk3.cell 2
        refine bodyPost_ret (v := .tuple #[decV false [] 0, .bool false]) (by simp [results, Tryz.results56, go_sem, q0, q1, q2]) rfl ⟨?_, hbf⟩
        rw [HXX.out] at HV
        rw [HV.out]; rfl
      · have HV := Lib.hid (made_ok neg HNN.out X (by rw [← HEE.out]; omega))
        rw [← HEE.out, ← HLL.out, HXX.out] at HV
        have t4 : decide (1073741824 < E) = false := decide_eq_false hbig
        have t5 : decide (E < -1073741824) = false := decide_eq_false hlow
        clear hbig hlow hX hE2
        go_enter Tryz.func56, Tryz.ntmps56
        go_wp2_with fail
        refine (HTL.out _).mono ?_
        rintro en w1 ⟨rfl, hw1⟩
        subst hw1
        go_wp2_with fail
        refine (HTR.out _).mono ?_
        rintro en w2 ⟨rfl, hw2⟩
        subst hw2
        go_wp2_with fail
        go_quiet (fail)
        go_wp2_with fail
        obtain ⟨hk3, hbf⟩ := dec_store w nq (.bool neg) (.string ⟨L.toArray⟩) (.int .i64 E)
        generalize ((World.setCell _ _ _).setCell _ _).setCell _ _ = Wf at hk3 hbf ⊢
        have q0 : Wf.cell? ⟨w.heap.size, 0, none⟩ = some (.bool neg) := hk3.cell 0
        have q1 : Wf.cell? ⟨w.heap.size, 1, none⟩ = some (.string ⟨L.toArray⟩) := hk3.cell 1
        have q2 : Wf.cell? ⟨w.heap.size, 2, none⟩ = some (.int .i64 E) := hk3.cell 2
        refine bodyPost_ret (v := .tuple #[decV neg L E, .bool true]) (by simp [results, Tryz.results56, go_sem, q0, q1, q2]) rfl ⟨?_, hbf⟩
        rw [HV.out]; rfl
end Go.Proofs.YtabmalnandbocaaGreatDoor.Rdr
