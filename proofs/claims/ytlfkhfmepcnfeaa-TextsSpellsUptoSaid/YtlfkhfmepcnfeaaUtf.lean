/- The walks of package utf8: a state's begin. (Printed by gen_utf.py beside it.) -/
import Derived.Test.YtlfkhfmepcnfeaaProg
import Derived.Test.YtlfkhfmepcnfeaaMem
import Derived.Lib.Hide
import Derived.Deep.LoopGhost
import Derived.Deep.QuietTactic
import Derived.BigQuiet
import Derived.Outline
namespace Go.Proofs.Ytlfkhfmepcnfeaa.Utf
set_option linter.unusedVariables false
set_option linter.unusedSimpArgs false
open Go.RowKit Go.Proofs.Ytlfkhfmepcnfeaa.Mem

/-- A read through a long chain of writes, without a side goal that is as deep as the chain: laid in the context as two rules. -/
theorem deep_same (w : World) (b i : Nat) (v : Value) : (w.setCell ⟨b, i, none⟩ v).cell? ⟨b, i, none⟩ = if (w.cell? ⟨b, i, none⟩).isSome = true then some v else none := by
  cases h : w.cell? ⟨b, i, none⟩ with
  | some u => simpa using World.cell?_setCell_same w _ v h
  | none =>
    simp only [Option.isSome_none, Bool.false_eq_true, if_false]
    unfold World.cell? at h ⊢
    simp only [World.setCell, Array.getElem?_modify, if_true]
    cases ho : w.heap[b]? with
    | none => simp
    | some o => rw [ho] at h; cases o <;> simp_all
theorem deep_some (w : World) (b i : Nat) (p : Addr) (v : Value) : ((w.setCell p v).cell? ⟨b, i, none⟩).isSome = (w.cell? ⟨b, i, none⟩).isSome := by
  by_cases e : p = ⟨b, i, none⟩
  · subst e
    rw [deep_same]
    cases (w.cell? ⟨b, i, none⟩).isSome <;> simp
  · rw [World.cell?_setCell_other _ _ _ _ e]

/-- What a row of bytes has come to within a form: how many bytes are wanted, between which two the next one lies, the character so far. -/
structure St where
  want : Int
  lo : Int
  hi : Int
  ch : Int
def St.cells (st : St) (rest : List Value) : Array Value := (.int .i64 st.want :: .int .u8 st.lo :: .int .u8 st.hi :: .int .i32 st.ch :: rest).toArray
/-- A state lies there, with what is behind it in its block. -/
def At (w : World) (b : Nat) (T : TypeId) (st : St) (rest : List Value) : Prop := Blk w b T (st.cells rest)
theorem blk_eq {w : World} {b : Nat} {T : TypeId} {cs cs' : Array Value} (h : Blk w b T cs) (e : cs = cs') : Blk w b T cs' := e ▸ h
theorem at_of {w : World} {b : Nat} {T : TypeId} {cs : Array Value} {st : St} {rest : List Value} (h : Blk w b T cs) (e : cs = st.cells rest) : At w b T st rest := by unfold At; exact e ▸ h
def beginF (x : Int) : Bool × St :=
  if x < 128 then (true, ⟨0, 128, 191, x⟩)
  else if x < 194 then (false, ⟨0, 128, 191, x⟩)
  else if 244 < x then (false, ⟨0, 128, 191, x⟩)
  else if x < 224 then (true, ⟨1, 128, 191, x - 192⟩)
  else if x = 224 then (true, ⟨2, 160, 191, x - 224⟩)
  else if x = 237 then (true, ⟨2, 128, 159, x - 224⟩)
  else if x < 240 then (true, ⟨2, 128, 191, x - 224⟩)
  else if x = 240 then (true, ⟨3, 144, 191, x - 240⟩)
  else if x = 244 then (true, ⟨3, 128, 143, x - 240⟩)
  else (true, ⟨3, 128, 191, x - 240⟩)
def Begun (b : Nat) (T : TypeId) (rest : List Value) (w : World) (r : Bool × St) (e : Ending) (w' : World) : Prop := e = .returned (.bool r.1) ∧ At w' b T r.2 rest ∧ Only b w w'
theorem ands (x : Int) (h0 : 0 ≤ x) (hx : x < 256) : (194 ≤ x → x < 224 → bits .and .i32 x 31 = x - 192) ∧ (224 ≤ x → x < 240 → bits .and .i32 (bits .and .i32 x 15) 31 = x - 224) ∧ (240 ≤ x → x ≤ 247 → bits .and .i32 (bits .and .i32 (bits .and .i32 x 7) 15) 31 = x - 240) := by
  have key : ∀ n : Fin 256, (194 ≤ (n.1 : Int) → (n.1 : Int) < 224 → bits .and .i32 (n.1 : Int) 31 = (n.1 : Int) - 192) ∧ (224 ≤ (n.1 : Int) → (n.1 : Int) < 240 → bits .and .i32 (bits .and .i32 (n.1 : Int) 15) 31 = (n.1 : Int) - 224) ∧ (240 ≤ (n.1 : Int) → (n.1 : Int) ≤ 247 → bits .and .i32 (bits .and .i32 (bits .and .i32 (n.1 : Int) 7) 15) 31 = (n.1 : Int) - 240) := by decide +kernel
  have := key ⟨x.toNat, by omega⟩
  simp only [Int.toNat_of_nonneg h0] at this
  exact this

set_option maxHeartbeats 1000000 in
set_option maxRecDepth 100000 in
theorem begin_a (b : Nat) (T : TypeId) (x : Int) (h0 : 0 ≤ x) (h256 : x < 256) (hx : x < 128) (st : St) (rest : List Value) (w : World) (hb : At w b T st rest) :
    Calls Try.prog 48 #[.pointer (some ⟨b, 0, none⟩), .int .u8 x] w (Begun b T rest w (true, ⟨0, 128, 191, x⟩)) := by
  have k0 : w.cell? ⟨b, 0, none⟩ = some (.int .i64 st.want) := Blk.cell hb 0
  have k1 : w.cell? ⟨b, 1, none⟩ = some (.int .u8 st.lo) := Blk.cell hb 1
  have k2 : w.cell? ⟨b, 2, none⟩ = some (.int .u8 st.hi) := Blk.cell hb 2
  have k3 : w.cell? ⟨b, 3, none⟩ = some (.int .i32 st.ch) := Blk.cell hb 3
  have f0 := Blk.frozen hb 0
  have f1 := Blk.frozen hb 1
  have f2 := Blk.frozen hb 2
  have f3 := Blk.frozen hb 3
  have HA := Lib.hid (ands x h0 h256)
  have DS := fun (u : World) (i : Nat) (v : Value) => deep_same u b i v
  have DO := fun (u : World) (i : Nat) (p : Addr) (v : Value) => deep_some u b i p v
  have t0 : decide (x < 128) = true := by simp; omega
  go_enter Try.func48, Try.ntmps48
  go_wp2_with fail
  go_ret
  unfold Begun
  refine ⟨rfl, at_of (((((show Blk w b T (st.cells rest) from hb).set_ 0 _).set_ 1 _).set_ 2 _).set_ 3 _) ?_, (((((Only.refl b w).setCell 0 _).setCell 1 _).setCell 2 _).setCell 3 _)⟩
  (try rw [HA.out.1 (by first | omega | (rw [HX.out]; decide)) (by first | omega | (rw [HX.out]; decide))])
  (try rw [HA.out.2.1 (by first | omega | (rw [HX.out]; decide)) (by first | omega | (rw [HX.out]; decide))])
  (try rw [HA.out.2.2 (by first | omega | (rw [HX.out]; decide)) (by first | omega | (rw [HX.out]; decide))])
  simp [St.cells]

set_option maxHeartbeats 1000000 in
set_option maxRecDepth 100000 in
theorem begin_low (b : Nat) (T : TypeId) (x : Int) (h0 : 0 ≤ x) (h256 : x < 256) (h1 : 128 ≤ x) (hx : x < 194) (st : St) (rest : List Value) (w : World) (hb : At w b T st rest) :
    Calls Try.prog 48 #[.pointer (some ⟨b, 0, none⟩), .int .u8 x] w (Begun b T rest w (false, ⟨0, 128, 191, x⟩)) := by
  have k0 : w.cell? ⟨b, 0, none⟩ = some (.int .i64 st.want) := Blk.cell hb 0
  have k1 : w.cell? ⟨b, 1, none⟩ = some (.int .u8 st.lo) := Blk.cell hb 1
  have k2 : w.cell? ⟨b, 2, none⟩ = some (.int .u8 st.hi) := Blk.cell hb 2
  have k3 : w.cell? ⟨b, 3, none⟩ = some (.int .i32 st.ch) := Blk.cell hb 3
  have f0 := Blk.frozen hb 0
  have f1 := Blk.frozen hb 1
  have f2 := Blk.frozen hb 2
  have f3 := Blk.frozen hb 3
  have HA := Lib.hid (ands x h0 h256)
  have DS := fun (u : World) (i : Nat) (v : Value) => deep_same u b i v
  have DO := fun (u : World) (i : Nat) (p : Addr) (v : Value) => deep_some u b i p v
  have t0 : decide (x < 128) = false := by simp; omega
  have t1 : decide (x < 194) = true := by simp; omega
  go_enter Try.func48, Try.ntmps48
  go_wp2_with fail
  go_ret
  unfold Begun
  refine ⟨rfl, at_of (((((show Blk w b T (st.cells rest) from hb).set_ 0 _).set_ 1 _).set_ 2 _).set_ 3 _) ?_, (((((Only.refl b w).setCell 0 _).setCell 1 _).setCell 2 _).setCell 3 _)⟩
  (try rw [HA.out.1 (by first | omega | (rw [HX.out]; decide)) (by first | omega | (rw [HX.out]; decide))])
  (try rw [HA.out.2.1 (by first | omega | (rw [HX.out]; decide)) (by first | omega | (rw [HX.out]; decide))])
  (try rw [HA.out.2.2 (by first | omega | (rw [HX.out]; decide)) (by first | omega | (rw [HX.out]; decide))])
  simp [St.cells]

set_option maxHeartbeats 1000000 in
set_option maxRecDepth 100000 in
theorem begin_high (b : Nat) (T : TypeId) (x : Int) (h0 : 0 ≤ x) (h256 : x < 256) (hx : 244 < x) (st : St) (rest : List Value) (w : World) (hb : At w b T st rest) :
    Calls Try.prog 48 #[.pointer (some ⟨b, 0, none⟩), .int .u8 x] w (Begun b T rest w (false, ⟨0, 128, 191, x⟩)) := by
  have k0 : w.cell? ⟨b, 0, none⟩ = some (.int .i64 st.want) := Blk.cell hb 0
  have k1 : w.cell? ⟨b, 1, none⟩ = some (.int .u8 st.lo) := Blk.cell hb 1
  have k2 : w.cell? ⟨b, 2, none⟩ = some (.int .u8 st.hi) := Blk.cell hb 2
  have k3 : w.cell? ⟨b, 3, none⟩ = some (.int .i32 st.ch) := Blk.cell hb 3
  have f0 := Blk.frozen hb 0
  have f1 := Blk.frozen hb 1
  have f2 := Blk.frozen hb 2
  have f3 := Blk.frozen hb 3
  have HA := Lib.hid (ands x h0 h256)
  have DS := fun (u : World) (i : Nat) (v : Value) => deep_same u b i v
  have DO := fun (u : World) (i : Nat) (p : Addr) (v : Value) => deep_some u b i p v
  have t0 : decide (x < 128) = false := by simp; omega
  have t1 : decide (x < 194) = false := by simp; omega
  have t2 : decide (x > 244) = true := by simp; omega
  have t3 : decide (244 < x) = true := by simp; omega
  go_enter Try.func48, Try.ntmps48
  go_wp2_with fail
  go_ret
  unfold Begun
  refine ⟨rfl, at_of (((((show Blk w b T (st.cells rest) from hb).set_ 0 _).set_ 1 _).set_ 2 _).set_ 3 _) ?_, (((((Only.refl b w).setCell 0 _).setCell 1 _).setCell 2 _).setCell 3 _)⟩
  (try rw [HA.out.1 (by first | omega | (rw [HX.out]; decide)) (by first | omega | (rw [HX.out]; decide))])
  (try rw [HA.out.2.1 (by first | omega | (rw [HX.out]; decide)) (by first | omega | (rw [HX.out]; decide))])
  (try rw [HA.out.2.2 (by first | omega | (rw [HX.out]; decide)) (by first | omega | (rw [HX.out]; decide))])
  simp [St.cells]

set_option maxHeartbeats 1000000 in
set_option maxRecDepth 100000 in
theorem begin_two (b : Nat) (T : TypeId) (x : Int) (h0 : 0 ≤ x) (h256 : x < 256) (h1 : 194 ≤ x) (hx : x < 224) (st : St) (rest : List Value) (w : World) (hb : At w b T st rest) :
    Calls Try.prog 48 #[.pointer (some ⟨b, 0, none⟩), .int .u8 x] w (Begun b T rest w (true, ⟨1, 128, 191, x - 192⟩)) := by
  have k0 : w.cell? ⟨b, 0, none⟩ = some (.int .i64 st.want) := Blk.cell hb 0
  have k1 : w.cell? ⟨b, 1, none⟩ = some (.int .u8 st.lo) := Blk.cell hb 1
  have k2 : w.cell? ⟨b, 2, none⟩ = some (.int .u8 st.hi) := Blk.cell hb 2
  have k3 : w.cell? ⟨b, 3, none⟩ = some (.int .i32 st.ch) := Blk.cell hb 3
  have f0 := Blk.frozen hb 0
  have f1 := Blk.frozen hb 1
  have f2 := Blk.frozen hb 2
  have f3 := Blk.frozen hb 3
  have HA := Lib.hid (ands x h0 h256)
  have DS := fun (u : World) (i : Nat) (v : Value) => deep_same u b i v
  have DO := fun (u : World) (i : Nat) (p : Addr) (v : Value) => deep_some u b i p v
  have t0 : decide (x < 128) = false := by simp; omega
  have t1 : decide (x < 194) = false := by simp; omega
  have t2 : decide (244 < x) = false := by simp; omega
  have t3 : decide (x > 244) = false := by simp; omega
  have t4 : decide (x ≥ 240) = false := by simp; omega
  have t5 : decide (240 ≤ x) = false := by simp; omega
  have t6 : decide (x ≥ 224) = false := by simp; omega
  have t7 : decide (224 ≤ x) = false := by simp; omega
  have t8 : (x == 224) = false := by simp; omega
  have t9 : (x == 237) = false := by simp; omega
  have t10 : (x == 240) = false := by simp; omega
  have t11 : (x == 244) = false := by simp; omega
  go_enter Try.func48, Try.ntmps48
  go_wp2_with fail
  go_ret
  unfold Begun
  refine ⟨rfl, at_of (((((((show Blk w b T (st.cells rest) from hb).set_ 0 _).set_ 1 _).set_ 2 _).set_ 3 _).set_ 0 _).set_ 3 _) ?_, (((((((Only.refl b w).setCell 0 _).setCell 1 _).setCell 2 _).setCell 3 _).setCell 0 _).setCell 3 _)⟩
  (try rw [HA.out.1 (by first | omega | (rw [HX.out]; decide)) (by first | omega | (rw [HX.out]; decide))])
  (try rw [HA.out.2.1 (by first | omega | (rw [HX.out]; decide)) (by first | omega | (rw [HX.out]; decide))])
  (try rw [HA.out.2.2 (by first | omega | (rw [HX.out]; decide)) (by first | omega | (rw [HX.out]; decide))])
  simp [St.cells]

set_option maxHeartbeats 1000000 in
set_option maxRecDepth 100000 in
theorem begin_e0 (b : Nat) (T : TypeId) (x : Int) (h0 : 0 ≤ x) (h256 : x < 256) (hx : x = 224) (st : St) (rest : List Value) (w : World) (hb : At w b T st rest) :
    Calls Try.prog 48 #[.pointer (some ⟨b, 0, none⟩), .int .u8 x] w (Begun b T rest w (true, ⟨2, 160, 191, x - 224⟩)) := by
  have k0 : w.cell? ⟨b, 0, none⟩ = some (.int .i64 st.want) := Blk.cell hb 0
  have k1 : w.cell? ⟨b, 1, none⟩ = some (.int .u8 st.lo) := Blk.cell hb 1
  have k2 : w.cell? ⟨b, 2, none⟩ = some (.int .u8 st.hi) := Blk.cell hb 2
  have k3 : w.cell? ⟨b, 3, none⟩ = some (.int .i32 st.ch) := Blk.cell hb 3
  have f0 := Blk.frozen hb 0
  have f1 := Blk.frozen hb 1
  have f2 := Blk.frozen hb 2
  have f3 := Blk.frozen hb 3
  have HA := Lib.hid (ands x h0 h256)
  have DS := fun (u : World) (i : Nat) (v : Value) => deep_same u b i v
  have DO := fun (u : World) (i : Nat) (p : Addr) (v : Value) => deep_some u b i p v
  have t0 : decide (x < 128) = false := by simp; omega
  have t1 : decide (x < 194) = false := by simp; omega
  have t2 : decide (244 < x) = false := by simp; omega
  have t3 : decide (x > 244) = false := by simp; omega
  have t4 : decide (x ≥ 240) = false := by simp; omega
  have t5 : decide (240 ≤ x) = false := by simp; omega
  have t6 : decide (x ≥ 224) = true := by simp; omega
  have t7 : decide (224 ≤ x) = true := by simp; omega
  have t8 : (x == 224) = true := by simp; omega
  have t9 : (x == 237) = false := by simp; omega
  have t10 : (x == 240) = false := by simp; omega
  have t11 : (x == 244) = false := by simp; omega
  have HX := Lib.hid hx
  clear hx
  go_enter Try.func48, Try.ntmps48
  go_wp2_with fail
  go_ret
  unfold Begun
  refine ⟨rfl, at_of ((((((((((show Blk w b T (st.cells rest) from hb).set_ 0 _).set_ 1 _).set_ 2 _).set_ 3 _).set_ 0 _).set_ 3 _).set_ 0 _).set_ 3 _).set_ 1 _) ?_, ((((((((((Only.refl b w).setCell 0 _).setCell 1 _).setCell 2 _).setCell 3 _).setCell 0 _).setCell 3 _).setCell 0 _).setCell 3 _).setCell 1 _)⟩
  (try rw [HA.out.1 (by first | omega | (rw [HX.out]; decide)) (by first | omega | (rw [HX.out]; decide))])
  (try rw [HA.out.2.1 (by first | omega | (rw [HX.out]; decide)) (by first | omega | (rw [HX.out]; decide))])
  (try rw [HA.out.2.2 (by first | omega | (rw [HX.out]; decide)) (by first | omega | (rw [HX.out]; decide))])
  simp [St.cells]

set_option maxHeartbeats 1000000 in
set_option maxRecDepth 100000 in
theorem begin_ed (b : Nat) (T : TypeId) (x : Int) (h0 : 0 ≤ x) (h256 : x < 256) (hx : x = 237) (st : St) (rest : List Value) (w : World) (hb : At w b T st rest) :
    Calls Try.prog 48 #[.pointer (some ⟨b, 0, none⟩), .int .u8 x] w (Begun b T rest w (true, ⟨2, 128, 159, x - 224⟩)) := by
  have k0 : w.cell? ⟨b, 0, none⟩ = some (.int .i64 st.want) := Blk.cell hb 0
  have k1 : w.cell? ⟨b, 1, none⟩ = some (.int .u8 st.lo) := Blk.cell hb 1
  have k2 : w.cell? ⟨b, 2, none⟩ = some (.int .u8 st.hi) := Blk.cell hb 2
  have k3 : w.cell? ⟨b, 3, none⟩ = some (.int .i32 st.ch) := Blk.cell hb 3
  have f0 := Blk.frozen hb 0
  have f1 := Blk.frozen hb 1
  have f2 := Blk.frozen hb 2
  have f3 := Blk.frozen hb 3
  have HA := Lib.hid (ands x h0 h256)
  have DS := fun (u : World) (i : Nat) (v : Value) => deep_same u b i v
  have DO := fun (u : World) (i : Nat) (p : Addr) (v : Value) => deep_some u b i p v
  have t0 : decide (x < 128) = false := by simp; omega
  have t1 : decide (x < 194) = false := by simp; omega
  have t2 : decide (244 < x) = false := by simp; omega
  have t3 : decide (x > 244) = false := by simp; omega
  have t4 : decide (x ≥ 240) = false := by simp; omega
  have t5 : decide (240 ≤ x) = false := by simp; omega
  have t6 : decide (x ≥ 224) = true := by simp; omega
  have t7 : decide (224 ≤ x) = true := by simp; omega
  have t8 : (x == 224) = false := by simp; omega
  have t9 : (x == 237) = true := by simp; omega
  have t10 : (x == 240) = false := by simp; omega
  have t11 : (x == 244) = false := by simp; omega
  have HX := Lib.hid hx
  clear hx
  go_enter Try.func48, Try.ntmps48
  go_wp2_with fail
  go_ret
  unfold Begun
  refine ⟨rfl, at_of ((((((((((show Blk w b T (st.cells rest) from hb).set_ 0 _).set_ 1 _).set_ 2 _).set_ 3 _).set_ 0 _).set_ 3 _).set_ 0 _).set_ 3 _).set_ 2 _) ?_, ((((((((((Only.refl b w).setCell 0 _).setCell 1 _).setCell 2 _).setCell 3 _).setCell 0 _).setCell 3 _).setCell 0 _).setCell 3 _).setCell 2 _)⟩
  (try rw [HA.out.1 (by first | omega | (rw [HX.out]; decide)) (by first | omega | (rw [HX.out]; decide))])
  (try rw [HA.out.2.1 (by first | omega | (rw [HX.out]; decide)) (by first | omega | (rw [HX.out]; decide))])
  (try rw [HA.out.2.2 (by first | omega | (rw [HX.out]; decide)) (by first | omega | (rw [HX.out]; decide))])
  simp [St.cells]

set_option maxHeartbeats 1000000 in
set_option maxRecDepth 100000 in
theorem begin_three (b : Nat) (T : TypeId) (x : Int) (h0 : 0 ≤ x) (h256 : x < 256) (h1 : 224 < x) (hx : x < 240) (hd : x ≠ 237) (st : St) (rest : List Value) (w : World) (hb : At w b T st rest) :
    Calls Try.prog 48 #[.pointer (some ⟨b, 0, none⟩), .int .u8 x] w (Begun b T rest w (true, ⟨2, 128, 191, x - 224⟩)) := by
  have k0 : w.cell? ⟨b, 0, none⟩ = some (.int .i64 st.want) := Blk.cell hb 0
  have k1 : w.cell? ⟨b, 1, none⟩ = some (.int .u8 st.lo) := Blk.cell hb 1
  have k2 : w.cell? ⟨b, 2, none⟩ = some (.int .u8 st.hi) := Blk.cell hb 2
  have k3 : w.cell? ⟨b, 3, none⟩ = some (.int .i32 st.ch) := Blk.cell hb 3
  have f0 := Blk.frozen hb 0
  have f1 := Blk.frozen hb 1
  have f2 := Blk.frozen hb 2
  have f3 := Blk.frozen hb 3
  have HA := Lib.hid (ands x h0 h256)
  have DS := fun (u : World) (i : Nat) (v : Value) => deep_same u b i v
  have DO := fun (u : World) (i : Nat) (p : Addr) (v : Value) => deep_some u b i p v
  have t0 : decide (x < 128) = false := by simp; omega
  have t1 : decide (x < 194) = false := by simp; omega
  have t2 : decide (244 < x) = false := by simp; omega
  have t3 : decide (x > 244) = false := by simp; omega
  have t4 : decide (x ≥ 240) = false := by simp; omega
  have t5 : decide (240 ≤ x) = false := by simp; omega
  have t6 : decide (x ≥ 224) = true := by simp; omega
  have t7 : decide (224 ≤ x) = true := by simp; omega
  have t8 : (x == 224) = false := by simp; omega
  have t9 : (x == 237) = false := by simp; omega
  have t10 : (x == 240) = false := by simp; omega
  have t11 : (x == 244) = false := by simp; omega
  clear hd
  go_enter Try.func48, Try.ntmps48
  go_wp2_with fail
  go_ret
  unfold Begun
  refine ⟨rfl, at_of (((((((((show Blk w b T (st.cells rest) from hb).set_ 0 _).set_ 1 _).set_ 2 _).set_ 3 _).set_ 0 _).set_ 3 _).set_ 0 _).set_ 3 _) ?_, (((((((((Only.refl b w).setCell 0 _).setCell 1 _).setCell 2 _).setCell 3 _).setCell 0 _).setCell 3 _).setCell 0 _).setCell 3 _)⟩
  (try rw [HA.out.1 (by first | omega | (rw [HX.out]; decide)) (by first | omega | (rw [HX.out]; decide))])
  (try rw [HA.out.2.1 (by first | omega | (rw [HX.out]; decide)) (by first | omega | (rw [HX.out]; decide))])
  (try rw [HA.out.2.2 (by first | omega | (rw [HX.out]; decide)) (by first | omega | (rw [HX.out]; decide))])
  simp [St.cells]

set_option maxHeartbeats 1000000 in
set_option maxRecDepth 100000 in
theorem begin_f0 (b : Nat) (T : TypeId) (x : Int) (h0 : 0 ≤ x) (h256 : x < 256) (hx : x = 240) (st : St) (rest : List Value) (w : World) (hb : At w b T st rest) :
    Calls Try.prog 48 #[.pointer (some ⟨b, 0, none⟩), .int .u8 x] w (Begun b T rest w (true, ⟨3, 144, 191, x - 240⟩)) := by
  have k0 : w.cell? ⟨b, 0, none⟩ = some (.int .i64 st.want) := Blk.cell hb 0
  have k1 : w.cell? ⟨b, 1, none⟩ = some (.int .u8 st.lo) := Blk.cell hb 1
  have k2 : w.cell? ⟨b, 2, none⟩ = some (.int .u8 st.hi) := Blk.cell hb 2
  have k3 : w.cell? ⟨b, 3, none⟩ = some (.int .i32 st.ch) := Blk.cell hb 3
  have f0 := Blk.frozen hb 0
  have f1 := Blk.frozen hb 1
  have f2 := Blk.frozen hb 2
  have f3 := Blk.frozen hb 3
  have HA := Lib.hid (ands x h0 h256)
  have DS := fun (u : World) (i : Nat) (v : Value) => deep_same u b i v
  have DO := fun (u : World) (i : Nat) (p : Addr) (v : Value) => deep_some u b i p v
  have t0 : decide (x < 128) = false := by simp; omega
  have t1 : decide (x < 194) = false := by simp; omega
  have t2 : decide (244 < x) = false := by simp; omega
  have t3 : decide (x > 244) = false := by simp; omega
  have t4 : decide (x ≥ 240) = true := by simp; omega
  have t5 : decide (240 ≤ x) = true := by simp; omega
  have t6 : decide (x ≥ 224) = true := by simp; omega
  have t7 : decide (224 ≤ x) = true := by simp; omega
  have t8 : (x == 224) = false := by simp; omega
  have t9 : (x == 237) = false := by simp; omega
  have t10 : (x == 240) = true := by simp; omega
  have t11 : (x == 244) = false := by simp; omega
  have HX := Lib.hid hx
  clear hx
  go_enter Try.func48, Try.ntmps48
  go_wp2_with fail
  go_ret
  unfold Begun
  refine ⟨rfl, at_of ((((((((((((show Blk w b T (st.cells rest) from hb).set_ 0 _).set_ 1 _).set_ 2 _).set_ 3 _).set_ 0 _).set_ 3 _).set_ 0 _).set_ 3 _).set_ 0 _).set_ 3 _).set_ 1 _) ?_, ((((((((((((Only.refl b w).setCell 0 _).setCell 1 _).setCell 2 _).setCell 3 _).setCell 0 _).setCell 3 _).setCell 0 _).setCell 3 _).setCell 0 _).setCell 3 _).setCell 1 _)⟩
  (try rw [HA.out.1 (by first | omega | (rw [HX.out]; decide)) (by first | omega | (rw [HX.out]; decide))])
  (try rw [HA.out.2.1 (by first | omega | (rw [HX.out]; decide)) (by first | omega | (rw [HX.out]; decide))])
  (try rw [HA.out.2.2 (by first | omega | (rw [HX.out]; decide)) (by first | omega | (rw [HX.out]; decide))])
  simp [St.cells]

set_option maxHeartbeats 1000000 in
set_option maxRecDepth 100000 in
theorem begin_f4 (b : Nat) (T : TypeId) (x : Int) (h0 : 0 ≤ x) (h256 : x < 256) (hx : x = 244) (st : St) (rest : List Value) (w : World) (hb : At w b T st rest) :
    Calls Try.prog 48 #[.pointer (some ⟨b, 0, none⟩), .int .u8 x] w (Begun b T rest w (true, ⟨3, 128, 143, x - 240⟩)) := by
  have k0 : w.cell? ⟨b, 0, none⟩ = some (.int .i64 st.want) := Blk.cell hb 0
  have k1 : w.cell? ⟨b, 1, none⟩ = some (.int .u8 st.lo) := Blk.cell hb 1
  have k2 : w.cell? ⟨b, 2, none⟩ = some (.int .u8 st.hi) := Blk.cell hb 2
  have k3 : w.cell? ⟨b, 3, none⟩ = some (.int .i32 st.ch) := Blk.cell hb 3
  have f0 := Blk.frozen hb 0
  have f1 := Blk.frozen hb 1
  have f2 := Blk.frozen hb 2
  have f3 := Blk.frozen hb 3
  have HA := Lib.hid (ands x h0 h256)
  have DS := fun (u : World) (i : Nat) (v : Value) => deep_same u b i v
  have DO := fun (u : World) (i : Nat) (p : Addr) (v : Value) => deep_some u b i p v
  have t0 : decide (x < 128) = false := by simp; omega
  have t1 : decide (x < 194) = false := by simp; omega
  have t2 : decide (244 < x) = false := by simp; omega
  have t3 : decide (x > 244) = false := by simp; omega
  have t4 : decide (x ≥ 240) = true := by simp; omega
  have t5 : decide (240 ≤ x) = true := by simp; omega
  have t6 : decide (x ≥ 224) = true := by simp; omega
  have t7 : decide (224 ≤ x) = true := by simp; omega
  have t8 : (x == 224) = false := by simp; omega
  have t9 : (x == 237) = false := by simp; omega
  have t10 : (x == 240) = false := by simp; omega
  have t11 : (x == 244) = true := by simp; omega
  have HX := Lib.hid hx
  clear hx
  go_enter Try.func48, Try.ntmps48
  go_wp2_with fail
  go_ret
  unfold Begun
  refine ⟨rfl, at_of ((((((((((((show Blk w b T (st.cells rest) from hb).set_ 0 _).set_ 1 _).set_ 2 _).set_ 3 _).set_ 0 _).set_ 3 _).set_ 0 _).set_ 3 _).set_ 0 _).set_ 3 _).set_ 2 _) ?_, ((((((((((((Only.refl b w).setCell 0 _).setCell 1 _).setCell 2 _).setCell 3 _).setCell 0 _).setCell 3 _).setCell 0 _).setCell 3 _).setCell 0 _).setCell 3 _).setCell 2 _)⟩
  (try rw [HA.out.1 (by first | omega | (rw [HX.out]; decide)) (by first | omega | (rw [HX.out]; decide))])
  (try rw [HA.out.2.1 (by first | omega | (rw [HX.out]; decide)) (by first | omega | (rw [HX.out]; decide))])
  (try rw [HA.out.2.2 (by first | omega | (rw [HX.out]; decide)) (by first | omega | (rw [HX.out]; decide))])
  simp [St.cells]

set_option maxHeartbeats 1000000 in
set_option maxRecDepth 100000 in
theorem begin_four (b : Nat) (T : TypeId) (x : Int) (h0 : 0 ≤ x) (h256 : x < 256) (h1 : 240 < x) (hx : x < 244) (st : St) (rest : List Value) (w : World) (hb : At w b T st rest) :
    Calls Try.prog 48 #[.pointer (some ⟨b, 0, none⟩), .int .u8 x] w (Begun b T rest w (true, ⟨3, 128, 191, x - 240⟩)) := by
  have k0 : w.cell? ⟨b, 0, none⟩ = some (.int .i64 st.want) := Blk.cell hb 0
  have k1 : w.cell? ⟨b, 1, none⟩ = some (.int .u8 st.lo) := Blk.cell hb 1
  have k2 : w.cell? ⟨b, 2, none⟩ = some (.int .u8 st.hi) := Blk.cell hb 2
  have k3 : w.cell? ⟨b, 3, none⟩ = some (.int .i32 st.ch) := Blk.cell hb 3
  have f0 := Blk.frozen hb 0
  have f1 := Blk.frozen hb 1
  have f2 := Blk.frozen hb 2
  have f3 := Blk.frozen hb 3
  have HA := Lib.hid (ands x h0 h256)
  have DS := fun (u : World) (i : Nat) (v : Value) => deep_same u b i v
  have DO := fun (u : World) (i : Nat) (p : Addr) (v : Value) => deep_some u b i p v
  have t0 : decide (x < 128) = false := by simp; omega
  have t1 : decide (x < 194) = false := by simp; omega
  have t2 : decide (244 < x) = false := by simp; omega
  have t3 : decide (x > 244) = false := by simp; omega
  have t4 : decide (x ≥ 240) = true := by simp; omega
  have t5 : decide (240 ≤ x) = true := by simp; omega
  have t6 : decide (x ≥ 224) = true := by simp; omega
  have t7 : decide (224 ≤ x) = true := by simp; omega
  have t8 : (x == 224) = false := by simp; omega
  have t9 : (x == 237) = false := by simp; omega
  have t10 : (x == 240) = false := by simp; omega
  have t11 : (x == 244) = false := by simp; omega
  go_enter Try.func48, Try.ntmps48
  go_wp2_with fail
  go_ret
  unfold Begun
  refine ⟨rfl, at_of (((((((((((show Blk w b T (st.cells rest) from hb).set_ 0 _).set_ 1 _).set_ 2 _).set_ 3 _).set_ 0 _).set_ 3 _).set_ 0 _).set_ 3 _).set_ 0 _).set_ 3 _) ?_, (((((((((((Only.refl b w).setCell 0 _).setCell 1 _).setCell 2 _).setCell 3 _).setCell 0 _).setCell 3 _).setCell 0 _).setCell 3 _).setCell 0 _).setCell 3 _)⟩
  (try rw [HA.out.1 (by first | omega | (rw [HX.out]; decide)) (by first | omega | (rw [HX.out]; decide))])
  (try rw [HA.out.2.1 (by first | omega | (rw [HX.out]; decide)) (by first | omega | (rw [HX.out]; decide))])
  (try rw [HA.out.2.2 (by first | omega | (rw [HX.out]; decide)) (by first | omega | (rw [HX.out]; decide))])
  simp [St.cells]

theorem begin_w (b : Nat) (T : TypeId) (x : Int) (h0 : 0 ≤ x) (h256 : x < 256) (st : St) (rest : List Value) (w : World) (hb : At w b T st rest) :
    Calls Try.prog 48 #[.pointer (some ⟨b, 0, none⟩), .int .u8 x] w (Begun b T rest w (beginF x)) := by
  unfold beginF
  split
  · exact begin_a b T x h0 h256 (by assumption) st rest w hb
  split
  · exact begin_low b T x h0 h256 (by omega) (by omega) st rest w hb
  split
  · exact begin_high b T x h0 h256 (by omega) st rest w hb
  split
  · exact begin_two b T x h0 h256 (by omega) (by omega) st rest w hb
  split
  · exact begin_e0 b T x h0 h256 (by omega) st rest w hb
  split
  · exact begin_ed b T x h0 h256 (by omega) st rest w hb
  split
  · exact begin_three b T x h0 h256 (by omega) (by omega) (by omega) st rest w hb
  split
  · exact begin_f0 b T x h0 h256 (by omega) st rest w hb
  split
  · exact begin_f4 b T x h0 h256 (by omega) st rest w hb
  · exact begin_four b T x h0 h256 (by omega) (by omega) st rest w hb
end Go.Proofs.Ytlfkhfmepcnfeaa.Utf
