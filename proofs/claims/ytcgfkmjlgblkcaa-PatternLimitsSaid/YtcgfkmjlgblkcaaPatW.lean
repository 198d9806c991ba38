/- Words for a pattern's memory; the walks of the heap's two functions (less, stand) and of put. -/
import Derived.Test.YtcgfkmjlgblkcaaProg
import Derived.Test.YtcgfkmjlgblkcaaPatH
import Derived.Test.YtcgfkmjlgblkcaaMem
import Derived.Test.YtcgfkmjlgblkcaaOwn
import Derived.Lib.Hide
import Derived.IntWalk
import Derived.Deep.QuietTactic
import Derived.BigQuiet
import Derived.Deep.Draws
import Derived.Handy
namespace Go.Proofs.Ytcgfkmjlgblkcaa.Pat
set_option linter.unusedVariables false
set_option linter.unusedSimpArgs false
open Go.RowKit Go.Proofs.Ytcgfkmjlgblkcaa.Mem Go.Proofs.Ytcgfkmjlgblkcaa.Own

/-- Only these blocks have turned, and what is new. -/
structure Touch (S : Nat → Prop) (w w' : World) : Prop where
  os : w'.os = w.os
  tape : w'.tape = w.tape
  output : w'.output = w.output
  size : w.heap.size ≤ w'.heap.size
  block : ∀ k, k < w.heap.size → ¬ S k → w'.heap[k]? = w.heap[k]?
section
variable {S S' : Nat → Prop} {w w1 w2 : World}
theorem Touch.refl (S : Nat → Prop) (w : World) : Touch S w w := ⟨rfl, rfl, rfl, Nat.le_refl _, fun _ _ _ => rfl⟩
theorem Touch.trans (h : Touch S w w1) (k : Touch S' w1 w2) (hs : ∀ b, S' b → S b ∨ w.heap.size ≤ b) : Touch S w w2 :=
  ⟨k.os.trans h.os, k.tape.trans h.tape, k.output.trans h.output, Nat.le_trans h.size k.size, fun b hb hn =>
    (k.block b (Nat.lt_of_lt_of_le hb h.size) (fun e => by rcases hs b e with e | e; exact hn e; omega)).trans (h.block b hb hn)⟩
theorem Touch.then (h : Touch S w w1) (k : Touch S w1 w2) : Touch S w w2 := h.trans k (fun _ e => .inl e)
theorem Touch.of_below (h : Below w.heap.size w w1) : Touch S w w1 := ⟨h.os, h.tape, h.output, h.size, fun b hb _ => h.block b hb⟩
theorem Touch.alloc (h : Touch S w w1) (o : Obj) : Touch S w (w1.alloc o) :=
  ⟨h.os, h.tape, h.output, Nat.le_trans h.size (by simp), fun i hi hn => (Below.heap_alloc w1 o i (Nat.lt_of_lt_of_le hi h.size)).trans (h.block i hi hn)⟩
theorem Touch.drew (h : Touch S w w1) : Touch S w w1.drew := ⟨h.os, h.tape, h.output, h.size, h.block⟩
theorem Touch.drewN (h : Touch S w w1) (n : Nat) : Touch S w (w1.drewN n) := ⟨h.os, h.tape, h.output, h.size, h.block⟩
theorem Touch.setCell (h : Touch S w w1) {a : Addr} (ha : S a.block ∨ w.heap.size ≤ a.block) (u : Value) : Touch S w (w1.setCell a u) :=
  ⟨h.os, h.tape, h.output, by simpa [World.setCell] using h.size, fun i hi hn => (Below.heap_setCell w1 a u i (by
    intro e; subst e; rcases ha with e | e; exact hn e; omega)).trans (h.block i hi hn)⟩
theorem Touch.grown {row : Option Nat} (h : Touch S w w1) (k : w1.grownBy w2 row) (hr : ∀ b, row = some b → S b ∨ w.heap.size ≤ b) : Touch S w w2 :=
  h.trans (S' := fun b => row = some b) ⟨k.os, k.tape, k.output, k.size, fun b hb hn => k.block b hb (fun e => hn e.symm)⟩ hr
theorem Touch.blk {g : Nat} {t : TypeId} {cs : Array Value} (h : Touch S w w1) (k : Blk w g t cs) (hn : ¬ S g) : Blk w1 g t cs := (h.block g k.lt hn).trans k
theorem Touch.below {B : Nat} (h : Touch S w w1) (hs : ∀ b, S b → B ≤ b) (hB : B ≤ w.heap.size) : Below B w w1 :=
  ⟨h.os, h.tape, h.output, h.size, fun b hb => h.block b (by omega) (fun e => by have := hs b e; omega)⟩
theorem Touch.mono (h : Touch S w w1) (hs : ∀ b, S b → S' b) : Touch S' w w1 := ⟨h.os, h.tape, h.output, h.size, fun b hb hn => h.block b hb (fun e => hn (hs b e))⟩
theorem Touch.own {v : Value} {base n size : Nat} {e : TypeId} {xs : List Value} (h : Touch S w w1) (k : w.ownsRow base e size v n xs) (hn : ∀ g, v.ownBlock = some g → ¬ S g) : w1.ownsRow base e size v n xs := by
  refine ⟨k.1, ?_⟩
  rcases k.2 with h0 | ⟨g, cap, cur, rfl, hb, hg, rest⟩
  · exact .inl h0
  · exact .inr ⟨g, cap, cur, rfl, hb, (h.block g (Array.getElem?_eq_some_iff.1 hg).1 (hn g rfl)).trans hg, rest⟩
end
def ptr (b : Nat) : Value := .pointer (some ⟨b, 0, none⟩)
/-- An entry's block, which says that it stands at k. -/
def EntAt (w : World) (x : Ent) (k : Int) : Prop := Blk w x.b 74 #[.string x.route, .string x.name, .int .i64 x.place, .int .i64 x.hits, .int .i64 x.age, .int .i64 k]
instance (a b : Ent) : Decidable (Lt a b) := by unfold Lt; exact inferInstance
def ltB (a b : Ent) : Bool := decide (Lt a b)
theorem ltB_true {a b : Ent} (h : Lt a b) : ltB a b = true := decide_eq_true h
theorem ltB_false {a b : Ent} (h : ¬ Lt a b) : ltB a b = false := decide_eq_false h
set_option maxHeartbeats 1000000 in
theorem less_w (a b : Ent) (i j : Int) (w : World) (ha : EntAt w a i) (hb : EntAt w b j) :
    Calls Try.prog 27 #[.pointer (some ⟨a.b, 0, none⟩), .pointer (some ⟨b.b, 0, none⟩)] w fun e w' => e = .returned (.bool (ltB a b)) ∧ ∃ n, w' = w.drewN n := by
  have a3 : w.cell? ⟨a.b, 3, none⟩ = some (.int .i64 a.hits) := Blk.cell ha 3
  have a4 : w.cell? ⟨a.b, 4, none⟩ = some (.int .i64 a.age) := Blk.cell ha 4
  have b3 : w.cell? ⟨b.b, 3, none⟩ = some (.int .i64 b.hits) := Blk.cell hb 3
  have b4 : w.cell? ⟨b.b, 4, none⟩ = some (.int .i64 b.age) := Blk.cell hb 4
  by_cases h1 : a.hits < b.hits
  · have hr := Lib.hid (ltB_true (a := a) (b := b) (.inl h1))
    have d1 : decide (a.hits < b.hits) = true := decide_eq_true h1
    go_enter Try.func27, Try.ntmps27
    go_wp2_with fail
    go_quiet (fail)
    go_wp2_with fail
    go_ret
    rw [hr.out]
    exact ⟨rfl, _, rfl⟩
  · have d1 : decide (a.hits < b.hits) = false := decide_eq_false h1
    by_cases h2 : a.hits = b.hits
    · have d2 : (a.hits == b.hits) = true := by simpa using h2
      by_cases h3 : a.age < b.age
      · have hr := Lib.hid (ltB_true (a := a) (b := b) (.inr ⟨h2, h3⟩))
        have d3 : decide (a.age < b.age) = true := decide_eq_true h3
        clear h2
        go_enter Try.func27, Try.ntmps27
        go_wp2_with fail
        go_quiet (fail)
        go_wp2_with fail
        go_ret
        rw [hr.out]
        exact ⟨rfl, _, rfl⟩
      · have hr := Lib.hid (ltB_false (a := a) (b := b) (by unfold Lt; omega))
        have d3 : decide (a.age < b.age) = false := decide_eq_false h3
        clear h2
        go_enter Try.func27, Try.ntmps27
        go_wp2_with fail
        go_quiet (fail)
        go_wp2_with fail
        go_ret
        rw [hr.out]
        exact ⟨rfl, _, rfl⟩
    · have d2 : (a.hits == b.hits) = false := by simpa using h2
      have hr := Lib.hid (ltB_false (a := a) (b := b) (by unfold Lt; omega))
      go_enter Try.func27, Try.ntmps27
      go_wp2_with fail
      go_quiet (fail)
      go_wp2_with fail
      go_ret
      rw [hr.out]
      exact ⟨rfl, _, rfl⟩
set_option maxHeartbeats 1000000 in
theorem stand_w (x : Ent) (i k : Int) (w : World) (ha : EntAt w x i) :
    Calls Try.prog 28 #[.pointer (some ⟨x.b, 0, none⟩), .int .i64 k] w fun e w' => e = .returned (.tuple #[]) ∧ w' = w.setCell ⟨x.b, 5, none⟩ (.int .i64 k) := by
  have a5 : w.cell? ⟨x.b, 5, none⟩ = some (.int .i64 i) := Blk.cell ha 5
  have f5 := Blk.frozen ha 5
  go_enter Try.func28, Try.ntmps28
  go_wp2_with fail
  go_end0
  exact ⟨rfl, rfl⟩
/-- A pattern's block. -/
def PB (w : World) (p : Nat) (room age : Int) (m : Nat) (v : Value) : Prop := Blk w p 70 #[.int .i64 room, .int .i64 age, .map (some m), v, .func (.func 27) #[] #[], .func (.func 28) #[] #[]]
theorem blk_ne {w : World} {a b : Nat} {t t' : TypeId} {cs cs' : Array Value} (h : Blk w a t cs) (k : Blk w b t' cs') (ht : t ≠ t') : a ≠ b := by
  rintro rfl
  unfold Blk at h k
  rw [h] at k
  simp at k
  exact ht k.2
theorem own_blk {w : World} {B g n cap size : Nat} {e : TypeId} {xs : List Value} (h : w.ownsRow B e size (.slice (some ⟨g, 0, none⟩) n cap) n xs) : ∃ cur, Blk w g e cur := by
  rcases h.2 with ⟨h', _⟩ | ⟨g', cap', cur, h', hb, hg, -⟩
  · cases h'
  · cases h'; exact ⟨cur, hg⟩
theorem own_one {w : World} {B g n cap : Nat} {e : TypeId} {xs : List Value} (h : w.ownsRow B e 1 (.slice (some ⟨g, 0, none⟩) n cap) n xs) (k : Nat) (hk : k < n) : ∃ u, xs[k]? = some u ∧ w.cell? ⟨g, k, none⟩ = some u := by
  have hl : xs.length = n := by simpa using h.1
  have e1 : xs[k]? = some (xs[k]'(by omega)) := List.getElem?_eq_getElem (by omega)
  exact ⟨_, e1, (h.cellAt k (by omega)).trans e1⟩
set_option maxHeartbeats 1000000 in
theorem put_w (p m g n cap : Nat) (room age : Int) (x : Ent) (j : Int) (i : Int) (B : Nat) (xs : List Value) (w : World) (hp : PB w p room age m (.slice (some ⟨g, 0, none⟩) n cap)) (hn : n < 140737488355328)
    (hr : w.ownsRow B 63 1 (.slice (some ⟨g, 0, none⟩) n cap) n xs) (hx : EntAt w x j) (h0 : 0 ≤ i) (h1 : i < n) :
    Calls Try.prog 59 #[.pointer (some ⟨p, 3, none⟩), .pointer (some ⟨x.b, 0, none⟩), .int .i64 i] w fun e w' => e = .returned (.tuple #[]) ∧ w' = (w.setCell ⟨g, i.toNat, none⟩ (.pointer (some ⟨x.b, 0, none⟩))).setCell ⟨x.b, 5, none⟩ (.int .i64 i) := by
  have p3 : w.cell? ⟨p, 3, none⟩ = some (.slice (some ⟨g, 0, none⟩) n cap) := Blk.cell hp 3
  obtain ⟨k, rfl⟩ := Int.eq_ofNat_of_zero_le h0
  have hk : k < n := by omega
  obtain ⟨u, -, hc⟩ := own_one hr k hk
  have hf := hr.frozenAt k
  obtain ⟨cur, hcur⟩ := own_blk hr
  have ngp : p ≠ g := blk_ne hp hcur (by decide)
  have ngx : x.b ≠ g := blk_ne hx hcur (by decide)
  have p5 : (w.setCell ⟨g, k, none⟩ (.pointer (some ⟨x.b, 0, none⟩))).cell? ⟨p, 5, none⟩ = some (.func (.func 28) #[] #[]) := Blk.cell (Blk.far hp (p := ⟨g, k, none⟩) ngp _) 5
  have hx1 : EntAt (w.setCell ⟨g, k, none⟩ (.pointer (some ⟨x.b, 0, none⟩))) x j := Blk.far hx (p := ⟨g, k, none⟩) ngx _
  have HS := Lib.hid (stand_w x j (k : Int) _ hx1)
  go_enter Try.func59, Try.ntmps59
  go_wp2_with fail
  refine HS.out.mono ?_; rintro e w1 ⟨rfl, rfl⟩
  go_wp2_with fail
  go_end0
  exact ⟨rfl, rfl⟩
end Go.Proofs.Ytcgfkmjlgblkcaa.Pat
