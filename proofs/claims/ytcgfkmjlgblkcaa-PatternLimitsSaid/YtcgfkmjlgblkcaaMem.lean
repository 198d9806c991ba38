/- Words for memory: a block that is known whole; that only one block has turned. (The first ones after the kit's page extra-words.) -/
import Derived.WalkKit
import Derived.Below
import Derived.Deep.Draws
import Derived.Laws.Rows
import Derived.Laws.OwnMore
import Derived.OwnWalk
namespace Go.Proofs.Ytcgfkmjlgblkcaa.Mem
set_option linter.unusedVariables false
set_option linter.unusedSimpArgs false
open Go.RowKit

/-- Block g is just these cells. -/
def Blk (w : World) (g : Nat) (t : TypeId) (cs : Array Value) : Prop := w.heap[g]? = some (.cells cs t (0, 0))
section
variable {w w' : World} {g : Nat} {t : TypeId} {cs : Array Value}
theorem Blk.lt (h : Blk w g t cs) : g < w.heap.size := by
  rcases Nat.lt_or_ge g w.heap.size with hlt | hge
  · exact hlt
  · unfold Blk at h; rw [Array.getElem?_eq_none hge] at h; cases h
theorem Blk.cell (h : Blk w g t cs) (i : Nat) : w.cell? ⟨g, i, none⟩ = cs[i]? := cell_of_row w g i cs t (0, 0) h
theorem Blk.frozen (h : Blk w g t cs) (i : Nat) : w.frozen? ⟨g, i, none⟩ = false := by
  unfold Blk at h
  simp [World.frozen?, h]
theorem Blk.new (w : World) (t : TypeId) (cs : Array Value) : Blk (w.alloc (.cells cs t)) w.heap.size t cs := heap_alloc_new w _
theorem Blk.drew (h : Blk w g t cs) : Blk w.drew g t cs := h
theorem Blk.drewN (h : Blk w g t cs) (n : Nat) : Blk (w.drewN n) g t cs := h
theorem Blk.alloc (h : Blk w g t cs) (o : Obj) : Blk (w.alloc o) g t cs := (Below.heap_alloc w o g h.lt).trans h
theorem Blk.set_ (h : Blk w g t cs) (i : Nat) (u : Value) : Blk (w.setCell ⟨g, i, none⟩ u) g t (cs.setIfInBounds i u) := by
  unfold Blk at h ⊢
  simp [World.setCell, Array.getElem?_modify, h]
theorem Blk.far (h : Blk w g t cs) {p : Addr} (hp : g ≠ p.block) (u : Value) : Blk (w.setCell p u) g t cs := (Below.heap_setCell w p u g hp).trans h
theorem Blk.below {B : Nat} (h : Blk w g t cs) (hb : Below B w w') (hg : g < B) : Blk w' g t cs := (hb.block g hg).trans h
theorem Blk.grown {row : Option Nat} (h : Blk w g t cs) (hb : w.grownBy w' row) (hg : some g ≠ row) : Blk w' g t cs := (hb.block g h.lt hg).trans h
end

/-- Only block g has turned, and what is new. -/
def Only (g : Nat) (a w : World) : Prop := a.grownBy w (some g)
section
variable {a w w' : World} {g : Nat}
theorem Only.gr (h : Only g a w) : a.grownBy w (some g) := h
theorem Only.refl (g : Nat) (w : World) : Only g w w := World.grownBy.refl w _
theorem Only.size (h : Only g a w) : a.heap.size ≤ w.heap.size := (Only.gr h).size
theorem Only.trans (h : Only g a w) (k : Only g w w') : Only g a w' :=
  ⟨((Only.gr k).os).trans ((Only.gr h).os), ((Only.gr k).tape).trans ((Only.gr h).tape), ((Only.gr k).output).trans ((Only.gr h).output), Nat.le_trans ((Only.gr h).size) ((Only.gr k).size),
    fun i hi hn => ((Only.gr k).block i (Nat.lt_of_lt_of_le hi ((Only.gr h).size)) hn).trans ((Only.gr h).block i hi hn)⟩
theorem Only.drew (h : Only g a w) : Only g a w.drew := ⟨(Only.gr h).os, (Only.gr h).tape, (Only.gr h).output, (Only.gr h).size, (Only.gr h).block⟩
theorem Only.drewN (h : Only g a w) (n : Nat) : Only g a (w.drewN n) := ⟨(Only.gr h).os, (Only.gr h).tape, (Only.gr h).output, (Only.gr h).size, (Only.gr h).block⟩
theorem Only.alloc (h : Only g a w) (o : Obj) : Only g a (w.alloc o) :=
  ⟨(Only.gr h).os, (Only.gr h).tape, (Only.gr h).output, Nat.le_trans ((Only.gr h).size) (by simp), fun i hi hn => (Below.heap_alloc w o i (Nat.lt_of_lt_of_le hi ((Only.gr h).size))).trans ((Only.gr h).block i hi hn)⟩
theorem Only.setCell (h : Only g a w) (i : Nat) (u : Value) : Only g a (w.setCell ⟨g, i, none⟩ u) :=
  ⟨(Only.gr h).os, (Only.gr h).tape, (Only.gr h).output, by simpa [World.setCell] using (Only.gr h).size, fun j hj hn => (Below.heap_setCell w ⟨g, i, none⟩ u j (by
    intro e; exact hn (by rw [e]))).trans ((Only.gr h).block j hj hn)⟩
theorem Only.of_below (h : Below a.heap.size a w) : Only g a w := ⟨h.os, h.tape, h.output, h.size, fun i hi _ => h.block i hi⟩
theorem Only.blk {t : TypeId} {cs : Array Value} {b : Nat} (h : Only g a w) (hb : Blk a b t cs) (hne : b ≠ g) : Blk w b t cs :=
  ((Only.gr h).block b hb.lt (by intro e; injection e with e; exact hne e)).trans hb
theorem Only.below {B : Nat} (h : Only g a w) (hB : B ≤ g) (hs : B ≤ a.heap.size) : Below B a w :=
  ⟨(Only.gr h).os, (Only.gr h).tape, (Only.gr h).output, (Only.gr h).size, fun i hi => (Only.gr h).block i (by omega) (by intro e; injection e with e; omega)⟩
theorem Only.cell {p : Addr} (h : Only g a w) (hp : p.block < a.heap.size) (hne : p.block ≠ g) : w.cell? p = a.cell? p :=
  World.cell?_of_block ((Only.gr h).block p.block hp (by intro e; injection e with e; exact hne e))
end
theorem bcell {W w1 : World} (hb : Below W.heap.size W w1) : (∀ b o, b < W.heap.size → w1.cell? ⟨b, o, none⟩ = W.cell? ⟨b, o, none⟩) ∧ (∀ b o, b < W.heap.size → w1.frozen? ⟨b, o, none⟩ = W.frozen? ⟨b, o, none⟩) :=
  ⟨fun b o h => hb.cell (p := ⟨b, o, none⟩) h, fun b o h => hb.frozen (p := ⟨b, o, none⟩) h⟩
theorem bthen {w A B : World} (h : Below w.heap.size w A) (hb : Below A.heap.size A B) : Below w.heap.size w B := h.trans (hb.mono h.size)
theorem bdrewN {B : Nat} {w A : World} (h : Below B w A) (n : Nat) : Below B w (A.drewN n) := ⟨h.os, h.tape, h.output, h.size, h.block⟩
end Go.Proofs.Ytcgfkmjlgblkcaa.Mem
