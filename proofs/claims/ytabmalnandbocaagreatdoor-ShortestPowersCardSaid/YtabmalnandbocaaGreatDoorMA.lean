/- Chapters 13 and 14 (floats, shortest): plain words on memory, digits of a base, rungs of floats and their words. No conditions beside those that each contract names. -/
import Derived.WalkKit
import Derived.Below
import Derived.Deep.Draws
import Derived.Laws.Rows
import Derived.Laws.OwnMore
import Derived.OwnWalk
import Ieee.Arith
namespace Go.Proofs.YtabmalnandbocaaGreatDoor.Mem
set_option exponentiation.threshold 3000
set_option linter.unusedVariables false
set_option linter.unusedSimpArgs false
open Go.RowKit

/-- Block g is just these cells. -/
def Blk (w : World) (g : Nat) (t : TypeId) (cs : Array Value) : Prop := w.heap[g]? = some (.cells cs t (0, 0))
section
variable {w w' : World} {g : Nat} {t : TypeId} {cs : Array Value}
theorem Blk.lt (h : Blk w g t cs) : g < w.heap.size := by
  rcases Nat.lt_or_ge g w.heap.size with hlt | hge
  · exact hlt
  · unfold Blk at h; rw [Array.getElem?_eq_none hge] at h; cases h
theorem Blk.cell (h : Blk w g t cs) (i : Nat) : w.cell? ⟨g, i, none⟩ = cs[i]? := cell_of_row w g i cs t (0, 0) h
theorem Blk.frozen (h : Blk w g t cs) (i : Nat) : w.frozen? ⟨g, i, none⟩ = false := by
  unfold Blk at h
  simp [World.frozen?, h]
theorem Blk.new (w : World) (t : TypeId) (cs : Array Value) : Blk (w.alloc (.cells cs t)) w.heap.size t cs := heap_alloc_new w _
theorem Blk.drew (h : Blk w g t cs) : Blk w.drew g t cs := h
theorem Blk.drewN (h : Blk w g t cs) (n : Nat) : Blk (w.drewN n) g t cs := h
theorem Blk.alloc (h : Blk w g t cs) (o : Obj) : Blk (w.alloc o) g t cs := (Below.heap_alloc w o g h.lt).trans h
theorem Blk.set_ (h : Blk w g t cs) (i : Nat) (u : Value) : Blk (w.setCell ⟨g, i, none⟩ u) g t (cs.setIfInBounds i u) := by
  unfold Blk at h ⊢
  simp [World.setCell, Array.getElem?_modify, h]
theorem Blk.far (h : Blk w g t cs) {p : Addr} (hp : g ≠ p.block) (u : Value) : Blk (w.setCell p u) g t cs := (Below.heap_setCell w p u g hp).trans h
theorem Blk.below {B : Nat} (h : Blk w g t cs) (hb : Below B w w') (hg : g < B) : Blk w' g t cs := (hb.block g hg).trans h
theorem Blk.grown {row : Option Nat} (h : Blk w g t cs) (hb : w.grownBy w' row) (hg : some g ≠ row) : Blk w' g t cs := (hb.block g h.lt hg).trans h
end

/-- Only block g has turned, and what is new. -/
def Only (g : Nat) (a w : World) : Prop := a.grownBy w (some g)
section
variable {a w w' : World} {g : Nat}
theorem Only.gr (h : Only g a w) : a.grownBy w (some g) := h
theorem Only.refl (g : Nat) (w : World) : Only g w w := World.grownBy.refl w _
theorem Only.size (h : Only g a w) : a.heap.size ≤ w.heap.size := (Only.gr h).size
theorem Only.trans (h : Only g a w) (k : Only g w w') : Only g a w' :=
  ⟨((Only.gr k).os).trans ((Only.gr h).os), ((Only.gr k).tape).trans ((Only.gr h).tape), ((Only.gr k).output).trans ((Only.gr h).output), Nat.le_trans ((Only.gr h).size) ((Only.gr k).size),
    fun i hi hn => ((Only.gr k).block i (Nat.lt_of_lt_of_le hi ((Only.gr h).size)) hn).trans ((Only.gr h).block i hi hn)⟩
theorem Only.drew (h : Only g a w) : Only g a w.drew := ⟨(Only.gr h).os, (Only.gr h).tape, (Only.gr h).output, (Only.gr h).size, (Only.gr h).block⟩
theorem Only.drewN (h : Only g a w) (n : Nat) : Only g a (w.drewN n) := ⟨(Only.gr h).os, (Only.gr h).tape, (Only.gr h).output, (Only.gr h).size, (Only.gr h).block⟩
theorem Only.alloc (h : Only g a w) (o : Obj) : Only g a (w.alloc o) :=
  ⟨(Only.gr h).os, (Only.gr h).tape, (Only.gr h).output, Nat.le_trans ((Only.gr h).size) (by simp), fun i hi hn => (Below.heap_alloc w o i (Nat.lt_of_lt_of_le hi ((Only.gr h).size))).trans ((Only.gr h).block i hi hn)⟩
theorem Only.setCell (h : Only g a w) (i : Nat) (u : Value) : Only g a (w.setCell ⟨g, i, none⟩ u) :=
  ⟨(Only.gr h).os, (Only.gr h).tape, (Only.gr h).output, by simpa [World.setCell] using (Only.gr h).size, fun j hj hn => (Below.heap_setCell w ⟨g, i, none⟩ u j (by
    intro e; exact hn (by rw [e]))).trans ((Only.gr h).block j hj hn)⟩
theorem Only.of_below (h : Below a.heap.size a w) : Only g a w := ⟨h.os, h.tape, h.output, h.size, fun i hi _ => h.block i hi⟩
theorem Only.blk {t : TypeId} {cs : Array Value} {b : Nat} (h : Only g a w) (hb : Blk a b t cs) (hne : b ≠ g) : Blk w b t cs :=
  ((Only.gr h).block b hb.lt (by intro e; injection e with e; exact hne e)).trans hb
theorem Only.below {B : Nat} (h : Only g a w) (hB : B ≤ g) (hs : B ≤ a.heap.size) : Below B a w :=
  ⟨(Only.gr h).os, (Only.gr h).tape, (Only.gr h).output, (Only.gr h).size, fun i hi => (Only.gr h).block i (by omega) (by intro e; injection e with e; omega)⟩
theorem Only.cell {p : Addr} (h : Only g a w) (hp : p.block < a.heap.size) (hne : p.block ≠ g) : w.cell? p = a.cell? p :=
  World.cell?_of_block ((Only.gr h).block p.block hp (by intro e; injection e with e; exact hne e))
end
theorem bcell {W w1 : World} (hb : Below W.heap.size W w1) : (∀ b o, b < W.heap.size → w1.cell? ⟨b, o, none⟩ = W.cell? ⟨b, o, none⟩) ∧ (∀ b o, b < W.heap.size → w1.frozen? ⟨b, o, none⟩ = W.frozen? ⟨b, o, none⟩) :=
  ⟨fun b o h => hb.cell (p := ⟨b, o, none⟩) h, fun b o h => hb.frozen (p := ⟨b, o, none⟩) h⟩
theorem bthen {w A B : World} (h : Below w.heap.size w A) (hb : Below A.heap.size A B) : Below w.heap.size w B := h.trans (hb.mono h.size)
theorem bdrewN {B : Nat} {w A : World} (h : Below B w A) (n : Nat) : Below B w (A.drewN n) := ⟨h.os, h.tape, h.output, h.size, h.block⟩
end Go.Proofs.YtabmalnandbocaaGreatDoor.Mem
namespace Go.Proofs.YtabmalnandbocaaGreatDoor.Own
set_option exponentiation.threshold 3000
set_option linter.unusedVariables false
set_option linter.unusedSimpArgs false
open Go.RowKit Go.Proofs.YtabmalnandbocaaGreatDoor.Mem
section
variable {w w' : World} {base : Nat} {e : TypeId} {size : Nat} {v : Value} {n : Nat} {xs : List Value}
theorem own_form (h : w.ownsRow base e size v n xs) : ∃ p cap, v = .slice p n cap := by
  rcases h.2 with ⟨rfl, rfl⟩ | ⟨g, cap, cur, rfl, -⟩
  · exact ⟨_, _, rfl⟩
  · exact ⟨_, _, rfl⟩
theorem grown_below (hb : Below w.heap.size w w') : w.grownBy w' none := ⟨hb.os, hb.tape, hb.output, hb.size, fun k hk _ => hb.block k hk⟩
theorem own_below (h : w.ownsRow base e size v n xs) (hb : Below w.heap.size w w') : w'.ownsRow base e size v n xs :=
  h.kept (row := none) (grown_below hb) (by cases v.ownBlock <;> simp)
theorem own_only {g : Nat} (h : w.ownsRow base e size v n xs) (hb : Only g w w') (hg : g < base) : w'.ownsRow base e size v n xs :=
  h.kept hb (.inr fun he => by have := (h.lt g he).1; omega)
/-- A row's cells, where it is not empty. -/
theorem own_cells {p : Option Addr} {cap : Nat} (h : w.ownsRow base e 1 (.slice p n cap) n xs) (hn : 0 < n) : ∃ g, p = some ⟨g, 0, none⟩ ∧ base ≤ g ∧ g < w.heap.size ∧ ∀ j u, xs[j]? = some u → w.cell? ⟨g, j, none⟩ = some u := by
  rcases h.2 with ⟨hv, rfl⟩ | ⟨g, cap', cur, hv, hb, hg, -⟩
  · omega
  · obtain ⟨rfl, -, -⟩ : p = some ⟨g, 0, none⟩ ∧ True ∧ True := by cases hv; exact ⟨rfl, trivial, trivial⟩
    refine ⟨g, rfl, hb, (Array.getElem?_eq_some_iff.1 hg).1, fun j u hu => ?_⟩
    have := h.cells (g := g) rfl j u hu
    rwa [show (⟨g, 0, none⟩ : Addr).add j = ⟨g, j, none⟩ by unfold Addr.add; split <;> simp_all] at this
end
end Go.Proofs.YtabmalnandbocaaGreatDoor.Own
namespace Go.Proofs.YtabmalnandbocaaGreatDoor.Big
set_option exponentiation.threshold 3000
set_option linter.unusedVariables false
/-- What digits of a base are, the least first. -/
def val (b : Nat) : List Nat → Nat
  | [] => 0
  | x :: xs => x + b * val b xs
def Dig (b : Nat) (l : List Nat) : Prop := ∀ x ∈ l, x < b
/-- The digits of a number, the least first, without a nought at the end. -/
def digs (b n : Nat) : List Nat := if h : n = 0 ∨ b < 2 then [] else n % b :: digs b (n / b)
termination_by n
decreasing_by exact Nat.div_lt_self (by omega) (by omega)
section
variable {b : Nat}
theorem Dig.tail {x : Nat} {l : List Nat} (h : Dig b (x :: l)) : Dig b l := fun y hy => h y (List.mem_cons_of_mem _ hy)
theorem Dig.head {x : Nat} {l : List Nat} (h : Dig b (x :: l)) : x < b := h x (List.mem_cons_self ..)
theorem Dig.take {l : List Nat} (h : Dig b l) (k : Nat) : Dig b (l.take k) := fun y hy => h y (List.mem_of_mem_take hy)
theorem Dig.drop {l : List Nat} (h : Dig b l) (k : Nat) : Dig b (l.drop k) := fun y hy => h y (List.mem_of_mem_drop hy)
theorem Dig.append {l m : List Nat} (h : Dig b l) (k : Dig b m) : Dig b (l ++ m) := fun y hy => by
  rcases List.mem_append.1 hy with h1 | h1
  · exact h y h1
  · exact k y h1
theorem Dig.nil : Dig b [] := fun y hy => by cases hy
theorem Dig.one {x : Nat} (h : x < b) : Dig b [x] := fun y hy => by rw [List.mem_singleton.1 hy]; exact h
theorem Dig.getD {l : List Nat} (h : Dig b l) (hb : 0 < b) (k : Nat) : l.getD k 0 < b := by
  rw [List.getD_eq_getElem?_getD]
  by_cases hk : k < l.length
  · rw [List.getElem?_eq_getElem hk]; exact h _ (List.getElem_mem hk)
  · rw [List.getElem?_eq_none (by omega)]; exact hb
theorem val_append (a c : List Nat) : val b (a ++ c) = val b a + b ^ a.length * val b c := by
  induction a with
  | nil => simp [val]
  | cons x xs ih => simp only [List.cons_append, val, ih, List.length_cons, Nat.pow_succ]; grind
theorem step_lt {x v p : Nat} (h1 : x < b) (h2 : v < p) : x + b * v < p * b := by
  have h3 : b * (v + 1) ≤ b * p := Nat.mul_le_mul_left b h2
  rw [Nat.mul_add] at h3
  rw [Nat.mul_comm p b]
  omega
theorem val_lt {l : List Nat} (h : Dig b l) : val b l < b ^ l.length := by
  induction l with
  | nil => simp [val]
  | cons x xs ih =>
    have h1 := h.head
    have h2 := ih h.tail
    simp only [val, List.length_cons, Nat.pow_succ]
    exact step_lt h1 h2
theorem val_getD {l : List Nat} (h : Dig b l) (i : Nat) : l.getD i 0 = val b l / b ^ i % b := by
  induction l generalizing i with
  | nil => simp [val]
  | cons x xs ih =>
    have h1 := h.head
    cases i with
    | zero => simp [val]; rw [Nat.mod_eq_of_lt h1]
    | succ i =>
      simp only [List.getD_cons_succ]
      rw [ih h.tail i, Nat.pow_succ, Nat.mul_comm (_ ^ i), ← Nat.div_div_eq_div_mul]
      congr 2
      simp only [val]
      rw [Nat.add_mul_div_left _ _ (by omega), Nat.div_eq_of_lt h1, Nat.zero_add]
theorem digs_zero : digs b 0 = [] := by rw [digs]; simp
theorem digs_pos (hb : 2 ≤ b) {n : Nat} (h : n ≠ 0) : digs b n = n % b :: digs b (n / b) := by rw [digs, dif_neg (by omega)]
theorem digs_val (hb : 2 ≤ b) (n : Nat) : val b (digs b n) = n := by
  induction n using Nat.strongRecOn with
  | ind n ih =>
    by_cases h : n = 0
    · subst h; rw [digs_zero]; rfl
    · rw [digs_pos hb h]; simp only [val]; rw [ih _ (Nat.div_lt_self (by omega) hb)]; exact Nat.mod_add_div n b
theorem digs_dig (hb : 2 ≤ b) (n : Nat) : Dig b (digs b n) := by
  induction n using Nat.strongRecOn with
  | ind n ih =>
    by_cases h : n = 0
    · subst h; rw [digs_zero]; exact Dig.nil
    · rw [digs_pos hb h]; intro x hx
      rcases List.mem_cons.1 hx with rfl | hx
      · exact Nat.mod_lt _ (by omega)
      · exact ih _ (Nat.div_lt_self (by omega) hb) x hx
theorem digs_getD (hb : 2 ≤ b) (n i : Nat) : (digs b n).getD i 0 = n / b ^ i % b := by rw [val_getD (digs_dig hb n), digs_val hb]
theorem digs_lt (hb : 2 ≤ b) (n : Nat) : n < b ^ (digs b n).length := by have := val_lt (digs_dig hb n); rwa [digs_val hb] at this
theorem digs_ge (hb : 2 ≤ b) {n : Nat} (h : n ≠ 0) : b ^ ((digs b n).length - 1) ≤ n := by
  induction n using Nat.strongRecOn with
  | ind n ih =>
    rw [digs_pos hb h]
    by_cases h2 : n / b = 0
    · rw [h2, digs_zero]; simp; omega
    · have := ih (n / b) (Nat.div_lt_self (by omega) hb) h2
      have hl : 0 < (digs b (n / b)).length := by rw [digs_pos hb h2]; simp
      simp only [List.length_cons, Nat.add_sub_cancel]
      obtain ⟨k, hk⟩ : ∃ k, (digs b (n / b)).length = k + 1 := ⟨_, (Nat.sub_add_cancel hl).symm⟩
      rw [hk] at this ⊢
      simp only [Nat.add_sub_cancel] at this
      rw [Nat.pow_succ]
      exact (Nat.le_div_iff_mul_le (by omega)).1 this
theorem digs_len_le (hb : 2 ≤ b) {n k : Nat} (h : n < b ^ k) : (digs b n).length ≤ k := by
  by_cases h0 : n = 0
  · subst h0; rw [digs_zero]; simp
  · have h1 := digs_ge hb h0
    rcases Nat.lt_or_ge k (digs b n).length with hlt | hge
    · have h2 : b ^ k ≤ b ^ ((digs b n).length - 1) := Nat.pow_le_pow_right (by omega) (by omega)
      omega
    · exact hge
theorem digs_len_eq (hb : 2 ≤ b) {n k : Nat} (h0 : b ^ k ≤ n) (h : n < b ^ (k + 1)) : (digs b n).length = k + 1 := by
  have h1 := digs_len_le hb h
  rcases Nat.lt_or_ge (digs b n).length (k + 1) with hlt | hge
  · have h2 := digs_lt hb n
    have h3 : b ^ (digs b n).length ≤ b ^ k := Nat.pow_le_pow_right (by omega) (by omega)
    omega
  · omega
theorem digs_pos_len (hb : 2 ≤ b) {n : Nat} (h : n ≠ 0) : 0 < (digs b n).length := by rw [digs_pos hb h]; simp
theorem digs_len_zero (hb : 2 ≤ b) {n : Nat} : (digs b n).length = 0 ↔ n = 0 := by
  constructor
  · intro h; apply Classical.byContradiction; intro h0; have := digs_pos_len hb h0; omega
  · rintro rfl; rw [digs_zero]; rfl
theorem digs_top (hb : 2 ≤ b) {n : Nat} (h : n ≠ 0) : (digs b n).getD ((digs b n).length - 1) 0 ≠ 0 := by
  rw [digs_getD hb]
  have h1 := digs_ge hb h
  have h2 := digs_lt hb n
  have h3 := digs_pos_len hb h
  have h5 : 0 < b ^ ((digs b n).length - 1) := Nat.pow_pos (by omega)
  have h4 : n / b ^ ((digs b n).length - 1) < b := by
    rw [Nat.div_lt_iff_lt_mul h5, ← Nat.pow_succ', Nat.succ_eq_add_one, show (digs b n).length - 1 + 1 = (digs b n).length by omega]
    exact h2
  rw [Nat.mod_eq_of_lt h4]
  have := (Nat.le_div_iff_mul_le (y := n) (x := 1) h5).2 (by omega)
  omega
theorem digs_mono_len (hb : 2 ≤ b) {m n : Nat} (h : (digs b m).length < (digs b n).length) : m < n := by
  have h1 := digs_lt hb m
  have hn : n ≠ 0 := by rintro rfl; rw [digs_zero] at h; simp at h
  have h2 := digs_ge hb hn
  have h3 : b ^ (digs b m).length ≤ b ^ ((digs b n).length - 1) := Nat.pow_le_pow_right (by omega) (by omega)
  omega
theorem ext_getD {l m : List Nat} (h : l.length = m.length) (h2 : ∀ i, i < l.length → l.getD i 0 = m.getD i 0) : l = m := by
  apply List.ext_getElem h
  intro i hi hj
  have := h2 i hi
  rwa [List.getD_eq_getElem?_getD, List.getD_eq_getElem?_getD, List.getElem?_eq_getElem hi, List.getElem?_eq_getElem hj] at this
/-- A list of digits ends with the number's own ones and noughts. -/
theorem digs_take (hb : 2 ≤ b) {l : List Nat} (h : Dig b l) : l.take (digs b (val b l)).length = digs b (val b l) := by
  have hle : (digs b (val b l)).length ≤ l.length := digs_len_le hb (val_lt h)
  refine ext_getD (by simp; omega) (fun i hi => ?_)
  rw [digs_getD hb, ← val_getD h, List.getD_eq_getElem?_getD, List.getD_eq_getElem?_getD, List.getElem?_take]
  rw [if_pos (by simp at hi; omega)]
theorem val_small {l : List Nat} {k : Nat} (h : Dig b l) (hb : 0 < b) (hz : ∀ i, k ≤ i → l.getD i 0 = 0) : val b l < b ^ k := by
  induction l generalizing k with
  | nil => simp [val]; exact Nat.pow_pos hb
  | cons x xs ih =>
    have h1 := h.head
    cases k with
    | zero =>
      have hx := hz 0 (by omega)
      simp at hx
      have := ih (k := 0) h.tail (fun i hi => by have := hz (i + 1) (by omega); simpa using this)
      simp only [val]; simp at this; simp [hx, this]
    | succ k =>
      have := ih (k := k) h.tail (fun i hi => by have := hz (i + 1) (by omega); simpa using this)
      simp only [val, Nat.pow_succ]; exact step_lt h1 this
theorem val_big {l : List Nat} {k : Nat} (h : Dig b l) (hk : l.getD k 0 ≠ 0) : b ^ k ≤ val b l := by
  rw [val_getD h] at hk
  rcases Nat.lt_or_ge (val b l) (b ^ k) with hlt | hge
  · rw [Nat.div_eq_of_lt hlt] at hk; simp at hk
  · exact hge
theorem trim_len {l : List Nat} {k : Nat} (hb : 2 ≤ b) (h : Dig b l) (hz : ∀ i, k ≤ i → l.getD i 0 = 0) (hk : k = 0 ∨ l.getD (k - 1) 0 ≠ 0) : k = (digs b (val b l)).length := by
  have h1 := val_small h (by omega) hz
  rcases Nat.eq_zero_or_pos k with rfl | hp
  · have : val b l = 0 := by simp at h1; exact h1
    rw [this, digs_zero]; rfl
  · have h2 := val_big h (hk.resolve_left (by omega))
    obtain ⟨j, rfl⟩ : ∃ j, k = j + 1 := ⟨k - 1, by omega⟩
    exact (digs_len_eq hb h2 h1).symm
/-- A list whose last digit is no nought is the number's own. -/
theorem digs_of {l : List Nat} (hb : 2 ≤ b) (h : Dig b l) (hk : l = [] ∨ l.getD (l.length - 1) 0 ≠ 0) : digs b (val b l) = l := by
  have h1 := trim_len hb h (k := l.length) (fun i hi => by rw [List.getD_eq_getElem?_getD, List.getElem?_eq_none hi]; rfl) (by
    rcases hk with rfl | hk
    · exact .inl rfl
    · exact .inr hk)
  have := digs_take hb h
  rwa [← h1, List.take_length, eq_comm] at this
theorem val_take_succ (l : List Nat) (i : Nat) : val b (l.take (i + 1)) = val b (l.take i) + b ^ i * l.getD i 0 := by
  by_cases hi : i < l.length
  · rw [List.take_succ_eq_append_getElem hi, val_append, List.getD_eq_getElem?_getD, List.getElem?_eq_getElem hi, List.length_take, Nat.min_eq_left (by omega)]
    simp [val]
  · rw [List.take_of_length_le (by omega), List.take_of_length_le (by omega), List.getD_eq_getElem?_getD, List.getElem?_eq_none (by omega)]
    simp
theorem val_split (l : List Nat) (i : Nat) (h : i ≤ l.length) : val b l = val b (l.take i) + b ^ i * val b (l.drop i) := by
  conv => lhs; rw [← List.take_append_drop i l]
  rw [val_append, List.length_take, Nat.min_eq_left h]
theorem val_drop {l : List Nat} (i : Nat) (h : i < l.length) : val b (l.drop i) = l.getD i 0 + b * val b (l.drop (i + 1)) := by
  rw [List.drop_eq_getElem_cons h, List.getD_eq_getElem?_getD, List.getElem?_eq_getElem h]; rfl
theorem val_drop_div {l : List Nat} (h : Dig b l) (hb : 0 < b) (i : Nat) (hi : i ≤ l.length) : val b (l.drop i) = val b l / b ^ i := by
  have h1 := val_split (b := b) l i hi
  have h2 := val_lt (h.take i)
  rw [List.length_take, Nat.min_eq_left hi] at h2
  rw [h1, Nat.add_mul_div_left _ _ (Nat.pow_pos hb), Nat.div_eq_of_lt h2, Nat.zero_add]
theorem val_zeros (n : Nat) : val b (List.replicate n 0) = 0 := by
  induction n with
  | zero => rfl
  | succ n ih => simp only [List.replicate_succ, val, ih, Nat.mul_zero]
theorem dig_zeros (hb : 0 < b) (n : Nat) : Dig b (List.replicate n 0) := fun x hx => by rw [List.eq_of_mem_replicate hx]; exact hb
theorem Dig.set {l : List Nat} (h : Dig b l) (i x : Nat) (hx : x < b) : Dig b (l.set i x) := fun y hy => by
  rcases List.mem_or_eq_of_mem_set hy with h1 | h1
  · exact h y h1
  · omega
theorem val_set (l : List Nat) (i x : Nat) (hi : i < l.length) : val b (l.set i x) + b ^ i * l.getD i 0 = val b l + b ^ i * x := by
  induction l generalizing i with
  | nil => simp at hi
  | cons y ys ih =>
    cases i with
    | zero => simp [val]; omega
    | succ i =>
      have := ih i (by simpa using hi)
      simp only [List.set_cons_succ, val, List.getD_cons_succ, Nat.pow_succ]
      grind
theorem getD_set (l : List Nat) (i j x : Nat) : (l.set i x).getD j 0 = if i = j ∧ i < l.length then x else l.getD j 0 := by
  rw [List.getD_eq_getElem?_getD, List.getD_eq_getElem?_getD, List.getElem?_set]
  by_cases h : i = j
  · subst h
    by_cases h2 : i < l.length
    · simp [h2]
    · simp [h2]
  · simp [h]
theorem getD_zeros (n i : Nat) : (List.replicate n (0 : Nat)).getD i 0 = 0 := by
  rw [List.getD_eq_getElem?_getD, List.getElem?_replicate]; split <;> rfl
theorem digs_inj (hb : 2 ≤ b) {m n : Nat} (h : digs b m = digs b n) : m = n := by rw [← digs_val hb m, h, digs_val hb]
/-- Equal above a place, less at it: less. -/
theorem val_less {l m : List Nat} (hl : Dig b l) (hm : Dig b m) (hb : 0 < b) {i : Nat} (h1 : i < l.length) (h2 : i < m.length) (he : val b (l.drop (i + 1)) = val b (m.drop (i + 1))) (h : l.getD i 0 < m.getD i 0) : val b l < val b m := by
  have e1 := val_split (b := b) l i (by omega)
  have e2 := val_split (b := b) m i (by omega)
  have a1 := val_lt (hl.take i)
  rw [List.length_take, Nat.min_eq_left (by omega)] at a1
  rw [val_drop i h1] at e1
  rw [val_drop i h2, ← he] at e2
  rw [e1, e2]
  generalize b * val b (l.drop (i + 1)) = X at *
  have h3 : b ^ i * (l.getD i 0 + 1) ≤ b ^ i * m.getD i 0 := Nat.mul_le_mul_left _ h
  rw [Nat.mul_add, Nat.mul_add]
  rw [Nat.mul_add] at h3
  omega
end
end Go.Proofs.YtabmalnandbocaaGreatDoor.Big
namespace Go.Proofs.YtabmalnandbocaaGreatDoor.Big
set_option exponentiation.threshold 3000
set_option linter.unusedVariables false
theorem q_est {b P T V U U3 q g : Nat} (hV1 : T * P ≤ V) (hV2 : V < (T + 1) * P) (hU1 : U3 * P ≤ U) (hU2 : U < (U3 + 1) * P) (hUV : U < V * b) (hT : b ≤ T) (hP : 0 < P) (hb : 0 < b)
    (hg1 : g + 1 ≤ b) (hg2 : g * T ≤ U3) (hg3 : g + 1 = b ∨ U3 < (g + 1) * T) (hq : q = U / V) : q ≤ g ∧ g ≤ q + 1 := by
  have hV : 0 < V := Nat.lt_of_lt_of_le (Nat.mul_pos (by omega) hP) hV1
  have hqV : q * V ≤ U := by rw [hq]; exact Nat.div_mul_le_self _ _
  have hqB : q < b := by rw [hq]; exact (Nat.div_lt_iff_lt_mul hV).2 (by rw [Nat.mul_comm]; exact hUV)
  constructor
  · rcases hg3 with h | h
    · omega
    · apply Classical.byContradiction
      intro hlt
      have h1 : (g + 1) * T ≤ q * T := Nat.mul_le_mul_right T (by omega)
      have h2 : q * (T * P) ≤ q * V := Nat.mul_le_mul_left q hV1
      have h3 : (q * T) * P < (U3 + 1) * P := by rw [Nat.mul_assoc]; omega
      have h4 : q * T < U3 + 1 := Nat.lt_of_mul_lt_mul_right h3
      omega
  · rcases Nat.eq_zero_or_pos g with rfl | hpos
    · omega
    · obtain ⟨k, rfl⟩ : ∃ k, g = k + 1 := ⟨g - 1, by omega⟩
      have h1 : k * V ≤ k * ((T + 1) * P) := Nat.mul_le_mul_left k (by omega)
      have h2 : k * (T + 1) ≤ (k + 1) * T := by rw [Nat.mul_add, Nat.add_mul]; omega
      have h3 : k * (T + 1) * P ≤ U3 * P := Nat.mul_le_mul_right P (by omega)
      have h4 : k * V ≤ U := by rw [Nat.mul_assoc] at h3; omega
      have h5 : k ≤ q := by rw [hq]; exact (Nat.le_div_iff_mul_le hV).2 h4
      omega
/-- The guess's loop: what holds at its head. -/
structure Guess (b top next u2 u1 u0 g r : Nat) : Prop where
  sum : g * top + r = u2 * b + u1
  low : r < b
  up : g ≤ b + 1
  least : b ≤ g + 1 ∨ u2 * b * b + u1 * b + u0 < (g + 1) * (top * b + next)
theorem guess_start {b top next u2 u1 u0 : Nat} (h0 : b ≤ 2 * top) (h1 : top < b) (h2 : u2 ≤ top) (h3 : u1 < b) (h4 : u0 < b) :
    Guess b top next u2 u1 u0 ((u2 * b + u1) / top) ((u2 * b + u1) % top) := by
  have hd := Nat.div_add_mod (u2 * b + u1) top
  have hm := Nat.mod_lt (u2 * b + u1) (y := top) (by omega)
  generalize (u2 * b + u1) / top = g at *
  generalize (u2 * b + u1) % top = r at *
  have hs : g * top + r = u2 * b + u1 := by rw [Nat.mul_comm]; exact hd
  have hu : u2 * b ≤ top * b := Nat.mul_le_mul_right _ h2
  have hup : g ≤ b + 1 := by
    apply Classical.byContradiction
    intro h
    have h5 : (b + 2) * top ≤ g * top := Nat.mul_le_mul_right _ (by omega)
    rw [Nat.add_mul, Nat.mul_comm b top] at h5
    omega
  refine ⟨hs, by omega, hup, .inr ?_⟩
  have h5 : u2 * b + u1 < (g + 1) * top := by rw [Nat.add_mul]; omega
  have h6 : (u2 * b + u1 + 1) * b ≤ (g + 1) * top * b := Nat.mul_le_mul_right _ h5
  have h7 : (g + 1) * (top * b + next) = (g + 1) * top * b + (g + 1) * next := by rw [Nat.mul_add, Nat.mul_assoc]
  rw [h7]
  rw [Nat.add_mul, Nat.add_mul] at h6
  omega
theorem guess_next {b top next u2 u1 u0 g r : Nat} (h : Guess b top next u2 u1 u0 g r) (ht : b ≤ g ∨ r * b + u0 < g * next) (h2 : u2 ≤ top) (h3 : u1 < b) (h5 : next < b) (htop : b ≤ 2 * top) :
    0 < g ∧ (r + top < b → Guess b top next u2 u1 u0 (g - 1) (r + top)) ∧
    (b ≤ r + top → g - 1 + 1 ≤ b ∧ (g - 1) * (top * b + next) ≤ u2 * b * b + u1 * b + u0 ∧ (g - 1 + 1 = b ∨ u2 * b * b + u1 * b + u0 < (g - 1 + 1) * (top * b + next))) := by
  obtain ⟨hs, hr, hu, hl⟩ := h
  have hg : 0 < g := by
    rcases ht with h | h
    · omega
    · rcases Nat.eq_zero_or_pos g with rfl | h'
      · simp at h
      · exact h'
  obtain ⟨k, rfl⟩ : ∃ k, g = k + 1 := ⟨g - 1, by omega⟩
  have hs' : k * top + (r + top) = u2 * b + u1 := by rw [Nat.add_mul] at hs; omega
  have hleast : b ≤ k + 1 ∨ u2 * b * b + u1 * b + u0 < (k + 1) * (top * b + next) := by
    rcases ht with h | h
    · left; omega
    · right
      have h7 : (k + 1) * (top * b + next) = (k + 1) * top * b + (k + 1) * next := by rw [Nat.mul_add, Nat.mul_assoc]
      have h8 : ((k + 1) * top + r) * b = (u2 * b + u1) * b := by rw [hs]
      rw [Nat.add_mul ((k + 1) * top), Nat.add_mul (u2 * b)] at h8
      omega
  refine ⟨by omega, fun hlt => ⟨hs', hlt, by omega, ?_⟩, fun hge => ?_⟩
  · simpa using hleast
  · have hu2 : u2 * b ≤ top * b := Nat.mul_le_mul_right _ h2
    have hk : k + 1 ≤ b := by
      apply Classical.byContradiction
      intro h
      have h9 : b * top ≤ k * top := Nat.mul_le_mul_right _ (by omega)
      rw [Nat.mul_comm] at h9
      omega
    refine ⟨by simpa using hk, ?_, ?_⟩
    · simp only [Nat.add_sub_cancel]
      have h7 : k * (top * b + next) = k * top * b + k * next := by rw [Nat.mul_add, Nat.mul_assoc]
      have h9 : k * next ≤ b * b := Nat.mul_le_mul (by omega) (by omega)
      have h8 : (k * top + (r + top)) * b = (u2 * b + u1) * b := by rw [hs']
      have h10 : b * b ≤ (r + top) * b := Nat.mul_le_mul_right _ hge
      rw [Nat.add_mul (k * top), Nat.add_mul (u2 * b)] at h8
      omega
    · simp only [Nat.add_sub_cancel]
      rcases hleast with h | h
      · left; omega
      · right; exact h
theorem guess_end {b top next u2 u1 u0 g r : Nat} (h : Guess b top next u2 u1 u0 g r) (h1 : g + 1 ≤ b) (h2 : g * next ≤ r * b + u0) :
    g + 1 ≤ b ∧ g * (top * b + next) ≤ u2 * b * b + u1 * b + u0 ∧ (g + 1 = b ∨ u2 * b * b + u1 * b + u0 < (g + 1) * (top * b + next)) := by
  obtain ⟨hs, hr, hu, hl⟩ := h
  refine ⟨h1, ?_, ?_⟩
  · have h7 : g * (top * b + next) = g * top * b + g * next := by rw [Nat.mul_add, Nat.mul_assoc]
    have h8 : (g * top + r) * b = (u2 * b + u1) * b := by rw [hs]
    rw [Nat.add_mul, Nat.add_mul] at h8
    omega
  · rcases hl with h | h
    · left; omega
    · right; exact h
end Go.Proofs.YtabmalnandbocaaGreatDoor.Big
namespace Go.Proofs.YtabmalnandbocaaGreatDoor.Rung
set_option exponentiation.threshold 3000
set_option linter.unusedVariables false
/-- The floats are counted from nought on: the whole number of a rung, and the power of two by which it is taken (in units of the least step). -/
def mant (b n : Nat) : Nat := if n < 2 ^ b then n else 2 ^ b + n % 2 ^ b
def expo (b n : Nat) : Nat := n / 2 ^ b - 1
/-- The worth of a rung in units of the least step. -/
def W (b n : Nat) : Nat := mant b n * 2 ^ expo b n
/-- Twice the middle between a rung and the next one. -/
def mid2 (b n : Nat) : Nat := (2 * mant b n + 1) * 2 ^ expo b n
theorem two_pow (b : Nat) : 0 < 2 ^ b := Nat.pow_pos (by decide)
theorem mant_lt (b n : Nat) : mant b n < 2 ^ (b + 1) := by
  unfold mant
  have := two_pow b
  have := Nat.mod_lt n this
  rw [Nat.pow_succ]
  split <;> omega
theorem mant_ge {b n : Nat} (h : 2 ^ b ≤ n) : 2 ^ b ≤ mant b n := by
  unfold mant; rw [if_neg (by omega)]; omega
/-- The rung of a whole number by a power of two. -/
theorem parts_low {b q : Nat} (h : q < 2 ^ b) : mant b q = q ∧ expo b q = 0 := by
  unfold mant expo
  rw [if_pos h, Nat.div_eq_of_lt h]
  exact ⟨rfl, rfl⟩
theorem parts_of {b q e : Nat} (h1 : 2 ^ b ≤ q ∨ e = 0) (h2 : q < 2 ^ (b + 1)) : mant b (e * 2 ^ b + q) = q ∧ expo b (e * 2 ^ b + q) = e := by
  have hp := two_pow b
  rw [Nat.pow_succ] at h2
  by_cases hq : q < 2 ^ b
  · obtain rfl : e = 0 := by omega
    simpa using parts_low hq
  · obtain ⟨k, rfl⟩ : ∃ k, q = 2 ^ b + k := ⟨q - 2 ^ b, by omega⟩
    have e1 : e * 2 ^ b + (2 ^ b + k) = (e + 1) * 2 ^ b + k := by rw [Nat.add_mul]; omega
    have hk : k < 2 ^ b := by omega
    have hge : 2 ^ b ≤ (e + 1) * 2 ^ b + k := by rw [Nat.add_mul]; omega
    unfold mant expo
    rw [e1, if_neg (by omega), Nat.add_comm ((e + 1) * 2 ^ b) k, Nat.add_mul_mod_self_right, Nat.add_mul_div_right _ _ hp, Nat.mod_eq_of_lt hk, Nat.div_eq_of_lt hk]
    exact ⟨rfl, by omega⟩
/-- Each rung is that of its parts. -/
theorem of_parts (b n : Nat) : n = expo b n * 2 ^ b + mant b n ∧ (2 ^ b ≤ mant b n ∨ expo b n = 0) := by
  have hp := two_pow b
  by_cases h : n < 2 ^ b
  · obtain ⟨h1, h2⟩ := parts_low h
    rw [h1, h2]; exact ⟨by omega, .inr rfl⟩
  · have hd := Nat.div_add_mod n (2 ^ b)
    have h1 : 1 ≤ n / 2 ^ b := (Nat.le_div_iff_mul_le hp).2 (by omega)
    refine ⟨?_, .inl (mant_ge (by omega))⟩
    unfold mant expo
    rw [if_neg h]
    obtain ⟨k, hk⟩ : ∃ k, n / 2 ^ b = k + 1 := ⟨n / 2 ^ b - 1, by omega⟩
    rw [hk] at hd ⊢
    rw [Nat.mul_add, Nat.mul_comm (2 ^ b) k] at hd
    simp only [Nat.add_sub_cancel]
    omega
theorem W_succ (b n : Nat) : W b (n + 1) = (mant b n + 1) * 2 ^ expo b n := by
  have hp := two_pow b
  obtain ⟨h1, h2⟩ := of_parts b n
  have h3 := mant_lt b n
  generalize hq : mant b n = q at *
  generalize he : expo b n = e at *
  unfold W
  by_cases hq : q + 1 < 2 ^ (b + 1)
  · obtain ⟨g1, g2⟩ := parts_of (b := b) (q := q + 1) (e := e) (by omega) hq
    have : n + 1 = e * 2 ^ b + (q + 1) := by omega
    rw [this, g1, g2]
  · have hq2 : q + 1 = 2 * 2 ^ b := by rw [Nat.pow_succ] at h3 hq; omega
    have : n + 1 = (e + 1) * 2 ^ b + 2 ^ b := by rw [Nat.add_mul]; omega
    obtain ⟨g1, g2⟩ := parts_of (b := b) (q := 2 ^ b) (e := e + 1) (.inl (Nat.le_refl _)) (by rw [Nat.pow_succ]; omega)
    rw [this, g1, g2, hq2, Nat.pow_succ]
    grind
theorem W_lt_succ (b n : Nat) : W b n < W b (n + 1) := by
  rw [W_succ]; unfold W
  rw [Nat.add_mul]
  have := two_pow (expo b n)
  omega
theorem W_lt {b n m : Nat} (h : n < m) : W b n < W b m := by
  induction m with
  | zero => omega
  | succ m ih =>
    have := W_lt_succ b m
    rcases Nat.lt_or_ge n m with h1 | h1
    · have := ih h1; omega
    · obtain rfl : n = m := by omega
      exact this
theorem W_le {b n m : Nat} (h : n ≤ m) : W b n ≤ W b m := by
  rcases Nat.eq_or_lt_of_le h with rfl | h
  · exact Nat.le_refl _
  · exact Nat.le_of_lt (W_lt h)
theorem mid2_eq (b n : Nat) : mid2 b n = W b n + W b (n + 1) := by
  rw [W_succ]; unfold W mid2; grind
theorem mid2_lt {b n m : Nat} (h : n < m) : mid2 b n < mid2 b m := by
  rw [mid2_eq, mid2_eq]
  have h1 := W_lt (b := b) h
  have h2 := W_lt (b := b) (show n + 1 < m + 1 by omega)
  omega
theorem mid2_low {b n m : Nat} (h : n < m) : mid2 b n < 2 * W b m := by
  rw [mid2_eq]
  have h1 := W_lt (b := b) h
  have h2 := W_le (b := b) (show n + 1 ≤ m by omega)
  omega
theorem mid2_high {b n m : Nat} (h : m < n) : 2 * W b (m + 1) < mid2 b n := by
  rw [mid2_eq]
  have h1 := W_le (b := b) (show m + 1 ≤ n by omega)
  have h2 := W_lt (b := b) (show m + 1 < n + 1 by omega)
  omega
/-- The nearest rung of N / Q (in units of the least step); in the middle the even one. -/
def Near (b N Q R : Nat) : Prop := ∀ n, n < R ↔ (mid2 b n * Q < 2 * N ∨ mid2 b n * Q = 2 * N ∧ n % 2 = 1)
theorem Near.one {b N Q R R' : Nat} (h : Near b N Q R) (h' : Near b N Q R') : R = R' := by
  have h1 := (h R').trans (h' R').symm
  have h2 := (h R).trans (h' R).symm
  omega
/-- The rung below, and what the middle says. -/
def up (b N Q n : Nat) : Nat := if mid2 b n * Q < 2 * N ∨ mid2 b n * Q = 2 * N ∧ n % 2 = 1 then n + 1 else n
theorem near_of {b N Q n : Nat} (hQ : 0 < Q) (h1 : W b n * Q ≤ N) (h2 : N < W b (n + 1) * Q) : Near b N Q (up b N Q n) := by
  intro k
  unfold up
  rcases Nat.lt_trichotomy k n with h | h | h
  · have a := mid2_low (b := b) h
    have a2 : mid2 b k * Q < 2 * W b n * Q := Nat.mul_lt_mul_of_pos_right a hQ
    rw [Nat.mul_assoc] at a2
    constructor
    · intro _; left; omega
    · intro _; split <;> omega
  · subst h
    split
    · rename_i hc
      exact ⟨fun _ => hc, fun _ => by omega⟩
    · rename_i hc
      exact ⟨fun hlt => by omega, fun h => absurd h hc⟩
  · have a := mid2_high (b := b) h
    have a2 : 2 * W b (n + 1) * Q < mid2 b k * Q := Nat.mul_lt_mul_of_pos_right a hQ
    rw [Nat.mul_assoc] at a2
    constructor
    · intro hk; split at hk <;> omega
    · intro hk; omega
theorem near_ge {b N Q R n : Nat} (hQ : 0 < Q) (h : Near b N Q R) (h1 : W b n * Q ≤ N) : n ≤ R := by
  rcases Nat.eq_zero_or_pos n with rfl | hp
  · omega
  · have := (h (n - 1)).2 (.inl ?_)
    · omega
    · have a := mid2_low (b := b) (show n - 1 < n by omega)
      have a2 : mid2 b (n - 1) * Q < 2 * W b n * Q := Nat.mul_lt_mul_of_pos_right a hQ
      rw [Nat.mul_assoc] at a2
      omega
/-- A greater number has no lesser rung. -/
theorem near_mono {b N Q R N' Q' R' : Nat} (hQ : 0 < Q) (hQ' : 0 < Q') (h : Near b N Q R) (h' : Near b N' Q' R') (hle : N * Q' ≤ N' * Q) : R ≤ R' := by
  apply Classical.byContradiction
  intro hlt
  have h1 := (h R').1 (by omega)
  have h2 : ¬ (mid2 b R' * Q' < 2 * N' ∨ mid2 b R' * Q' = 2 * N' ∧ R' % 2 = 1) := fun h3 => absurd ((h' R').2 h3) (by omega)
  have h3 : ¬ (mid2 b R' * Q' < 2 * N') := fun h => h2 (.inl h)
  have h4 : mid2 b R' * Q ≤ 2 * N := by omega
  have h5 : mid2 b R' * Q * Q' ≤ 2 * N * Q' := Nat.mul_le_mul_right _ h4
  have h6 : 2 * N' * Q ≤ mid2 b R' * Q' * Q := Nat.mul_le_mul_right _ (by omega)
  have e1 : mid2 b R' * Q * Q' = mid2 b R' * Q' * Q := by grind
  have e2 : 2 * N * Q' = 2 * (N * Q') := by grind
  have e3 : 2 * N' * Q = 2 * (N' * Q) := by grind
  have e4 : 2 * N' * Q = mid2 b R' * Q' * Q := by omega
  have e5 : mid2 b R' * Q' = 2 * N' := (Nat.eq_of_mul_eq_mul_right hQ e4).symm
  have e6 : mid2 b R' * Q * Q' = 2 * N * Q' := by omega
  have e7 : mid2 b R' * Q = 2 * N := Nat.eq_of_mul_eq_mul_right hQ' e6
  rcases h1 with h1 | h1
  · omega
  · exact h2 (.inr ⟨e5, h1.2⟩)
end Go.Proofs.YtabmalnandbocaaGreatDoor.Rung
namespace Go.Proofs.YtabmalnandbocaaGreatDoor.Rung
set_option exponentiation.threshold 3000
set_option linter.unusedVariables false
/-- How many bits a number has. -/
def blen (n : Nat) : Nat := if n = 0 then 0 else n.log2 + 1
theorem blen_lt (n : Nat) : n < 2 ^ blen n := by
  unfold blen
  split
  · omega
  · exact Nat.lt_log2_self
theorem blen_ge {n : Nat} (h : n ≠ 0) : 2 ^ (blen n - 1) ≤ n := by
  unfold blen
  rw [if_neg h, Nat.add_sub_cancel]
  exact Nat.log2_self_le h
theorem blen_pos {n : Nat} (h : n ≠ 0) : 0 < blen n := by unfold blen; rw [if_neg h]; omega
/-- A fraction by a power of two: the two numbers that are divided. -/
def dNum (num : Nat) (e : Int) : Nat := num * 2 ^ (-e).toNat
def dDen (den : Nat) (e : Int) : Nat := den * 2 ^ e.toNat
def dQ (num den : Nat) (e : Int) : Nat := dNum num e / dDen den e
def dR (num den : Nat) (e : Int) : Nat := dNum num e % dDen den e
theorem dDen_pos {den : Nat} (h : 0 < den) (e : Int) : 0 < dDen den e := Nat.mul_pos h (two_pow _)
theorem d_pow (e : Int) {K : Nat} (h : -(K : Int) ≤ e) : (2 : Nat) ^ (-e).toNat * 2 ^ (e + K).toNat = 2 ^ K * 2 ^ e.toNat := by
  rw [← Nat.pow_add, ← Nat.pow_add]
  congr 1
  omega
/-- The rung that division finds, before it is rounded. -/
def rung (b K : Nat) (q : Nat) (e : Int) : Nat := (e + K).toNat * 2 ^ b + q
theorem rung_near {b K num den q : Nat} {e : Int} (hden : 0 < den) (he : -(K : Int) ≤ e) (hq : q = dQ num den e) (h1 : 2 ^ b ≤ q ∨ e = -(K : Int)) (h2 : q < 2 ^ (b + 1)) (hb : 1 ≤ b) :
    Near b (num * 2 ^ K) den (rung b K (if dDen den e < 2 * dR num den e ∨ dDen den e = 2 * dR num den e ∧ q % 2 = 1 then q + 1 else q) e) := by
  have hp := d_pow e he
  have hdd := dDen_pos hden e
  have hdm := Nat.div_add_mod (dNum num e) (dDen den e)
  have hlt := Nat.mod_lt (dNum num e) hdd
  change dDen den e * dQ num den e + dR num den e = dNum num e at hdm
  change dR num den e < dDen den e at hlt
  rw [← hq] at hdm
  generalize dR num den e = r at *
  obtain ⟨g1, g2⟩ := parts_of (b := b) (q := q) (e := (e + K).toNat) (by omega) h2
  -- all by 2 ^ e.toNat
  have hx : 0 < 2 ^ e.toNat := two_pow _
  have hN : num * 2 ^ K * 2 ^ e.toNat = (dDen den e * q + r) * 2 ^ (e + K).toNat := by
    rw [hdm]; unfold dNum; rw [Nat.mul_assoc, ← hp, Nat.mul_assoc]
  have hD : dDen den e = den * 2 ^ e.toNat := rfl
  have hW : W b (rung b K q e) = q * 2 ^ (e + K).toNat := by unfold W rung; rw [g1, g2]
  have hW1 : W b (rung b K q e + 1) = (q + 1) * 2 ^ (e + K).toNat := by rw [W_succ]; unfold rung; rw [g1, g2]
  have hM : mid2 b (rung b K q e) = (2 * q + 1) * 2 ^ (e + K).toNat := by unfold mid2 rung; rw [g1, g2]
  generalize hy : 2 ^ (e + K).toNat = y at *
  generalize hz : 2 ^ e.toNat = x at *
  have hy0 : 0 < y := by rw [← hy]; exact two_pow _
  have n1 := near_of (b := b) (N := num * 2 ^ K) (Q := den) (n := rung b K q e) hden ?_ ?_
  · have hpar : rung b K q e % 2 = q % 2 := by
      unfold rung
      obtain ⟨c, rfl⟩ : ∃ c, b = c + 1 := ⟨b - 1, by omega⟩
      rw [Nat.pow_succ, ← Nat.mul_assoc, Nat.add_comm, Nat.add_mul_mod_self_right]
    have hcmp : (mid2 b (rung b K q e) * den < 2 * (num * 2 ^ K) ↔ dDen den e < 2 * r) ∧ (mid2 b (rung b K q e) * den = 2 * (num * 2 ^ K) ↔ dDen den e = 2 * r) := by
      have a1 : mid2 b (rung b K q e) * den * x = ((2 * q + 1) * dDen den e) * y := by rw [hM, hD]; grind
      have a2 : 2 * (num * 2 ^ K) * x = (2 * (dDen den e * q + r)) * y := by rw [Nat.mul_assoc, hN]; grind
      constructor
      · constructor
        · intro h
          have h3 := Nat.mul_lt_mul_of_pos_right h hx
          rw [a1, a2] at h3
          have h4 := Nat.lt_of_mul_lt_mul_right h3
          grind
        · intro h
          apply Nat.lt_of_mul_lt_mul_right (a := x)
          rw [a1, a2]
          apply Nat.mul_lt_mul_of_pos_right _ hy0
          grind
      · constructor
        · intro h
          have h3 : mid2 b (rung b K q e) * den * x = 2 * (num * 2 ^ K) * x := by rw [h]
          rw [a1, a2] at h3
          have h4 := Nat.eq_of_mul_eq_mul_right hy0 h3
          grind
        · intro h
          apply Nat.eq_of_mul_eq_mul_right hx
          rw [a1, a2]
          congr 1
          grind
    have e1 : up b (num * 2 ^ K) den (rung b K q e) = rung b K (if dDen den e < 2 * r ∨ dDen den e = 2 * r ∧ q % 2 = 1 then q + 1 else q) e := by
      unfold up
      rw [hpar]
      by_cases hc : dDen den e < 2 * r ∨ dDen den e = 2 * r ∧ q % 2 = 1
      · rw [if_pos hc, if_pos (by rw [hcmp.1, hcmp.2]; exact hc)]
        unfold rung; omega
      · rw [if_neg hc, if_neg (by rw [hcmp.1, hcmp.2]; exact hc)]
    rw [← e1]; exact n1
  · apply Nat.le_of_mul_le_mul_right (c := x) _ hx
    rw [hN, hW]
    have : q * y * den * x = dDen den e * q * y := by rw [hD]; grind
    rw [this]
    exact Nat.mul_le_mul_right _ (by omega)
  · apply Nat.lt_of_mul_lt_mul_right (a := x)
    rw [hN, hW1]
    have : (q + 1) * y * den * x = (dDen den e * q + dDen den e) * y := by rw [hD]; grind
    rw [this]
    exact Nat.mul_lt_mul_of_pos_right (by omega) hy0
/-- The first guess of the power. -/
theorem guess_q {b num den : Nat} {e : Int} (hnum : num ≠ 0) (hden : den ≠ 0) (he : (blen num : Int) - blen den - b ≤ e) : dQ num den e < 2 ^ (b + 1) := by
  have h1 := blen_lt num
  have h2 := blen_ge hden
  have h3 := blen_pos hden
  have h4 := blen_pos hnum
  unfold dQ
  rw [Nat.div_lt_iff_lt_mul (dDen_pos (by omega) e)]
  unfold dNum dDen
  calc num * 2 ^ (-e).toNat < 2 ^ blen num * 2 ^ (-e).toNat := Nat.mul_lt_mul_of_pos_right h1 (two_pow _)
    _ = 2 ^ (blen num + (-e).toNat) := (Nat.pow_add ..).symm
    _ ≤ 2 ^ (b + 1 + (blen den - 1 + e.toNat)) := Nat.pow_le_pow_right (by decide) (by omega)
    _ = 2 ^ (b + 1) * (2 ^ (blen den - 1) * 2 ^ e.toNat) := by rw [Nat.pow_add 2 (b + 1), Nat.pow_add 2 (blen den - 1)]
    _ ≤ 2 ^ (b + 1) * (den * 2 ^ e.toNat) := Nat.mul_le_mul_left _ (Nat.mul_le_mul_right _ h2)
theorem guess_low {b num den : Nat} {e : Int} (hnum : num ≠ 0) (hden : den ≠ 0) (he : e ≤ (blen num : Int) - blen den - b - 1) : 2 ^ b ≤ dQ num den e := by
  have h1 := blen_lt den
  have h2 := blen_ge hnum
  have h3 := blen_pos hden
  have h4 := blen_pos hnum
  unfold dQ
  rw [Nat.le_div_iff_mul_le (dDen_pos (by omega) e)]
  unfold dNum dDen
  calc 2 ^ b * (den * 2 ^ e.toNat) ≤ 2 ^ b * (2 ^ blen den * 2 ^ e.toNat) := Nat.mul_le_mul_left _ (Nat.mul_le_mul_right _ (by omega))
    _ = 2 ^ (b + (blen den + e.toNat)) := by rw [← Nat.pow_add, ← Nat.pow_add]
    _ ≤ 2 ^ (blen num - 1 + (-e).toNat) := Nat.pow_le_pow_right (by decide) (by omega)
    _ = 2 ^ (blen num - 1) * 2 ^ (-e).toNat := Nat.pow_add ..
    _ ≤ num * 2 ^ (-e).toNat := Nat.mul_le_mul_right _ h2
/-- The power that the program takes. -/
def pow0 (b K num den : Nat) : Int := max ((blen num : Int) - blen den - b) (-(K : Int))
def pow1 (b K num den : Nat) : Int := if dQ num den (pow0 b K num den) < 2 ^ b ∧ -(K : Int) < pow0 b K num den then pow0 b K num den - 1 else pow0 b K num den
theorem pow1_ok {b K num den : Nat} (hnum : num ≠ 0) (hden : den ≠ 0) :
    -(K : Int) ≤ pow1 b K num den ∧ (2 ^ b ≤ dQ num den (pow1 b K num den) ∨ pow1 b K num den = -(K : Int)) ∧ dQ num den (pow1 b K num den) < 2 ^ (b + 1) := by
  unfold pow1
  by_cases h : dQ num den (pow0 b K num den) < 2 ^ b ∧ -(K : Int) < pow0 b K num den
  · rw [if_pos h]
    have he : pow0 b K num den = (blen num : Int) - blen den - b := by unfold pow0 at *; omega
    refine ⟨by omega, .inl (guess_low hnum hden (by omega)), ?_⟩
    have h1 : dQ num den (pow0 b K num den - 1) ≤ 2 * dQ num den (pow0 b K num den) + 1 := by
      generalize pow0 b K num den = e
      have hd : 0 < den := by omega
      have p0 := dDen_pos hd e
      unfold dQ
      apply Nat.le_of_lt_succ
      rw [Nat.div_lt_iff_lt_mul (dDen_pos hd _)]
      have hlt := Nat.lt_div_mul_add (a := dNum num e) p0
      generalize dNum num e / dDen den e = q at *
      by_cases he : e ≤ 0
      · have e1 : dNum num (e - 1) = dNum num e * 2 := by unfold dNum; rw [Nat.mul_assoc, ← Nat.pow_succ]; congr 2; omega
        have e2 : dDen den (e - 1) = dDen den e := by unfold dDen; congr 2; omega
        rw [e1, e2]
        generalize dDen den e = D at *
        generalize dNum num e = N at *
        grind
      · have e1 : dNum num (e - 1) = dNum num e := by unfold dNum; congr 2; omega
        have e2 : dDen den e = dDen den (e - 1) * 2 := by unfold dDen; rw [Nat.mul_assoc, ← Nat.pow_succ]; congr 2; omega
        rw [e1]
        rw [e2] at hlt
        generalize dDen den (e - 1) = D at *
        generalize dNum num e = N at *
        grind
    have := h.1
    rw [Nat.pow_succ]; omega
  · rw [if_neg h]
    refine ⟨by unfold pow0; omega, ?_, guess_q hnum hden (by unfold pow0; omega)⟩
    by_cases h2 : -(K : Int) < pow0 b K num den
    · exact .inl (by omega)
    · right
      have : -(K : Int) ≤ pow0 b K num den := by unfold pow0; omega
      omega
theorem blen_zero : blen 0 = 0 := rfl
theorem blen_top {x k t : Nat} (h : x / 2 ^ k = t) (h0 : t ≠ 0) : blen x = blen t + k := by
  have hp : 0 < 2 ^ k := Nat.pow_pos (by decide)
  have h1 := Nat.log2_self_le h0
  have h2 := Nat.lt_log2_self (n := t)
  have hd := Nat.div_add_mod x (2 ^ k)
  have hm := Nat.mod_lt x hp
  rw [h] at hd
  have hx : x ≠ 0 := by
    rintro rfl
    rw [Nat.zero_div] at h
    exact h0 h.symm
  unfold blen
  rw [if_neg h0, if_neg hx, (Nat.log2_eq_iff (k := t.log2 + k) hx).2]
  · omega
  · constructor
    · have : 2 ^ t.log2 * 2 ^ k ≤ t * 2 ^ k := Nat.mul_le_mul_right _ h1
      rw [Nat.pow_add]
      rw [Nat.mul_comm t] at this
      omega
    · have : (t + 1) * 2 ^ k ≤ 2 ^ (t.log2 + 1) * 2 ^ k := Nat.mul_le_mul_right _ h2
      rw [Nat.add_mul, Nat.mul_comm t] at this
      rw [show t.log2 + k + 1 = t.log2 + 1 + k by omega, Nat.pow_add]
      omega
theorem blen_half {t : Nat} (h : t ≠ 0) : blen t = blen (t / 2) + 1 := by
  by_cases h1 : t / 2 = 0
  · rw [h1]
    obtain rfl : t = 1 := by omega
    decide
  · exact blen_top (k := 1) rfl h1
end Go.Proofs.YtabmalnandbocaaGreatDoor.Rung
namespace Go.Proofs.YtabmalnandbocaaGreatDoor.Rung
set_option exponentiation.threshold 3000
set_option linter.unusedVariables false
/-- What a float's comparison asks of a decimal that is cut. -/
theorem cut_cmp {X Y D T r : Nat} (hY : 0 < Y) (h1 : T * 10 ^ r < D) (h2 : D < (T + 1) * 10 ^ r) (h : Y ∣ X ∨ X < Y * T) :
    (X * 10 ^ r < Y * D ↔ X * 10 < Y * (10 * T + 1)) ∧ X * 10 ^ r ≠ Y * D ∧ X * 10 ≠ Y * (10 * T + 1) := by
  have hp : 0 < 10 ^ r := Nat.pow_pos (by decide)
  rcases h with ⟨I, rfl⟩ | h
  · rw [Nat.mul_assoc, Nat.mul_assoc]
    have c1 : Y * (I * 10 ^ r) < Y * D ↔ I ≤ T := by
      rw [Nat.mul_lt_mul_left hY]
      constructor
      · intro hlt
        have h3 : I * 10 ^ r < (T + 1) * 10 ^ r := Nat.lt_trans hlt h2
        have := Nat.lt_of_mul_lt_mul_right h3
        omega
      · intro hle
        exact Nat.lt_of_le_of_lt (Nat.mul_le_mul_right _ hle) h1
    have c2 : Y * (I * 10) < Y * (10 * T + 1) ↔ I ≤ T := by
      rw [Nat.mul_lt_mul_left hY]; omega
    refine ⟨c1.trans c2.symm, fun e => ?_, fun e => ?_⟩
    · have e1 := Nat.eq_of_mul_eq_mul_left hY e
      rcases Nat.lt_or_ge T I with h3 | h3
      · have : (T + 1) * 10 ^ r ≤ I * 10 ^ r := Nat.mul_le_mul_right _ h3
        omega
      · have : I * 10 ^ r ≤ T * 10 ^ r := Nat.mul_le_mul_right _ h3
        omega
    · have e1 := Nat.eq_of_mul_eq_mul_left hY e
      omega
  · have h3 : X * 10 ^ r < Y * T * 10 ^ r := Nat.mul_lt_mul_of_pos_right h hp
    have h4 : Y * (T * 10 ^ r) ≤ Y * D := Nat.mul_le_mul_left _ (Nat.le_of_lt h1)
    have h5 : X * 10 < Y * (10 * T + 1) := by rw [Nat.mul_add]; have : Y * (10 * T) = Y * T * 10 := by grind
                                              omega
    rw [Nat.mul_assoc] at h3
    exact ⟨⟨fun _ => h5, fun _ => by omega⟩, by omega, by omega⟩
/-- A fraction of whole numbers that is a decimal's worth, and its comparison with a middle. -/
theorem dec_cmp {M D K a b U r : Nat} (h : 10 ^ a * U * 10 ^ r = 10 ^ b) (hU : 0 < U) :
    (M * 10 ^ b < 2 * (D * 10 ^ a * 2 ^ K) ↔ M * U * 10 ^ r < 2 ^ (K + 1) * D) ∧ (M * 10 ^ b = 2 * (D * 10 ^ a * 2 ^ K) ↔ M * U * 10 ^ r = 2 ^ (K + 1) * D) := by
  have ha : 0 < 10 ^ a := Nat.pow_pos (by decide)
  have e1 : M * 10 ^ b = (M * U * 10 ^ r) * 10 ^ a := by rw [← h]; grind
  have e2 : 2 * (D * 10 ^ a * 2 ^ K) = (2 ^ (K + 1) * D) * 10 ^ a := by rw [Nat.pow_succ]; grind
  rw [e1, e2]
  exact ⟨Nat.mul_lt_mul_right ha, ⟨fun h => Nat.eq_of_mul_eq_mul_right ha h, fun h => by rw [h]⟩⟩
theorem big_pow : (2 : Nat) ^ 54 * 10 ^ 1074 ≤ 10 ^ 1199 := by decide +kernel
theorem cut_div {b K p n T : Nat} (hb : b ≤ 52) (hK : K ≤ 1074) (hp : p ≤ 1200) (hT : 10 ^ 1199 ≤ T) : 2 ^ (K + 1) ∣ mid2 b n * 10 ^ (1200 - p) ∨ mid2 b n * 10 ^ (1200 - p) < 2 ^ (K + 1) * T := by
  by_cases h1 : K + 1 ≤ 1200 - p
  · left
    have : 10 ^ (1200 - p) = 2 ^ (K + 1) * (2 ^ (1200 - p - (K + 1)) * 5 ^ (1200 - p)) := by
      rw [← Nat.mul_assoc, ← Nat.pow_add, show K + 1 + (1200 - p - (K + 1)) = 1200 - p by omega, ← Nat.mul_pow]
    rw [this]
    exact Nat.dvd_trans ⟨_, rfl⟩ (Nat.dvd_mul_left _ _)
  · by_cases h2 : K + 1 ≤ expo b n
    · left
      unfold mid2
      have : 2 ^ expo b n = 2 ^ (K + 1) * 2 ^ (expo b n - (K + 1)) := by rw [← Nat.pow_add]; congr 1; omega
      rw [this]
      exact Nat.dvd_trans ⟨(2 * mant b n + 1) * 2 ^ (expo b n - (K + 1)), by grind⟩ (Nat.dvd_mul_right _ _)
    · right
      unfold mid2
      have a1 : 2 * mant b n + 1 ≤ 2 ^ 54 := by
        have := mant_lt b n
        have h3 : 2 ^ (b + 1) ≤ 2 ^ 53 := Nat.pow_le_pow_right (by decide) (by omega)
        omega
      have a2 : 2 ^ expo b n < 2 ^ (K + 1) := Nat.pow_lt_pow_right (by decide) (by omega)
      have a3 : 10 ^ (1200 - p) ≤ 10 ^ 1074 := Nat.pow_le_pow_right (by decide) (by omega)
      have hp2 : 0 < 10 ^ (1200 - p) := Nat.pow_pos (by decide)
      calc (2 * mant b n + 1) * 2 ^ expo b n * 10 ^ (1200 - p) = 2 ^ expo b n * ((2 * mant b n + 1) * 10 ^ (1200 - p)) := by grind
        _ < 2 ^ (K + 1) * ((2 * mant b n + 1) * 10 ^ (1200 - p)) := Nat.mul_lt_mul_of_pos_right a2 (Nat.mul_pos (by omega) hp2)
        _ ≤ 2 ^ (K + 1) * (2 ^ 54 * 10 ^ 1074) := Nat.mul_le_mul_left _ (Nat.mul_le_mul a1 a3)
        _ ≤ 2 ^ (K + 1) * 10 ^ 1199 := Nat.mul_le_mul_left _ big_pow
        _ ≤ 2 ^ (K + 1) * T := Nat.mul_le_mul_left _ hT
/-- The nearest rung of what is cut is that of the whole. -/
theorem cut_near {b K D T r : Nat} {e e' : Int} {R : Nat} (hb : b ≤ 52) (hK : K ≤ 1074) (h1 : T * 10 ^ r < D) (h2 : D < (T + 1) * 10 ^ r) (hT : 10 ^ 1199 ≤ T) (he' : e' = e + r - 1) (hp : e + r ≤ 0) (hp2 : -1200 - 400 ≤ e + r)
    (h : Near b ((10 * T + 1) * 10 ^ e'.toNat * 2 ^ K) (10 ^ (-e').toNat) R) : Near b (D * 10 ^ e.toNat * 2 ^ K) (10 ^ (-e).toNat) R := by
  have hU : 0 < 10 ^ (-(e + r)).toNat := Nat.pow_pos (by decide)
  intro n
  have c1 := dec_cmp (M := mid2 b n) (D := D) (K := K) (a := e.toNat) (b := (-e).toNat) (U := 10 ^ (-(e + r)).toNat) (r := r) (by rw [← Nat.pow_add, ← Nat.pow_add]; congr 1; omega) hU
  have c2 := dec_cmp (M := mid2 b n) (D := 10 * T + 1) (K := K) (a := e'.toNat) (b := (-e').toNat) (U := 10 ^ (-(e + r)).toNat) (r := 1) (by rw [← Nat.pow_add, ← Nat.pow_add]; congr 1; omega) hU
  have hd : 2 ^ (K + 1) ∣ mid2 b n * 10 ^ (-(e + r)).toNat ∨ mid2 b n * 10 ^ (-(e + r)).toNat < 2 ^ (K + 1) * T := by
    by_cases hq : (-(e + r)).toNat ≤ 1200
    · have := cut_div (b := b) (K := K) (p := 1200 - (-(e + r)).toNat) (n := n) (T := T) hb hK (by omega) hT
      rwa [show 1200 - (1200 - (-(e + r)).toNat) = (-(e + r)).toNat by omega] at this
    · left
      have e1 : 10 ^ (-(e + r)).toNat = 2 ^ (K + 1) * (2 ^ ((-(e + r)).toNat - (K + 1)) * 5 ^ (-(e + r)).toNat) := by
        rw [← Nat.mul_assoc, ← Nat.pow_add, show K + 1 + ((-(e + r)).toNat - (K + 1)) = (-(e + r)).toNat by omega, ← Nat.mul_pow]
      rw [e1]
      exact Nat.dvd_trans ⟨_, rfl⟩ (Nat.dvd_mul_left _ _)
  have hc := cut_cmp (X := mid2 b n * 10 ^ (-(e + r)).toNat) (Y := 2 ^ (K + 1)) (Nat.pow_pos (by decide)) h1 h2 hd
  have hn := h n
  rw [c2.1, c2.2] at hn
  rw [c1.1, c1.2]
  rw [Nat.pow_one] at hn
  rw [hn]
  constructor
  · rintro (h3 | ⟨h3, -⟩)
    · exact .inl (hc.1.2 h3)
    · exact absurd h3 hc.2.2
  · rintro (h3 | ⟨h3, -⟩)
    · exact .inl (hc.1.1 h3)
    · exact absurd h3 hc.2.1
/-- The rung that division finds, rounded. -/
def rungF (b K N Q : Nat) : Nat :=
  rung b K (if dDen Q (pow1 b K N Q) < 2 * dR N Q (pow1 b K N Q) ∨ dDen Q (pow1 b K N Q) = 2 * dR N Q (pow1 b K N Q) ∧ dQ N Q (pow1 b K N Q) % 2 = 1 then dQ N Q (pow1 b K N Q) + 1 else dQ N Q (pow1 b K N Q)) (pow1 b K N Q)
theorem rungF_near {b K N Q : Nat} (hb : 1 ≤ b) (hN : N ≠ 0) (hQ : Q ≠ 0) : Near b (N * 2 ^ K) Q (rungF b K N Q) := by
  obtain ⟨h1, h2, h3⟩ := pow1_ok (b := b) (K := K) hN hQ
  exact rung_near (by omega) h1 rfl h2 h3 hb
end Go.Proofs.YtabmalnandbocaaGreatDoor.Rung
namespace Go.Proofs.YtabmalnandbocaaGreatDoor.Rung
set_option exponentiation.threshold 3000
set_option linter.unusedVariables false
section
open Ieee
theorem word_mod {f : Format} {s : Bool} {n : Nat} (h : n < f.signWeight) : f.word s n % f.signWeight = n := by
  unfold Format.word
  cases s
  · exact Nat.mod_eq_of_lt h
  · simp only [if_true]; rw [Nat.add_mod_left, Nat.mod_eq_of_lt h]
theorem word_sign {f : Format} {s : Bool} {n : Nat} (h : n < f.signWeight) : (f.word s n / f.signWeight % 2 == 1) = s := by
  have hp : 0 < f.signWeight := Nat.pow_pos (by decide)
  unfold Format.word
  cases s
  · simp only [Bool.false_eq_true, if_false]; rw [Nat.div_eq_of_lt h]; rfl
  · simp only [if_true]; rw [Nat.add_div_left _ hp, Nat.div_eq_of_lt h]; rfl
theorem inf_lt (f : Format) : f.infRung < f.signWeight := by
  unfold Format.infRung Format.signWeight Format.binade
  rw [Nat.pow_add]
  have h1 : 0 < 2 ^ f.fractionBits := Nat.pow_pos (by decide)
  have h2 : 0 < 2 ^ f.exponentBits := Nat.pow_pos (by decide)
  exact Nat.mul_lt_mul_of_pos_right (by omega) h1
/-- What a finite word stands for. -/
theorem read_word {f : Format} {s : Bool} {n : Nat} (h : n < f.infRung) : f.read (f.word s n) = .number s (mant f.fractionBits n) (f.leastPlace + (expo f.fractionBits n : Nat)) := by
  have h1 : n < f.signWeight := Nat.lt_trans h (inf_lt f)
  unfold Format.read
  simp only []
  rw [word_sign h1, word_mod h1, if_pos h]
  unfold mant expo Format.binade
  by_cases hn : n < 2 ^ f.fractionBits
  · rw [if_pos hn, if_pos hn, Nat.div_eq_of_lt hn]; simp
  · rw [if_neg hn, if_neg hn]
theorem cut_zero (s : Bool) (n : Nat) : Toward.even.cut s n 0 = n := by
  unfold Toward.cut
  simp [Nat.mod_one]
theorem cut_exact {s : Bool} {q d : Nat} (hq : 0 < q) : Toward.even.cut s (q * 2 ^ d) d = q := by
  have hp : 0 < 2 ^ d := Nat.pow_pos (by decide)
  have hlog : d ≤ (q * 2 ^ d).log2 := by
    rw [Nat.le_log2 (Nat.ne_of_gt (Nat.mul_pos hq hp))]
    exact Nat.le_mul_of_pos_left _ hq
  unfold Toward.cut
  simp only []
  rw [Nat.min_eq_left (by omega), Nat.one_shiftLeft, Nat.mul_div_cancel _ hp, Nat.mul_mod_left]
  simp
theorem log2_mul {q d : Nat} (hq : 0 < q) : (q * 2 ^ d).log2 = q.log2 + d := by
  have hp : 0 < 2 ^ d := Nat.pow_pos (by decide)
  have h0 : q * 2 ^ d ≠ 0 := Nat.ne_of_gt (Nat.mul_pos hq hp)
  have h1 := Nat.log2_self_le (n := q) (by omega)
  have h2 := Nat.lt_log2_self (n := q)
  rw [Nat.log2_eq_iff h0]
  constructor
  · rw [Nat.pow_add]; exact Nat.mul_le_mul_right _ h1
  · rw [show q.log2 + d + 1 = (q.log2 + 1) + d by omega, Nat.pow_add]; exact Nat.mul_lt_mul_of_pos_right h2 hp
/-- A number that the format has is written as its word. -/
theorem nearest_word {f : Format} {s : Bool} {n m : Nat} {p : Int} (h : n < f.infRung) (hm : m * 2 ^ (p - f.leastPlace).toNat = W f.fractionBits n * 2 ^ (f.leastPlace - p).toNat) : f.nearest s m p = f.word s n := by
  obtain ⟨g1, g2⟩ := of_parts f.fractionBits n
  have g3 := mant_lt f.fractionBits n
  unfold W at hm
  generalize mant f.fractionBits n = q at *
  generalize expo f.fractionBits n = e at *
  generalize hb : f.fractionBits = b at *
  generalize hL : f.leastPlace = L at *
  unfold Format.nearest
  by_cases h0 : m = 0
  · rw [if_pos h0]
    subst h0
    have hq : q = 0 := by
      have h5 : 0 < 2 ^ (L - p).toNat := Nat.pow_pos (by decide)
      have h6 : 0 < 2 ^ e := Nat.pow_pos (by decide)
      rw [Nat.zero_mul] at hm
      have := hm.symm
      rw [Nat.mul_eq_zero, Nat.mul_eq_zero] at this
      omega
    subst hq
    have h7 : 0 < 2 ^ b := Nat.pow_pos (by decide)
    have : e = 0 := by omega
    subst this
    rw [g1]; simp
  · rw [if_neg h0]
    have hq : 0 < q := by
      rcases Nat.eq_zero_or_pos q with rfl | hq
      · have h5 : 0 < 2 ^ (p - L).toNat := Nat.pow_pos (by decide)
        rw [Nat.zero_mul, Nat.zero_mul, Nat.mul_eq_zero] at hm
        omega
      · exact hq
    have hl : p + (m.log2 : Int) = L + e + q.log2 := by
      have h5 := congrArg Nat.log2 hm
      rw [log2_mul (by omega), Nat.mul_assoc, ← Nat.pow_add, log2_mul hq] at h5
      omega
    have hlog1 : q.log2 ≤ b := by
      have := Nat.log2_lt (n := q) (by omega) |>.2 g3
      omega
    have hlast : max (p + (m.log2 : Int) - b) L = L + e := by
      rcases g2 with g2 | g2
      · have : b ≤ q.log2 := (Nat.le_log2 (by omega)).2 g2
        omega
      · omega
    simp only [hb, hL]
    rw [hlast]
    have hk : Toward.even.cut s (m <<< (p - (L + e)).toNat) (L + e - p).toNat = q := by
      rw [Nat.shiftLeft_eq]
      by_cases hp : p ≤ L + e
      · have e1 : (p - (L + e)).toNat = 0 := by omega
        rw [e1, Nat.pow_zero, Nat.mul_one]
        have e2 : m = q * 2 ^ (L + e - p).toNat := by
          have h5 : 0 < 2 ^ (p - L).toNat := Nat.pow_pos (by decide)
          apply Nat.eq_of_mul_eq_mul_right h5
          rw [hm, Nat.mul_assoc, Nat.mul_assoc, ← Nat.pow_add, ← Nat.pow_add]
          congr 2
          omega
        rw [e2]
        exact cut_exact hq
      · have e1 : (L + e - p).toNat = 0 := by omega
        rw [e1, cut_zero]
        have h5 : 0 < 2 ^ e := Nat.pow_pos (by decide)
        apply Nat.eq_of_mul_eq_mul_right h5
        have e2 : (L - p).toNat = 0 := by omega
        rw [e2, Nat.pow_zero, Nat.mul_one] at hm
        rw [← hm, Nat.mul_assoc, ← Nat.pow_add]
        congr 2
        omega
    rw [hk]
    have e3 : (L + (e : Int) - L).toNat = e := by omega
    rw [e3]
    have e4 : f.binade = 2 ^ b := by unfold Format.binade; rw [hb]
    rw [e4, ← g1, Nat.min_eq_left (by omega)]
/-- A whole number that is not too long, by a power of two, is a rung. -/
theorem has_rung {b : Nat} (m k : Nat) (h : m < 2 ^ (b + 1)) : ∃ n, W b n = m * 2 ^ k := by
  induction k with
  | zero =>
    obtain ⟨h1, h2⟩ := parts_of (b := b) (q := m) (e := 0) (.inr rfl) h
    refine ⟨m, ?_⟩
    rw [Nat.zero_mul, Nat.zero_add] at h1 h2
    unfold W; rw [h1, h2]
  | succ k ih =>
    obtain ⟨n, hn⟩ := ih
    have hp := two_pow b
    obtain ⟨g1, g2⟩ := of_parts b n
    have g3 := mant_lt b n
    unfold W at hn
    generalize mant b n = q at *
    generalize expo b n = e at *
    by_cases hq : q < 2 ^ b
    · have he : e = 0 := by omega
      subst he
      obtain ⟨h1, h2⟩ := parts_of (b := b) (q := 2 * q) (e := 0) (.inr rfl) (by rw [Nat.pow_succ]; omega)
      rw [Nat.zero_mul, Nat.zero_add] at h1 h2
      refine ⟨2 * q, ?_⟩
      unfold W; rw [h1, h2, Nat.pow_succ]
      grind
    · obtain ⟨h1, h2⟩ := parts_of (b := b) (q := q) (e := e + 1) (.inl (by omega)) g3
      refine ⟨(e + 1) * 2 ^ b + q, ?_⟩
      unfold W; rw [h1, h2, Nat.pow_succ, Nat.pow_succ]
      grind
theorem two_word : (4611686018427387904 : Nat) = double.word false (1024 * 2 ^ 52) := by decide
theorem dbl_fr : double.fractionBits = 52 := rfl
theorem dbl_least : double.leastPlace = -1074 := by decide
theorem dbl_inf : double.infRung = 2047 * 2 ^ 52 := by decide
theorem read_two : double.read 4611686018427387904 = .number false (2 ^ 52) (-51) := by
  rw [two_word, read_word (by decide)]
  decide
/-- Twice a float. -/
theorem mul_two {s : Bool} {n n' : Nat} (h : n < double.infRung) (h' : n' < double.infRung) (hn : W 52 n' = 2 * W 52 n) : double.mul (double.word s n) 4611686018427387904 = some (double.word s n') := by
  unfold Format.mul
  rw [read_two, read_word h]
  simp only [Datum.product, Option.map, Format.write]
  congr 1
  rw [Bool.xor_false]
  refine nearest_word h' ?_
  rw [dbl_fr, dbl_least, hn]
  unfold W
  generalize mant 52 n = q
  generalize expo 52 n = e
  by_cases he : 51 ≤ e
  · have e1 : (-1074 + (e : Int) + -51 - -1074).toNat = e - 51 := by omega
    have e2 : (-1074 - (-1074 + (e : Int) + -51)).toNat = 0 := by omega
    rw [e1, e2]
    obtain ⟨k, rfl⟩ : ∃ k, e = 51 + k := ⟨e - 51, by omega⟩
    rw [Nat.add_sub_cancel_left, Nat.pow_add 2 51 k]
    grind
  · have e1 : (-1074 + (e : Int) + -51 - -1074).toNat = 0 := by omega
    have e2 : (-1074 - (-1074 + (e : Int) + -51)).toNat = 51 - e := by omega
    rw [e1, e2]
    obtain ⟨k, hk⟩ : ∃ k, 51 = e + k := ⟨51 - e, by omega⟩
    have e3 : 51 - e = k := by omega
    have e4 : (2 : Nat) ^ 52 = 2 * (2 ^ e * 2 ^ k) := by rw [← Nat.pow_add, ← hk]
    rw [e3, e4]
    grind
/-- Half a float. -/
theorem div_two {s : Bool} {n n' : Nat} (h : n < double.infRung) (h' : n' < double.infRung) (hn : 2 * W 52 n' = W 52 n) : double.div (double.word s n) 4611686018427387904 = some (double.word s n') := by
  unfold Format.div
  have hq := mant_lt 52 n
  unfold W at hn
  rw [read_two, read_word h]
  rw [dbl_fr, dbl_least]
  unfold Datum.quotient
  simp only []
  generalize mant 52 n = q at *
  generalize expo 52 n = e at *
  have hl : q.log2 ≤ 52 := by
    by_cases h0 : q = 0
    · subst h0; decide
    · have := Nat.log2_lt h0 |>.2 hq
      omega
  have hl2 : (2 ^ 52 : Nat).log2 = 52 := by decide
  rw [hl2]
  obtain ⟨k, hk⟩ : ∃ k, 52 + 2 + 52 - q.log2 = 52 + k := ⟨54 - q.log2, by omega⟩
  rw [hk, Nat.shiftLeft_eq, Nat.pow_add]
  have hd : q * (2 ^ 52 * 2 ^ k) = q * 2 ^ k * 2 ^ 52 := by grind
  rw [hd, Nat.mul_div_cancel _ (by decide), Nat.mul_mod_left]
  simp only [Option.map, Format.write]
  rw [if_neg (by decide)]
  simp only []
  congr 1
  rw [Bool.xor_false]
  refine nearest_word h' ?_
  rw [dbl_fr, dbl_least]
  unfold W
  simp only [bne_self_eq_false, Bool.toNat_false, Nat.add_zero]
  have h2 : 2 * (q * 2 ^ k) = q * 2 ^ (k + 1) := by rw [Nat.pow_succ]; grind
  rw [h2]
  by_cases he : k + 2 ≤ e
  · have e1 : (-1074 + (e : Int) - -51 - ((52 + k : Nat) : Int) - 1 - -1074).toNat = e - (k + 2) := by omega
    have e2 : (-1074 - (-1074 + (e : Int) - -51 - ((52 + k : Nat) : Int) - 1)).toNat = 0 := by omega
    rw [e1, e2]
    obtain ⟨j, rfl⟩ : ∃ j, e = k + 2 + j := ⟨e - (k + 2), by omega⟩
    rw [Nat.add_sub_cancel_left]
    have e5 : (2 : Nat) ^ (k + 2 + j) = 2 * (2 ^ (k + 1) * 2 ^ j) := by rw [← Nat.pow_add, ← Nat.pow_succ']; congr 1; omega
    rw [e5] at hn
    grind
  · have e1 : (-1074 + (e : Int) - -51 - ((52 + k : Nat) : Int) - 1 - -1074).toNat = 0 := by omega
    have e2 : (-1074 - (-1074 + (e : Int) - -51 - ((52 + k : Nat) : Int) - 1)).toNat = k + 2 - e := by omega
    rw [e1, e2]
    obtain ⟨j, hj⟩ : ∃ j, k + 2 = e + j := ⟨k + 2 - e, by omega⟩
    have e3 : k + 2 - e = j := by omega
    have e5 : 2 * (2 : Nat) ^ (k + 1) = 2 ^ e * 2 ^ j := by rw [← Nat.pow_add, ← Nat.pow_succ', ← hj]
    rw [e3]
    grind
end
end Go.Proofs.YtabmalnandbocaaGreatDoor.Rung
namespace Go.Proofs.YtabmalnandbocaaGreatDoor.Rung
set_option exponentiation.threshold 3000
set_option exponentiation.threshold 3000
set_option linter.unusedVariables false
set_option linter.unusedSimpArgs false
section
open Ieee
/-- A number with its sign. -/
def sgn (s : Bool) (n : Nat) : Int := if s then -(n : Int) else n
theorem signed_eq (s : Bool) (m k : Nat) : signed s m k = sgn s (m * 2 ^ k) := by
  unfold signed sgn
  rw [Nat.shiftLeft_eq]
theorem sgn_mul (s : Bool) (n c : Nat) : sgn s (n * c) = sgn s n * (c : Int) := by
  unfold sgn
  cases s <;> simp [Int.neg_mul]
theorem cmp_iff {a b c d : Int} (h1 : a < b ↔ c < d) (h2 : a = b ↔ c = d) : compare a b = compare c d := by
  simp only [compare, compareOfLessAndEq, h1, h2]
theorem compare_mul {a b : Int} {c : Nat} (h : 0 < c) : compare (a * (c : Int)) (b * (c : Int)) = compare a b := by
  have hc : (0 : Int) < (c : Int) := by omega
  exact cmp_iff ⟨fun k => Int.lt_of_mul_lt_mul_right k (Int.le_of_lt hc), fun k => Int.mul_lt_mul_of_pos_right k hc⟩ ⟨fun k => Int.eq_of_mul_eq_mul_right (by omega) k, fun k => by rw [k]⟩
theorem W_zero (b : Nat) : W b 0 = 0 := by
  unfold W
  rw [(parts_low (two_pow b)).1, Nat.zero_mul]
theorem W_pos {b n : Nat} (h : 0 < n) : 0 < W b n := by
  have := W_lt (b := b) h
  rw [W_zero] at this
  exact this
theorem sgn_W {b n m : Nat} (s t : Bool) : compare (sgn s (W b n)) (sgn t (W b m)) = compare (sgn s n) (sgn t m) := by
  have h0 := W_zero b
  have h1 : n = 0 ∨ 0 < n := by omega
  have h2 : m = 0 ∨ 0 < m := by omega
  have k1 : n = 0 ∧ W b n = 0 ∨ 0 < n ∧ 0 < W b n := by
    rcases h1 with rfl | h
    · exact .inl ⟨rfl, h0⟩
    · exact .inr ⟨h, W_pos h⟩
  have k2 : m = 0 ∧ W b m = 0 ∨ 0 < m ∧ 0 < W b m := by
    rcases h2 with rfl | h
    · exact .inl ⟨rfl, h0⟩
    · exact .inr ⟨h, W_pos h⟩
  have k3 : n < m ∧ W b n < W b m ∨ n = m ∧ W b n = W b m ∨ m < n ∧ W b m < W b n := by
    rcases Nat.lt_trichotomy n m with h | h | h
    · exact .inl ⟨h, W_lt h⟩
    · exact .inr (.inl ⟨h, by rw [h]⟩)
    · exact .inr (.inr ⟨h, W_lt h⟩)
  generalize W b n = x at *
  generalize W b m = y at *
  unfold sgn
  cases s <;> cases t <;> simp only [if_true, if_false, Bool.false_eq_true] <;> exact cmp_iff (by omega) (by omega)
/-- Two finite words. -/
theorem order_word {f : Format} {s t : Bool} {n m : Nat} (hn : n < f.infRung) (hm : m < f.infRung) : f.order (f.word s n) (f.word t m) = some (compare (sgn s n) (sgn t m)) := by
  unfold Format.order
  rw [read_word hn, read_word hm]
  simp only [Datum.order]
  rw [signed_eq, signed_eq, show compare (sgn s n) (sgn t m) = _ from (sgn_W (b := f.fractionBits) s t).symm]
  congr 1
  unfold W
  generalize mant f.fractionBits n = p
  generalize mant f.fractionBits m = q
  generalize expo f.fractionBits n = i
  generalize expo f.fractionBits m = j
  generalize f.leastPlace = L
  have e1 : p * 2 ^ i = p * 2 ^ (L + (i : Int) - min (L + (i : Int)) (L + (j : Int))).toNat * 2 ^ min i j := by
    rw [Nat.mul_assoc, ← Nat.pow_add]; congr 2; omega
  have e2 : q * 2 ^ j = q * 2 ^ (L + (j : Int) - min (L + (i : Int)) (L + (j : Int))).toNat * 2 ^ min i j := by
    rw [Nat.mul_assoc, ← Nat.pow_add]; congr 2; omega
  rw [e1, e2, sgn_mul _ _ (2 ^ min i j), sgn_mul _ _ (2 ^ min i j), compare_mul (two_pow _)]
theorem read_inf {f : Format} {s : Bool} (h : f.binade ≤ f.infRung) : f.read (f.word s f.infRung) = .infinity s := by
  have h1 := inf_lt f
  unfold Format.read
  simp only []
  rw [word_sign h1, word_mod h1, if_neg (by omega), if_neg (by omega), if_pos rfl]
theorem read_nan {f : Format} {s : Bool} {n : Nat} (h : f.binade ≤ f.infRung) (h1 : f.infRung < n) (h2 : n < f.signWeight) : f.read (f.word s n) = .nan s (n - f.infRung) := by
  unfold Format.read
  simp only []
  rw [word_sign h2, word_mod h2, if_neg (by omega), if_neg (by omega), if_neg (by omega)]
theorem word_of {f : Format} {x : Nat} (h : x < 2 * f.signWeight) : ∃ s n, n < f.signWeight ∧ x = f.word s n := by
  by_cases hx : x < f.signWeight
  · exact ⟨false, x, hx, rfl⟩
  · exact ⟨true, x - f.signWeight, by omega, by unfold Format.word; simp only [if_true]; omega⟩
theorem sub_self {f : Format} {s : Bool} {n : Nat} (hn : n < f.infRung) : f.sub (f.word s n) (f.word s n) = some 0 := by
  unfold Format.sub
  rw [read_word hn]
  simp only [Datum.opposite, Datum.sum, signed_eq]
  have : ∀ x : Nat, sgn s x + sgn (!s) x = 0 := by intro x; unfold sgn; cases s <;> simp <;> omega
  simp only [Int.min_self, this]
  cases s <;> simp [Format.write, Format.nearest, Format.word]
theorem sub_inf {f : Format} {s : Bool} (h : f.binade ≤ f.infRung) : f.sub (f.word s f.infRung) (f.word s f.infRung) = none := by
  unfold Format.sub
  rw [read_inf h]
  cases s <;> simp [Datum.opposite, Datum.sum]
theorem sub_nan {f : Format} {s t : Bool} {n m : Nat} (h : f.binade ≤ f.infRung) (h1 : f.infRung < n) (h2 : n < f.signWeight) : f.sub (f.word s n) (f.word t m) = none := by
  unfold Format.sub
  rw [read_nan h h1 h2]
  simp [Datum.sum]
theorem order_nan_l {f : Format} {s : Bool} {n x : Nat} (h : f.binade ≤ f.infRung) (h1 : f.infRung < n) (h2 : n < f.signWeight) : f.order (f.word s n) x = none := by
  unfold Format.order
  rw [read_nan h h1 h2]
  simp [Datum.order]
theorem order_nan_r {f : Format} {s : Bool} {n x : Nat} (h : f.binade ≤ f.infRung) (h1 : f.infRung < n) (h2 : n < f.signWeight) : f.order x (f.word s n) = none := by
  unfold Format.order
  rw [read_nan h h1 h2]
  cases f.read x <;> simp [Datum.order]
theorem order_inf {f : Format} {s t : Bool} (h : f.binade ≤ f.infRung) : f.order (f.word s f.infRung) (f.word t f.infRung) = some (compare t.toNat s.toNat) := by
  unfold Format.order
  rw [read_inf h, read_inf h]
  simp [Datum.order]
theorem order_inf_l {f : Format} {s t : Bool} {n : Nat} (h : f.binade ≤ f.infRung) (hn : n < f.infRung) : f.order (f.word s f.infRung) (f.word t n) = some (if s then .lt else .gt) := by
  unfold Format.order
  rw [read_inf h, read_word hn]
  simp [Datum.order]
theorem order_inf_r {f : Format} {s t : Bool} {n : Nat} (h : f.binade ≤ f.infRung) (hn : n < f.infRung) : f.order (f.word t n) (f.word s f.infRung) = some (if s then .gt else .lt) := by
  unfold Format.order
  rw [read_inf h, read_word hn]
  simp [Datum.order]
theorem dbl_bin : double.binade ≤ double.infRung := by decide
theorem sgl_bin : single.binade ≤ single.infRung := by decide
theorem one_word : (4607182418800017408 : Nat) = double.word false (1023 * 2 ^ 52) := by decide
theorem read_one : double.read 4607182418800017408 = .number false (2 ^ 52) (-52) := by
  rw [one_word, read_word (by decide)]
  decide
theorem one_div (s : Bool) : double.div 4607182418800017408 (double.word s 0) = some (double.word s double.infRung) := by
  unfold Format.div
  rw [read_one, read_word (by decide)]
  have hm : mant double.fractionBits 0 = 0 := by decide
  rw [hm]
  cases s <;> simp [Datum.quotient, Format.write]
theorem neg_word {f : Format} {s : Bool} {n : Nat} (h : n < f.signWeight) : f.word s n ^^^ 2 ^ (f.exponentBits + f.fractionBits) = f.word (!s) n := by
  have hk : f.signWeight = 2 ^ (f.exponentBits + f.fractionBits) := rfl
  unfold Format.word
  rw [hk] at h ⊢
  generalize f.exponentBits + f.fractionBits = k at *
  have h1 : n ^^^ 2 ^ k = 2 ^ k + n := by
    rw [Nat.add_comm, Nat.xor_comm]
    apply Nat.eq_of_testBit_eq
    intro i
    rw [Nat.testBit_xor, Nat.testBit_two_pow, Nat.add_comm]
    rcases Nat.lt_trichotomy i k with hi | hi | hi
    · have e0 : decide (k = i) = false := decide_eq_false (by omega)
      rw [Nat.testBit_two_pow_add_gt hi, e0, Bool.false_xor]
    · subst hi
      rw [Nat.testBit_two_pow_add_eq]; simp [Nat.testBit_lt_two_pow h]
    · have e1 : n.testBit i = false := Nat.testBit_lt_two_pow (Nat.lt_trans h (Nat.pow_lt_pow_right (by decide) hi))
      have e2 : (2 ^ k + n).testBit i = false := Nat.testBit_lt_two_pow (Nat.lt_of_lt_of_le (show 2 ^ k + n < 2 ^ (k + 1) by rw [Nat.pow_succ]; omega) (Nat.pow_le_pow_right (by decide) hi))
      rw [e1, e2]; simp; omega
  cases s
  · simpa using h1
  · simp only [if_true, Bool.not_true, Bool.false_eq_true, if_false]
    rw [← h1, Nat.xor_assoc, Nat.xor_self, Nat.xor_zero]
/-- A whole number as a float. -/
theorem of_nat {m n : Nat} (hn : n < double.infRung) (hm : W 52 n = m * 2 ^ 1074) : double.nearest false m 0 = double.word false n := by
  refine nearest_word hn ?_
  rw [dbl_fr, dbl_least, hm]
  simp
/-- Wide and narrow floats. -/
theorem widen {s : Bool} {n n' : Nat} (h : n < single.infRung) (h' : n' < double.infRung) (hn : W 52 n' = W 23 n * 2 ^ 925) : double.write (single.read (single.word s n)) = double.word s n' := by
  rw [read_word h]
  refine nearest_word h' ?_
  have hL : single.leastPlace = -149 := by decide
  have hf : single.fractionBits = 23 := rfl
  rw [dbl_fr, dbl_least, hL, hf, hn]
  unfold W
  generalize mant 23 n = q
  generalize expo 23 n = e
  have e1 : ((-149 : Int) + (e : Int) - -1074).toNat = e + 925 := by omega
  have e2 : ((-1074 : Int) - (-149 + (e : Int))).toNat = 0 := by omega
  rw [e1, e2, Nat.pow_add, Nat.pow_zero]
  grind
theorem narrow {s : Bool} {n n' : Nat} (h : n < single.infRung) (h' : n' < double.infRung) (hn : W 52 n' = W 23 n * 2 ^ 925) : single.write (double.read (double.word s n')) = single.word s n := by
  rw [read_word h']
  refine nearest_word h ?_
  have hL : single.leastPlace = -149 := by decide
  have hf : single.fractionBits = 23 := rfl
  rw [hf, hL, dbl_fr, dbl_least]
  unfold W at hn ⊢
  generalize mant 23 n = q at *
  generalize expo 23 n = e at *
  generalize mant 52 n' = p at *
  generalize expo 52 n' = i at *
  by_cases hi : 925 ≤ i
  · have e1 : ((-1074 : Int) + (i : Int) - -149).toNat = i - 925 := by omega
    have e2 : ((-149 : Int) - (-1074 + (i : Int))).toNat = 0 := by omega
    rw [e1, e2]
    obtain ⟨k, rfl⟩ : ∃ k, i = 925 + k := ⟨i - 925, by omega⟩
    rw [Nat.add_sub_cancel_left]
    rw [Nat.pow_add] at hn
    apply Nat.eq_of_mul_eq_mul_right (two_pow 925)
    rw [Nat.pow_zero, Nat.mul_one, ← hn]
    grind
  · have e1 : ((-1074 : Int) + (i : Int) - -149).toNat = 0 := by omega
    have e2 : ((-149 : Int) - (-1074 + (i : Int))).toNat = 925 - i := by omega
    rw [e1, e2]
    obtain ⟨k, hk⟩ : ∃ k, 925 = i + k := ⟨925 - i, by omega⟩
    have e3 : 925 - i = k := by omega
    rw [e3]
    apply Nat.eq_of_mul_eq_mul_right (two_pow i)
    rw [Nat.pow_zero, Nat.mul_one, hn, hk, Nat.pow_add]
    grind
/-- Each short float is a long one. -/
theorem has_wide {n : Nat} (h : n < single.infRung) : ∃ n', n' < double.infRung ∧ W 52 n' = W 23 n * 2 ^ 925 := by
  have hq := mant_lt 23 n
  obtain ⟨n', hn'⟩ := has_rung (b := 52) (mant 23 n) (expo 23 n + 925) (Nat.lt_of_lt_of_le hq (by decide))
  have he : W 52 n' = W 23 n * 2 ^ 925 := by rw [hn']; unfold W; rw [Nat.pow_add]; grind
  refine ⟨n', ?_, he⟩
  apply Nat.lt_of_not_le
  intro hge
  have h1 := W_le (b := 52) hge
  have h2 := W_lt (b := 23) h
  rw [he] at h1
  have h3 : W 52 double.infRung = 2 ^ 52 * 2 ^ 2046 := by
    unfold W
    have a1 : mant 52 double.infRung = 2 ^ 52 := by decide
    have a2 : expo 52 double.infRung = 2046 := by decide
    rw [a1, a2]
  have h4 : W 23 single.infRung = 2 ^ 23 * 2 ^ 254 := by
    unfold W
    have a1 : mant 23 single.infRung = 2 ^ 23 := by decide
    have a2 : expo 23 single.infRung = 254 := by decide
    rw [a1, a2]
  rw [h3] at h1
  rw [h4] at h2
  have h5 : W 23 n * 2 ^ 925 < 2 ^ 23 * 2 ^ 254 * 2 ^ 925 := Nat.mul_lt_mul_of_pos_right h2 (two_pow _)
  have h6 : (2 : Nat) ^ 23 * 2 ^ 254 * 2 ^ 925 ≤ 2 ^ 52 * 2 ^ 2046 := by
    rw [← Nat.pow_add, ← Nat.pow_add, ← Nat.pow_add]
    exact Nat.pow_le_pow_right (by decide) (by decide)
  omega
end
end Go.Proofs.YtabmalnandbocaaGreatDoor.Rung
