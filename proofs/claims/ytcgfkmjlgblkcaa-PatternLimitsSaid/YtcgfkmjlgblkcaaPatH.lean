/- The order of a heap: a list in which each thing stands behind the one above it; what moves up and down. -/
import Derived.WalkKit
namespace Go.Proofs.Ytcgfkmjlgblkcaa.Pat
set_option linter.unusedVariables false
set_option linter.unusedSimpArgs false

/-- An entry: its block, its key, its place, how often, its age. -/
structure Ent where
  b : Nat
  route : ByteArray
  name : ByteArray
  place : Int
  hits : Int
  age : Int
instance : Inhabited Ent := ⟨⟨0, .empty, .empty, 0, 0, 0⟩⟩
def Lt (a b : Ent) : Prop := a.hits < b.hits ∨ a.hits = b.hits ∧ a.age < b.age
theorem Lt.asymm {a b : Ent} (h : Lt a b) : ¬ Lt b a := by unfold Lt at *; omega
theorem nlt_trans {a b c : Ent} (h : ¬ Lt b a) (k : ¬ Lt c b) : ¬ Lt c a := by unfold Lt at *; omega
theorem nlt_of_lt {a b c : Ent} (h : Lt a b) (k : ¬ Lt c b) : ¬ Lt c a := by unfold Lt at *; omega
def at_ (M : List Ent) (j : Nat) : Ent := M.getD j default
def swp (M : List Ent) (i j : Nat) : List Ent := (M.set i (at_ M j)).set j (at_ M i)
theorem swp_length (M : List Ent) (i j : Nat) : (swp M i j).length = M.length := by simp [swp]
theorem at_set (M : List Ent) (i k : Nat) (x : Ent) (hi : i < M.length) : at_ (M.set i x) k = if k = i then x else at_ M k := by
  unfold at_
  simp only [List.getD_eq_getElem?_getD, List.getElem?_set]
  by_cases h : i = k
  · subst h; simp [hi]
  · rw [if_neg h, if_neg (fun e => h e.symm)]
theorem at_swp (M : List Ent) (i j k : Nat) (hi : i < M.length) (hj : j < M.length) : at_ (swp M i j) k = if k = j then at_ M i else if k = i then at_ M j else at_ M k := by
  unfold swp
  rw [at_set _ _ _ _ (by simpa using hj), at_set _ _ _ _ hi]
theorem at_get (M : List Ent) (j : Nat) (h : j < M.length) : M[j]? = some (at_ M j) := by
  unfold at_
  rw [List.getD_eq_getElem?_getD, List.getElem?_eq_getElem h]; rfl
theorem swp_perm (M : List Ent) (i j : Nat) (hi : i < M.length) (hj : j < M.length) : (swp M i j).Perm M := by
  have h := Array.swap_perm (xs := M.toArray) (i := i) (j := j) (by simpa using hi) (by simpa using hj)
  have e : (M.toArray.swap i j (by simpa using hi) (by simpa using hj)).toList = swp M i j := by
    apply List.ext_getElem?
    intro k
    by_cases hk : k < M.length
    · rw [at_get (swp M i j) k (by rw [swp_length]; exact hk), at_swp M i j k hi hj]
      rw [Array.getElem?_toList, Array.getElem?_eq_getElem (by simpa using hk), Array.getElem_swap]
      congr 1
      unfold at_
      by_cases h1 : k = i
      · subst h1
        by_cases h2 : k = j
        · subst h2; simp [hk]
        · simp [h2, hj]
      · by_cases h2 : k = j
        · subst h2; simp [h1, hi]
        · simp [h1, h2, hk]
    · rw [List.getElem?_eq_none (by simp; omega), List.getElem?_eq_none (by rw [swp_length]; omega)]
  rw [← e]
  exact h.toList
/-- All stand behind the one above them, but for what touches i; what stands below i isn't ahead of what stands above it. -/
structure HeapBut (M : List Ent) (i : Nat) : Prop where
  edge : ∀ j, 0 < j → j < M.length → j ≠ i → (j - 1) / 2 ≠ i → ¬ Lt (at_ M j) (at_ M ((j - 1) / 2))
  over : 0 < i → ∀ c, 0 < c → c < M.length → (c - 1) / 2 = i → ¬ Lt (at_ M c) (at_ M ((i - 1) / 2))
def UpOk (M : List Ent) (i : Nat) : Prop := 0 < i → ¬ Lt (at_ M i) (at_ M ((i - 1) / 2))
def KidsOk (M : List Ent) (i : Nat) : Prop := ∀ c, 0 < c → c < M.length → (c - 1) / 2 = i → ¬ Lt (at_ M c) (at_ M i)
def Heap (M : List Ent) : Prop := ∀ j, 0 < j → j < M.length → ¬ Lt (at_ M j) (at_ M ((j - 1) / 2))
theorem HeapBut.heap {M : List Ent} {i : Nat} (h : HeapBut M i) (u : UpOk M i) (k : KidsOk M i) : Heap M := by
  intro j h0 hj
  by_cases h1 : j = i
  · subst h1; exact u h0
  · by_cases h2 : (j - 1) / 2 = i
    · rw [h2]; exact k j h0 hj h2
    · exact h.edge j h0 hj h1 h2
theorem Heap.but {M : List Ent} (h : Heap M) (i : Nat) (hi : i < M.length) : HeapBut M i := by
  refine ⟨fun j h0 hj _ _ => h j h0 hj, fun h0 c c0 hc e => ?_⟩
  have h1 := h c c0 hc
  rw [e] at h1
  exact nlt_trans (h i h0 hi) h1
theorem Heap.up {M : List Ent} (h : Heap M) (i : Nat) (hi : i < M.length) : UpOk M i := fun h0 => h i h0 hi
theorem Heap.kids {M : List Ent} (h : Heap M) (i : Nat) : KidsOk M i := fun c c0 hc e => by have := h c c0 hc; rwa [e] at this
/-- A change of the thing at i alone leaves the rest as it was. -/
theorem Heap.turn {M : List Ent} (h : Heap M) (i : Nat) (hi : i < M.length) (x : Ent) : HeapBut (M.set i x) i := by
  refine ⟨fun j h0 hj n1 n2 => ?_, fun h0 c c0 hc e => ?_⟩
  · rw [at_set M i j x hi, at_set M i _ x hi, if_neg n1, if_neg n2]
    exact h j h0 (by simpa using hj)
  · rw [at_set M i c x hi, at_set M i _ x hi, if_neg (by omega), if_neg (by omega)]
    exact (h.but i hi).over h0 c c0 (by simpa using hc) e
/-- One step up. -/
theorem up_step {M : List Ent} {i : Nat} (hi : i < M.length) (h0 : 0 < i) (h : HeapBut M i) (hl : Lt (at_ M i) (at_ M ((i - 1) / 2))) :
    HeapBut (swp M i ((i - 1) / 2)) ((i - 1) / 2) ∧ KidsOk (swp M i ((i - 1) / 2)) ((i - 1) / 2) := by
  generalize hq : (i - 1) / 2 = q at *
  have hqi : q < i := by omega
  have hql : q < M.length := by omega
  have E := at_swp M i q
  refine ⟨⟨fun j j0 hj n1 n2 => ?_, fun q0 c c0 hc e => ?_⟩, fun c c0 hc e => ?_⟩
  · rw [swp_length] at hj
    rw [E j hi hql, E _ hi hql, if_neg n1, if_neg n2]
    by_cases e1 : j = i
    · exact absurd (by rw [e1, hq]) n2
    · rw [if_neg e1]
      by_cases e2 : (j - 1) / 2 = i
      · rw [if_pos e2, ← hq]; exact h.over h0 j j0 hj e2
      · rw [if_neg e2]; exact h.edge j j0 hj e1 e2
  · rw [swp_length] at hc
    have hqq : ¬ Lt (at_ M q) (at_ M ((q - 1) / 2)) := h.edge q q0 hql (by omega) (by omega)
    rw [E c hi hql, E _ hi hql, if_neg (by omega : ¬ c = q), if_neg (by omega : ¬ (q - 1) / 2 = q), if_neg (by omega : ¬ (q - 1) / 2 = i)]
    by_cases e1 : c = i
    · rw [if_pos e1]; exact hqq
    · rw [if_neg e1]
      have h1 := h.edge c c0 hc e1 (by omega)
      rw [e] at h1
      exact nlt_trans hqq h1
  · rw [swp_length] at hc
    rw [E c hi hql, E _ hi hql, if_neg (by omega : ¬ c = q), if_pos rfl]
    by_cases e1 : c = i
    · rw [if_pos e1]; exact Lt.asymm hl
    · rw [if_neg e1]
      have h1 := h.edge c c0 hc e1 (by omega)
      rw [e] at h1
      exact nlt_of_lt hl h1
/-- One step down, to the child that isn't behind the other. -/
theorem down_step {M : List Ent} {i k : Nat} (hi : i < M.length) (hk : k < M.length) (k0 : 0 < k) (hp : (k - 1) / 2 = i) (h : HeapBut M i) (hl : Lt (at_ M k) (at_ M i))
    (hmin : ∀ c, 0 < c → c < M.length → (c - 1) / 2 = i → ¬ Lt (at_ M c) (at_ M k)) :
    HeapBut (swp M i k) k ∧ UpOk (swp M i k) k := by
  have E := at_swp M i k
  refine ⟨⟨fun j j0 hj n1 n2 => ?_, fun _ c c0 hc e => ?_⟩, fun _ => ?_⟩
  · rw [swp_length] at hj
    rw [E j hi hk, E _ hi hk, if_neg n1, if_neg n2]
    by_cases e1 : j = i
    · rw [if_pos e1, if_neg (by omega)]
      subst e1
      exact h.over j0 k k0 hk hp
    · rw [if_neg e1]
      by_cases e2 : (j - 1) / 2 = i
      · rw [if_pos e2]; exact hmin j j0 hj e2
      · rw [if_neg e2]; exact h.edge j j0 hj e1 e2
  · rw [swp_length] at hc
    rw [hp, E c hi hk, E _ hi hk, if_neg (by omega : ¬ c = k), if_neg (by omega : ¬ c = i), if_neg (by omega : ¬ i = k), if_pos rfl]
    have h1 := h.edge c c0 hc (by omega) (by omega)
    rwa [e] at h1
  · rw [hp, E k hi hk, E _ hi hk, if_pos rfl, if_neg (by omega : ¬ i = k), if_pos rfl]
    exact Lt.asymm hl
/-- The one on top is ahead of none. -/
theorem Heap.top {M : List Ent} (h : Heap M) : ∀ (j : Nat), j < M.length → ¬ Lt (at_ M j) (at_ M 0) := by
  intro j
  induction j using Nat.strongRecOn with
  | _ j ih =>
    intro hj
    by_cases h0 : j = 0
    · subst h0; exact fun hl => Lt.asymm hl hl
    · exact nlt_trans (ih ((j - 1) / 2) (by omega) (by omega)) (h j (by omega) hj)
end Go.Proofs.Ytcgfkmjlgblkcaa.Pat
