/- The walk of All. -/
import Derived.Test.YtcgfkmjlgblkcaaShelf
import Derived.Test.YtcgfkmjlgblkcaaPatJ
namespace Go.Proofs.Ytcgfkmjlgblkcaa.Pat
set_option linter.unusedVariables false
set_option linter.unusedSimpArgs false
open Go.RowKit Go.Proofs.Ytcgfkmjlgblkcaa.Mem Go.Proofs.Ytcgfkmjlgblkcaa.Own

theorem cfE_lt (x y : Ent) : cfE x y < 0 ↔ (y.hits < x.hits ∨ x.hits = y.hits ∧ x.age < y.age) := by
  unfold cfE orI cmpI
  by_cases h1 : y.hits < x.hits
  · simp [h1]
  · by_cases h2 : x.hits < y.hits
    · simp [h1, h2]; omega
    · have h3 : x.hits = y.hits := by omega
      by_cases h4 : x.age < y.age
      · simp [h3, h4]
      · by_cases h5 : y.age < x.age
        · simp [h3, h4, h5]
        · simp [h3, h4, h5]
/-- The places of a list, compared by what stands there. -/
def cfF (M : List Ent) (n : Nat) (i j : Fin (n + 1)) : Int := cfE (at_ M i) (at_ M j)
theorem swoF (M : List Ent) (n : Nat) : Sort.SWO (ltOf (cfF M n)) where
  irrefl x := by unfold ltOf cfF; rw [decide_eq_false_iff_not, cfE_lt]; omega
  trans x y z h1 h2 := by unfold ltOf cfF at *; rw [decide_eq_true_eq, cfE_lt] at *; omega
  ntrans x y z h1 h2 := by unfold ltOf cfF at *; rw [decide_eq_false_iff_not, cfE_lt] at *; omega
def encF (M : List Ent) (n : Nat) (i : Fin (n + 1)) : Value := .pointer (some ⟨(at_ M i).b, 0, none⟩)
def idF (n : Nat) : Array (Fin (n + 1)) := Array.ofFn fun i => i
theorem idF_size (n : Nat) : (idF n).size = n + 1 := by simp [idF]
theorem idF_get (n : Nat) (j : Nat) (hj : j < n + 1) : ((idF n)[j]! : Fin (n + 1)) = ⟨j, hj⟩ := by
  rw [getElem!_pos (idF n) j (by rw [idF_size]; exact hj)]
  simp [idF]
theorem idF_list (M : List Ent) (n : Nat) (hM : M.length = n + 1) : (idF n).toList.map (fun i : Fin (n + 1) => at_ M i.1) = M := by
  apply List.ext_getElem?
  intro j
  by_cases hj : j < n + 1
  · have h1 : (idF n)[j]? = some ⟨j, hj⟩ := by
      rw [Array.getElem?_eq_getElem (by rw [idF_size]; exact hj)]
      congr 1
      exact Array.getElem_ofFn _
    rw [at_get M j (by omega), List.getElem?_map, Array.getElem?_toList, h1]; rfl
  · rw [List.getElem?_eq_none (by simp [idF]; omega), List.getElem?_eq_none (by omega)]
theorem extract_all {α : Type} (a : Array α) (k : Nat) (h : a.size = k) : a.extract 0 k = a := by subst h; simp
theorem sort_touch {α : Type} [Inhabited α] (enc : α → Value) (w : World) (blk off m : Nat) (dk : Array α) (os : Array Obj) : Touch (fun b => b = blk) w (sortWorld enc w blk off m dk os) := by
  refine ⟨rfl, rfl, rfl, ?_, fun k hk hn => ?_⟩
  · unfold sortWorld
    rw [Sort.size_grow]
    have : (Sort.putRow enc (Sort.ahead w m) blk off dk).heap.size = w.heap.size := by simp [Sort.putRow, Sort.mapBlock, Sort.ahead]
    omega
  · unfold sortWorld
    rw [Sort.heap_grow_old _ _ (by simpa [Sort.putRow, Sort.mapBlock, Sort.ahead] using hk)]
    have hn' : ¬ blk = k := fun e => hn e.symm
    simp [Sort.putRow, Sort.mapBlock, Sort.ahead, Array.getElem?_modify, hn']
def SortPost (w : World) (g : Nat) (M : List Ent) (e : Ending) (w' : World) : Prop :=
  e = .returned (.tuple #[]) ∧ ∃ S : List Ent, S.Perm M ∧ S.Pairwise (fun a b => cfE a b < 0) ∧ Touch (fun b => b = g) w w' ∧ ∀ j, j < M.length → w'.cell? ⟨g, j, none⟩ = some (.pointer (some ⟨(at_ S j).b, 0, none⟩))
theorem sort_w (M : List Ent) (n g cap : Nat) (w : World) (hM : M.length = n + 1) (hn : n < 17592186044400) (hages : M.Pairwise fun x y => x.age ≠ y.age) (hE : ∀ j, j < M.length → EntAt w (at_ M j) j)
    (hc : ∀ j, j < M.length → w.cell? ⟨g, j, none⟩ = some (.pointer (some ⟨(at_ M j).b, 0, none⟩))) (hf : ∀ j, w.frozen? ⟨g, j, none⟩ = false) (hg : ∀ j, j < M.length → (at_ M j).b ≠ g) :
    Calls Try.prog 23 #[.slice (some ⟨g, 0, none⟩) (n + 1) cap, .func (.func 24) #[] #[]] w (SortPost w g M) := by
  have hH : Sort.Holds (encF M n) w g 0 (idF n) := fun j hj => by
    rw [idF_size] at hj
    rw [Nat.zero_add, idF_get n j hj]
    exact ⟨hc j (by omega), hf j⟩
  have hlt : g < w.heap.size := World.block_lt_of_cell? w ⟨g, 0, none⟩ (hc 0 (by omega))
  have hcmp : CmpLays1 Try.prog 24 #[] (encF M n) (cfF M n) g 0 (idF n).size w := fun m os dk hs x y => by
    have ht := sort_touch (encF M n) w g 0 m dk os
    have hx := ht.blk (hE x (by rw [hM]; exact x.2)) (hg x (by rw [hM]; exact x.2))
    have hy := ht.blk (hE y (by rw [hM]; exact y.2)) (hg y (by rw [hM]; exact y.2))
    exact less2_w (at_ M x) (at_ M y) x y _ hx hy
  have hS := Any.slices_SortFunc Try.sortL (encF M n) (fun _ => rfl) (cfF M n) (swoF M n) 24 #[] g 0 cap (idF n) w (enters_of Try.func24 (by kernel_rfl) rfl) hcmp hH hlt (by rw [idF_size]; omega)
  rw [idF_size] at hS
  refine hS.mono ?_
  rintro e w' ⟨rfl, d', m, os, hp, hs, rfl⟩
  obtain ⟨p1, p2, p3⟩ := hp
  rw [idF_size] at p1
  have e1 := extract_all d' (n + 1) p1
  have e2 := extract_all (idF n) (n + 1) (idF_size n)
  rw [e1, e2] at p3
  have hlen : (d'.toList.map fun i : Fin (n + 1) => at_ M i.1).length = n + 1 := by simp [p1]
  have hget : ∀ j, j < n + 1 → at_ (d'.toList.map fun i : Fin (n + 1) => at_ M i.1) j = at_ M (d'[j]!) := fun j hj => by
    have h1 := at_get (d'.toList.map fun i : Fin (n + 1) => at_ M i.1) j (by rw [hlen]; exact hj)
    rw [List.getElem?_map, Array.getElem?_toList, Array.getElem?_eq_getElem (by rw [p1]; exact hj)] at h1
    rw [getElem!_pos d' j (by rw [p1]; exact hj)]
    exact (Option.some.inj h1).symm
  have hperm : (d'.toList.map fun i : Fin (n + 1) => at_ M i.1).Perm M := by
    have := p3.map fun i : Fin (n + 1) => at_ M i.1
    rw [idF_list M n hM] at this
    exact this
  refine ⟨rfl, _, hperm, ?_, sort_touch _ _ _ _ _ _ _, fun j hj => ?_⟩
  · rw [List.pairwise_iff_getElem]
    intro i j hi hj hij
    have ha : (d'.toList.map fun i : Fin (n + 1) => at_ M i.1).Pairwise fun x y => x.age ≠ y.age := (hperm.symm.pairwise_iff (fun {a b} h => Ne.symm h)).1 hages
    have h1 := List.pairwise_iff_getElem.1 ha i j hi hj hij
    rw [hlen] at hi hj
    have h2 := hs i j (Nat.zero_le _) hij hj
    unfold ltOf cfF at h2
    rw [decide_eq_false_iff_not, cfE_lt, ← hget i hi, ← hget j hj] at h2
    have g1 := at_get (d'.toList.map fun i : Fin (n + 1) => at_ M i.1) i (by rw [hlen]; exact hi)
    have g2 := at_get (d'.toList.map fun i : Fin (n + 1) => at_ M i.1) j (by rw [hlen]; exact hj)
    rw [List.getElem?_eq_getElem (by rw [hlen]; exact hi)] at g1
    rw [List.getElem?_eq_getElem (by rw [hlen]; exact hj)] at g2
    have g1 := Option.some.inj g1
    have g2 := Option.some.inj g2
    rw [g1, g2] at h1 ⊢
    rw [cfE_lt]
    omega
  · rw [hM] at hj
    unfold sortWorld
    rw [Sort.cell?_grow _ _ _ (by simpa [Sort.putRow, Sort.mapBlock, Sort.ahead] using hlt)]
    have := Sort.cell?_putRow (encF M n) (Sort.ahead w m) g 0 (idF n) d' hH (by rw [p1, idF_size]) j (by rw [p1]; exact hj)
    rw [Nat.zero_add] at this
    rw [this, hget j hj]; rfl
end Go.Proofs.Ytcgfkmjlgblkcaa.Pat
