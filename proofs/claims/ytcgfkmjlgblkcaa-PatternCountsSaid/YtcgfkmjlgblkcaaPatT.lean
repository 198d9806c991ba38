/- Plain facts: what is counted. -/
import Derived.Test.YtcgfkmjlgblkcaaPatV
namespace Go.Proofs.Ytcgfkmjlgblkcaa.Pat
set_option linter.unusedVariables false
set_option linter.unusedSimpArgs false

def keyO (o q : OpR) : Prop := q.route = o.route ∧ q.name = o.name
instance (o q : OpR) : Decidable (keyO o q) := by unfold keyO; exact inferInstance
/-- The last place of a key and how often it was learnt on end. -/
def cntS (o : OpR) (s : Int × Int) (q : OpR) : Int × Int := if 0 ≤ q.place ∧ keyO o q then (if q.place = s.1 then (s.1, s.2 + 1) else (q.place, 1)) else s
def cnt (o : OpR) (ops : List OpR) : Int × Int := ops.foldl (cntS o) (0, 0)
def seen (o : OpR) (ops : List OpR) : Prop := ∃ q ∈ ops, 0 ≤ q.place ∧ keyO o q
instance (o : OpR) (ops : List OpR) : Decidable (seen o ops) := by unfold seen; exact inferInstance
def fstS (L : List OpR) (o : OpR) : List OpR := if 0 ≤ o.place ∧ ¬ seen o L then L ++ [o] else L
/-- The first call of each key. -/
def fst (ops : List OpR) : List OpR := ops.foldl fstS []
theorem cnt_snoc (o : OpR) (ops : List OpR) (q : OpR) : cnt o (ops ++ [q]) = cntS o (cnt o ops) q := by simp [cnt, List.foldl_append]
theorem fst_snoc (ops : List OpR) (q : OpR) : fst (ops ++ [q]) = fstS (fst ops) q := by simp [fst, List.foldl_append]
theorem snoc_ind {P : List OpR → Prop} (h0 : P []) (h1 : ∀ ops o, P ops → P (ops ++ [o])) (ops : List OpR) : P ops := by
  have : ∀ (n : Nat) (ops : List OpR), ops.length = n → P ops := by
    intro n
    induction n with
    | zero => intro ops h; rw [List.eq_nil_of_length_eq_zero h]; exact h0
    | succ n ih =>
      intro ops h
      have e := List.dropLast_concat_getLast (l := ops) (by intro e; subst e; simp at h)
      rw [← e]
      exact h1 _ _ (ih _ (by simp; omega))
  exact this _ ops rfl
theorem seen_snoc (o : OpR) (ops : List OpR) (q : OpR) : seen o (ops ++ [q]) ↔ seen o ops ∨ (0 ≤ q.place ∧ keyO o q) := by
  unfold seen
  constructor
  · rintro ⟨x, hx, h⟩
    rcases List.mem_append.1 hx with hx | hx
    · exact .inl ⟨x, hx, h⟩
    · simp at hx; subst hx; exact .inr h
  · rintro (⟨x, hx, h⟩ | h)
    · exact ⟨x, List.mem_append_left _ hx, h⟩
    · exact ⟨q, by simp, h⟩
theorem keyO_trans {a b c : OpR} (h1 : keyO a b) (h2 : keyO b c) : keyO a c := ⟨h2.1.trans h1.1, h2.2.trans h1.2⟩
theorem keyO_symm {a b : OpR} (h1 : keyO a b) : keyO b a := ⟨h1.1.symm, h1.2.symm⟩
theorem fst_pos (ops : List OpR) : ∀ o ∈ fst ops, 0 ≤ o.place := by
  refine snoc_ind (P := fun ops => ∀ o ∈ fst ops, 0 ≤ o.place) (by simp [fst]) (fun ops q ih => ?_) ops
  rw [fst_snoc]
  unfold fstS
  split
  · rename_i h
    intro o ho
    rcases List.mem_append.1 ho with ho | ho
    · exact ih o ho
    · simp at ho; subst ho; exact h.1
  · exact ih
theorem fst_seen (o : OpR) (ops : List OpR) : seen o (fst ops) ↔ seen o ops := by
  refine snoc_ind (P := fun ops => seen o (fst ops) ↔ seen o ops) (by simp [fst]) (fun ops q ih => ?_) ops
  rw [fst_snoc, seen_snoc]
  unfold fstS
  by_cases h : 0 ≤ q.place ∧ ¬ seen q (fst ops)
  · rw [if_pos h, seen_snoc, ih]
  · rw [if_neg h, ih]
    refine ⟨.inl, ?_⟩
    rintro (h1 | ⟨h1, h2⟩)
    · exact h1
    · have h3 : seen q (fst ops) := Classical.byContradiction fun h3 => h ⟨h1, h3⟩
      obtain ⟨x, hx, hp, hk⟩ := h3
      exact ih.1 ⟨x, hx, hp, keyO_trans h2 hk⟩
theorem fst_length (ops : List OpR) : (fst ops).length ≤ ops.length := by
  refine snoc_ind (P := fun ops => (fst ops).length ≤ ops.length) (by simp [fst]) (fun ops q ih => ?_) ops
  rw [fst_snoc]
  unfold fstS
  split <;> simp <;> omega
theorem cnt_none {o : OpR} {ops : List OpR} : ¬ seen o ops → cnt o ops = (0, 0) := by
  refine snoc_ind (P := fun ops => ¬ seen o ops → cnt o ops = (0, 0)) (fun _ => rfl) (fun ops q ih => ?_) ops
  rw [seen_snoc, cnt_snoc]
  intro h
  rw [ih (fun h1 => h (.inl h1))]
  unfold cntS
  rw [if_neg (fun h1 => h (.inr h1))]
theorem cnt_le (o : OpR) (ops : List OpR) : 0 ≤ (cnt o ops).2 ∧ (cnt o ops).2 ≤ (ops.length : Int) := by
  refine snoc_ind (P := fun ops => 0 ≤ (cnt o ops).2 ∧ (cnt o ops).2 ≤ (ops.length : Int)) (by simp [cnt]) (fun ops q ih => ?_) ops
  rw [cnt_snoc]
  unfold cntS
  simp
  split
  · split <;> simp <;> omega
  · omega
theorem cnt_place {o : OpR} {ops : List OpR} {lo hi : Int} (h0 : lo ≤ 0 ∧ 0 ≤ hi) : (∀ q ∈ ops, lo ≤ q.place ∧ q.place ≤ hi) → lo ≤ (cnt o ops).1 ∧ (cnt o ops).1 ≤ hi := by
  refine snoc_ind (P := fun ops => (∀ q ∈ ops, lo ≤ q.place ∧ q.place ≤ hi) → lo ≤ (cnt o ops).1 ∧ (cnt o ops).1 ≤ hi) (fun _ => h0) (fun ops q ih => ?_) ops
  intro h
  have h1 := ih (fun x hx => h x (by simp [hx]))
  have h2 := h q (by simp)
  rw [cnt_snoc]
  unfold cntS
  split
  · split
    · exact h1
    · exact h2
  · exact h1
def recOf (ops : List OpR) (o : OpR) : Rec := ⟨o.route, o.name, (cnt o ops).1, (cnt o ops).2⟩
theorem counts_all (ops : List OpR) : ops.length < 4096 → learnAll 4096 [] ops = (fst ops).map (recOf ops) := by
  refine snoc_ind (P := fun ops => ops.length < 4096 → learnAll 4096 [] ops = (fst ops).map (recOf ops)) (fun _ => rfl) (fun ops q ih => ?_) ops
  intro hl
  rw [List.length_append, List.length_singleton] at hl
  have ih := ih (by omega)
  rw [learnAll_snoc, ih, fst_snoc]
  unfold learnF
  by_cases h0 : q.place < 0
  · rw [if_pos h0]
    unfold fstS
    rw [if_neg (by omega)]
    refine List.map_congr_left fun o ho => ?_
    unfold recOf
    rw [cnt_snoc]
    unfold cntS
    rw [if_neg (by omega)]
  · rw [if_neg h0]
    by_cases hs : seen q (fst ops)
    · have hex : ∃ x ∈ (fst ops).map (recOf ops), keyR q.route q.name x := by
        obtain ⟨x, hx, hp, hk⟩ := hs
        exact ⟨_, List.mem_map_of_mem hx, hk⟩
      rw [if_pos hex]
      unfold fstS
      rw [if_neg (fun h => h.2 hs), List.map_map]
      refine List.map_congr_left fun o ho => ?_
      show hitL q.route q.name q.place (recOf ops o) = recOf (ops ++ [q]) o
      unfold hitL
      by_cases hk : keyO o q
      · have hk' : keyR q.route q.name (recOf ops o) := ⟨hk.1.symm, hk.2.symm⟩
        rw [if_pos hk']
        unfold recOf
        rw [cnt_snoc]
        unfold cntS
        rw [if_pos ⟨by omega, hk⟩]
        unfold hitR
        have hle := cnt_le o ops
        by_cases hp : q.place = (cnt o ops).1
        · rw [if_pos hp.symm, if_pos hp]
          show (⟨o.route, o.name, (cnt o ops).1, min ((cnt o ops).2 + 1) 4611686018427387904⟩ : Rec) = ⟨o.route, o.name, (cnt o ops).1, (cnt o ops).2 + 1⟩
          rw [show min ((cnt o ops).2 + 1) 4611686018427387904 = (cnt o ops).2 + 1 by omega]
        · rw [if_neg (fun h => hp h.symm), if_neg hp]
      · have hk' : ¬ keyR q.route q.name (recOf ops o) := fun h => hk ⟨h.1.symm, h.2.symm⟩
        rw [if_neg hk']
        unfold recOf
        rw [cnt_snoc]
        unfold cntS
        rw [if_neg (fun h => hk h.2)]
    · have hnex : ¬ ∃ x ∈ (fst ops).map (recOf ops), keyR q.route q.name x := by
        rintro ⟨x, hx, hk⟩
        obtain ⟨y, hy, rfl⟩ := List.mem_map.1 hx
        exact hs ⟨y, hy, fst_pos ops y hy, hk⟩
      have hfl := fst_length ops
      rw [if_neg hnex, if_neg (by omega), List.length_map, if_neg (by omega)]
      unfold fstS
      rw [if_pos ⟨by omega, hs⟩, List.map_append]
      congr 1
      · refine List.map_congr_left fun o ho => ?_
        unfold recOf
        rw [cnt_snoc]
        unfold cntS
        rw [if_neg (fun h => hs ⟨o, ho, fst_pos ops o ho, keyO_symm h.2⟩)]
      · show [_] = [recOf (ops ++ [q]) q]
        unfold recOf
        rw [cnt_snoc, cnt_none (fun h => hs ((fst_seen q ops).2 h))]
        unfold cntS
        rw [if_pos ⟨by omega, rfl, rfl⟩]
        by_cases hp : q.place = 0
        · rw [if_pos hp, hp]; rfl
        · rw [if_neg hp]
theorem fst_sub (a b : List OpR) : ∀ o ∈ fst a, o ∈ fst (a ++ b) := by
  refine snoc_ind (P := fun b => ∀ o ∈ fst a, o ∈ fst (a ++ b)) (by simp) (fun b q ih => ?_) b
  intro o ho
  rw [← List.append_assoc, fst_snoc]
  unfold fstS
  split
  · exact List.mem_append_left _ (ih o ho)
  · exact ih o ho
theorem fst_take {ops : List OpR} {i : Nat} (hi : i < ops.length) : fst (ops.take (i + 1)) = if 0 ≤ (oa ops i).place ∧ ¬ seen (oa ops i) (ops.take i) then fst (ops.take i) ++ [oa ops i] else fst (ops.take i) := by
  rw [take_snoc_o ops i hi, fst_snoc]
  unfold fstS
  have h := fst_seen (oa ops i) (ops.take i)
  by_cases h1 : 0 ≤ (oa ops i).place ∧ ¬ seen (oa ops i) (ops.take i)
  · rw [if_pos h1, if_pos ⟨h1.1, fun h2 => h1.2 (h.1 h2)⟩]
  · rw [if_neg h1, if_neg (fun h2 => h1 ⟨h2.1, fun h3 => h2.2 (h.2 h3)⟩)]
theorem counts_in {ops : List OpR} (hl : ops.length < 4096) {i : Nat} (hi : i < ops.length) (h0 : 0 ≤ (oa ops i).place) (hs : ¬ seen (oa ops i) (ops.take i)) : recOf ops (oa ops i) ∈ learnAll 4096 [] ops := by
  rw [counts_all ops hl]
  refine List.mem_map_of_mem ?_
  have h1 := fst_sub (ops.take (i + 1)) (ops.drop (i + 1)) (oa ops i) (by rw [fst_take hi, if_pos ⟨h0, hs⟩]; simp)
  rwa [List.take_append_drop] at h1
theorem counts_len {ops : List OpR} (hl : ops.length < 4096) : (learnAll 4096 [] ops).length = (fst ops).length := by rw [counts_all ops hl, List.length_map]
end Go.Proofs.Ytcgfkmjlgblkcaa.Pat
