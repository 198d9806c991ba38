/- Chapters 13 and 14 (floats, shortest): contracts of the division of whole numbers. No conditions beside those that each contract names. -/
import Derived.Test.YtabmalnandbocaaGreatDoorMA
import Derived.Test.YtabmalnandbocaaGreatDoorMB
import Derived.Deep.RegionHeld3
import Derived.Laws.CopyOwn
namespace Go.Proofs.YtabmalnandbocaaGreatDoor.Num
set_option exponentiation.threshold 3000
set_option linter.unusedVariables false
set_option linter.unusedSimpArgs false
open Go.Proofs.YtabmalnandbocaaGreatDoor.Big

/-- What the two rows hold at a round's head: what is left, and the digits that are known. -/
structure DvM (V U0 k : Nat) (lu lq : List Nat) : Prop where
  sum : val B lu + V * val B lq = U0
  low : val B lu < V * B ^ k
  z : ∀ j, j < k → lq.getD j 0 = 0
/-- The row while g times the divisor is taken away at place j. -/
structure SubM (vs : List Nat) (Uc n j g i c d : Nat) (l : List Nat) : Prop where
  eq : val B l + B ^ j * (g * val B (vs.take i)) = Uc + B ^ (j + i) * (c + d)
  dig : Dig B l
  high : ∀ t, j + n < t → l.getD t 0 = 0
  c1 : c < B
  d1 : d ≤ 1
/-- A word less a word and what was lent. -/
def subW (u lo d : Nat) : Nat := if u < lo + d then u + B - lo - d else u - lo - d
def subD (u lo d : Nat) : Nat := if u < lo + d then 1 else 0
theorem subW_lt {u lo d : Nat} (hu : u < B) (hl : lo < B) (hd : d ≤ 1) : subW u lo d < B := by unfold subW; split <;> omega
theorem subW_eq {u lo d : Nat} (hu : u < B) (hl : lo < B) (hd : d ≤ 1) : subW u lo d + lo + d = u + B * subD u lo d := by
  unfold subW subD
  split
  · omega
  · omega
theorem subD_le (u lo d : Nat) : subD u lo d ≤ 1 := by unfold subD; split <;> omega
theorem mul_lt_sq {p q c : Nat} (hp : p < B) (hq : q < B) (hc : c < B) : c + p * q < B * B := by
  have := sq_lt hp hq hc B_pos
  omega
theorem SubM.step {vs : List Nat} {Uc n j g i c d : Nat} {l : List Nat} (h : SubM vs Uc n j g i c d l) (hi : i < n) (hl : j + n < l.length) (hg : g < B) (hv : vs.getD i 0 < B) {cc u : Nat} (hcc : cc = c + g * vs.getD i 0) (hu : u = l.getD (j + i) 0) :
    SubM vs Uc n j g (i + 1) (cc / B) (subD u (cc % B) d) (l.set (j + i) (subW u (cc % B) d)) := by
  have huB : u < B := by rw [hu]; exact h.dig.getD B_pos _
  have hlo : cc % B < B := Nat.mod_lt _ B_pos
  have hw := subW_lt huB hlo h.d1
  have he := subW_eq huB hlo h.d1
  refine ⟨?_, h.dig.set _ _ hw, fun t ht => ?_, ?_, subD_le _ _ _⟩
  · have e := h.eq
    have e2 := val_set (b := B) l (j + i) (subW u (cc % B) d) (by omega)
    have hd := Nat.mod_add_div cc B
    rw [val_take_succ, ← Nat.add_assoc j i 1, Nat.pow_succ]
    rw [← hu] at e2
    generalize subW u (cc % B) d = x at *
    generalize subD u (cc % B) d = y at *
    generalize cc % B = lo at *
    generalize cc / B = ch at *
    generalize val B (l.set (j + i) x) = V2 at *
    generalize val B (vs.take i) = T at *
    generalize vs.getD i 0 = vi at *
    rw [Nat.pow_add] at e e2 ⊢
    generalize B ^ j = P at *
    generalize B ^ i = Q at *
    grind
  · rw [getD_set, if_neg (by omega)]; exact h.high t ht
  · refine Nat.div_lt_of_lt_mul ?_
    rw [hcc]; exact mul_lt_sq hg hv h.c1
/-- The top word of it. -/
structure TopM (vs : List Nat) (Uc n j g d : Nat) (l : List Nat) : Prop where
  eq : val B l + B ^ j * (g * val B (vs.take n)) = Uc + B ^ (j + n + 1) * d
  dig : Dig B l
  high : ∀ t, j + n < t → l.getD t 0 = 0
theorem SubM.top_ {vs : List Nat} {Uc n j g c d : Nat} {l : List Nat} (h : SubM vs Uc n j g n c d l) (hl : j + n < l.length) {u : Nat} (hu : u = l.getD (j + n) 0) :
    TopM vs Uc n j g (subD u c d) (l.set (j + n) (subW u c d)) := by
  have huB : u < B := by rw [hu]; exact h.dig.getD B_pos _
  have hw := subW_lt huB h.c1 h.d1
  have he := subW_eq huB h.c1 h.d1
  refine ⟨?_, h.dig.set _ _ hw, fun t ht => ?_⟩
  · have e := h.eq
    have e2 := val_set (b := B) l (j + n) (subW u c d) (by omega)
    rw [Nat.pow_succ]
    rw [← hu] at e2
    generalize subW u c d = x at *
    generalize subD u c d = y at *
    generalize val B (l.set (j + n) x) = V2 at *
    generalize val B (vs.take n) = T at *
    generalize B ^ (j + n) = PQ at *
    grind
  · rw [getD_set, if_neg (by omega)]; exact h.high t ht
/-- The row while the divisor is added again. -/
structure AddM (vs l0 : List Nat) (n j i c : Nat) (l : List Nat) : Prop where
  eq : val B l + B ^ (j + i) * c = val B l0 + B ^ j * val B (vs.take i)
  dig : Dig B l
  high : ∀ t, j + n < t → l.getD t 0 = 0
  c1 : c ≤ 1
theorem AddM.step {vs l0 : List Nat} {n j i c : Nat} {l : List Nat} (h : AddM vs l0 n j i c l) (hi : i < n) (hl : j + n < l.length) (hv : vs.getD i 0 < B) {s : Nat} (hs : s = c + (l.getD (j + i) 0 + vs.getD i 0)) :
    AddM vs l0 n j (i + 1) (s / B) (l.set (j + i) (s % B)) := by
  have huB : l.getD (j + i) 0 < B := h.dig.getD B_pos _
  have h1 := h.c1
  refine ⟨?_, h.dig.set _ _ (Nat.mod_lt _ B_pos), fun t ht => ?_, ?_⟩
  · have e := h.eq
    have e2 := val_set (b := B) l (j + i) (s % B) (by omega)
    have hd := Nat.mod_add_div s B
    rw [val_take_succ, ← Nat.add_assoc j i 1, Nat.pow_succ]
    generalize s % B = lo at *
    generalize s / B = ch at *
    generalize l.getD (j + i) 0 = u at *
    generalize val B (l.set (j + i) lo) = V2 at *
    generalize val B (vs.take i) = T at *
    generalize vs.getD i 0 = vi at *
    rw [Nat.pow_add] at e e2 ⊢
    generalize B ^ j = P at *
    generalize B ^ i = Q at *
    grind
  · rw [getD_set, if_neg (by omega)]; exact h.high t ht
  · rw [B_eq] at *; omega
theorem AddM.top_ {vs l0 : List Nat} {n j c : Nat} {l : List Nat} (h : AddM vs l0 n j n c l) (hl : j + n < l.length) {u : Nat} (hu : u = l.getD (j + n) 0) :
    ∃ e : Nat, e ≤ 1 ∧ val B (l.set (j + n) ((u + c) % B)) + B ^ (j + n + 1) * e = val B l0 + B ^ j * val B (vs.take n) ∧ Dig B (l.set (j + n) ((u + c) % B)) ∧ ∀ t, j + n < t → (l.set (j + n) ((u + c) % B)).getD t 0 = 0 := by
  have huB : u < B := by rw [hu]; exact h.dig.getD B_pos _
  have h1 := h.c1
  refine ⟨(u + c) / B, by rw [B_eq] at *; omega, ?_, h.dig.set _ _ (Nat.mod_lt _ B_pos), fun t ht => ?_⟩
  · have e := h.eq
    have e2 := val_set (b := B) l (j + n) ((u + c) % B) (by omega)
    have hd := Nat.mod_add_div (u + c) B
    rw [Nat.pow_succ]
    rw [← hu] at e2
    generalize (u + c) % B = lo at *
    generalize (u + c) / B = ch at *
    generalize val B (l.set (j + n) lo) = V2 at *
    generalize val B (vs.take n) = T at *
    generalize B ^ (j + n) = PQ at *
    grind
  · rw [getD_set, if_neg (by omega)]; exact h.high t ht
end Go.Proofs.YtabmalnandbocaaGreatDoor.Num
namespace Go.Proofs.YtabmalnandbocaaGreatDoor.Num
set_option exponentiation.threshold 3000
set_option linter.unusedVariables false
set_option linter.unusedSimpArgs false
open Go.Proofs.YtabmalnandbocaaGreatDoor.Big

/-- A round: the divisor's words, the row, the place. -/
structure Rnd (vs : List Nat) (V n j : Nat) (lu : List Nat) : Prop where
  vd : Dig B vs
  vl : vs.length = n
  vv : val B vs = V
  n2 : 2 ≤ n
  top2 : B ≤ 2 * vs.getD (n - 1) 0
  ud : Dig B lu
  ul : j + n < lu.length
  low : val B lu < V * B ^ (j + 1)
section
variable {vs : List Nat} {V n j : Nat} {lu : List Nat}
theorem Rnd.v_lt (h : Rnd vs V n j lu) : V < B ^ n := by rw [← h.vv, ← h.vl]; exact val_lt h.vd
theorem Rnd.v_pos (h : Rnd vs V n j lu) : 0 < V := by
  rcases Nat.eq_zero_or_pos V with e | e
  · have := h.low; rw [e] at this; simp at this
  · exact e
theorem Rnd.u_lt (h : Rnd vs V n j lu) : val B lu < B ^ (j + n + 1) := by
  have h1 : V * B ^ (j + 1) < B ^ n * B ^ (j + 1) := Nat.mul_lt_mul_of_pos_right h.v_lt (Nat.pow_pos B_pos)
  rw [← Nat.pow_add, show n + (j + 1) = j + n + 1 by omega] at h1
  exact Nat.lt_trans h.low h1
theorem high_zero {l : List Nat} {m : Nat} (hd : Dig B l) (h : val B l < B ^ m) : ∀ t, m ≤ t → l.getD t 0 = 0 := fun t ht => by
  rw [val_getD hd, Nat.div_eq_of_lt (Nat.lt_of_lt_of_le h (Nat.pow_le_pow_right B_pos ht)), Nat.zero_mod]
theorem Rnd.high (h : Rnd vs V n j lu) : ∀ t, j + n < t → lu.getD t 0 = 0 := fun t ht => high_zero h.ud h.u_lt t ht
/-- The two words on top of the divisor. -/
theorem Rnd.v_top (h : Rnd vs V n j lu) : (vs.getD (n - 1) 0 * B + vs.getD (n - 2) 0) * B ^ (n - 2) ≤ V ∧ V < (vs.getD (n - 1) 0 * B + vs.getD (n - 2) 0 + 1) * B ^ (n - 2) := by
  obtain ⟨hd, hl, hv, h2, -, -, -, -⟩ := h
  obtain ⟨m, rfl⟩ : ∃ m, n = m + 2 := ⟨n - 2, by omega⟩
  have e1 := val_split (b := B) vs m (by omega)
  have e2 := val_drop (b := B) (l := vs) m (by omega)
  have e3 := val_drop (b := B) (l := vs) (m + 1) (by omega)
  have e4 : vs.drop (m + 1 + 1) = [] := List.drop_of_length_le (by omega)
  rw [e4] at e3
  simp only [val, Nat.mul_zero, Nat.add_zero] at e3
  have a1 := val_lt (hd.take m)
  rw [List.length_take, Nat.min_eq_left (by omega)] at a1
  rw [e3] at e2
  rw [e2, hv] at e1
  rw [show m + 2 - 1 = m + 1 by omega, show m + 2 - 2 = m by omega]
  generalize vs.getD (m + 1) 0 = t at *
  generalize vs.getD m 0 = s at *
  generalize val B (vs.take m) = L at *
  generalize B ^ m = P at *
  constructor <;> grind
/-- The three words on top of what is divided. -/
theorem Rnd.u_top (h : Rnd vs V n j lu) : (lu.getD (j + n) 0 * B * B + lu.getD (j + n - 1) 0 * B + lu.getD (j + n - 2) 0) * B ^ (n - 2) ≤ val B lu / B ^ j ∧
    val B lu / B ^ j < (lu.getD (j + n) 0 * B * B + lu.getD (j + n - 1) 0 * B + lu.getD (j + n - 2) 0 + 1) * B ^ (n - 2) := by
  have hu := h.u_lt
  obtain ⟨hd, hl, hv, h2, -, ud, ul, -⟩ := h
  obtain ⟨m, rfl⟩ : ∃ m, n = m + 2 := ⟨n - 2, by omega⟩
  have e1 := val_split (b := B) lu (j + m) (by omega)
  have e2 := val_drop (b := B) (l := lu) (j + m) (by omega)
  have e3 := val_drop (b := B) (l := lu) (j + m + 1) (by omega)
  have e4 := val_drop (b := B) (l := lu) (j + m + 1 + 1) (by omega)
  have e5 : val B (lu.drop (j + m + 1 + 1 + 1)) = 0 := by
    rw [val_drop_div ud B_pos _ (by omega), Nat.div_eq_of_lt]
    exact hu
  have a1 := val_lt (ud.take (j + m))
  rw [List.length_take, Nat.min_eq_left (by omega)] at a1
  rw [e5] at e4
  simp only [Nat.mul_zero, Nat.add_zero] at e4
  rw [e4] at e3
  rw [e3] at e2
  rw [e2] at e1
  rw [show m + 2 - 2 = m by omega, show j + (m + 2) - 1 = j + m + 1 by omega, show j + (m + 2) - 2 = j + m by omega, show j + (m + 2) = j + m + 1 + 1 by omega]
  generalize lu.getD (j + m + 1 + 1) 0 = a at *
  generalize lu.getD (j + m + 1) 0 = b at *
  generalize lu.getD (j + m) 0 = c at *
  generalize val B (lu.take (j + m)) = L at *
  generalize val B lu = U at *
  rw [Nat.pow_add] at a1 e1
  have hp : 0 < B ^ j := Nat.pow_pos B_pos
  generalize B ^ j = J at *
  generalize B ^ m = P at *
  constructor
  · rw [Nat.le_div_iff_mul_le hp, e1]
    have : (a * B * B + b * B + c) * P * J = J * P * (c + B * (b + B * a)) := by grind
    omega
  · rw [Nat.div_lt_iff_lt_mul hp, e1]
    have : (a * B * B + b * B + c + 1) * P * J = J * P * (c + B * (b + B * a)) + J * P := by grind
    omega
theorem Rnd.seg_lt (h : Rnd vs V n j lu) : val B lu / B ^ j < V * B := by
  rw [Nat.div_lt_iff_lt_mul (Nat.pow_pos B_pos), Nat.mul_assoc, ← Nat.pow_succ']
  exact h.low
theorem Rnd.u2_le (h : Rnd vs V n j lu) : lu.getD (j + n) 0 ≤ vs.getD (n - 1) 0 := by
  have a1 := h.u_top.1
  have a2 := h.v_top.2
  have a3 := h.seg_lt
  have hn := (h.vd.getD B_pos (n - 2))
  generalize lu.getD (j + n) 0 = a at *
  generalize lu.getD (j + n - 1) 0 = b at *
  generalize lu.getD (j + n - 2) 0 = c at *
  generalize vs.getD (n - 1) 0 = t at *
  generalize vs.getD (n - 2) 0 = s at *
  generalize val B lu / B ^ j = U at *
  have hp : 0 < B ^ (n - 2) := Nat.pow_pos B_pos
  generalize B ^ (n - 2) = P at *
  apply Classical.byContradiction
  intro hlt
  have h1 : (t + 1) * B * B * P ≤ (a * B * B + b * B + c) * P := by
    apply Nat.mul_le_mul_right
    have : (t + 1) * B * B ≤ a * B * B := Nat.mul_le_mul_right _ (Nat.mul_le_mul_right _ (by omega))
    omega
  have h2 : V * B < (t * B + s + 1) * P * B := Nat.mul_lt_mul_of_pos_right a2 B_pos
  have h3 : (t * B + s + 1) * P * B ≤ (t + 1) * B * B * P := by
    have : (t * B + s + 1) * P * B = (t * B + s + 1) * B * P := by grind
    rw [this]
    apply Nat.mul_le_mul_right
    apply Nat.mul_le_mul_right
    rw [Nat.add_mul]; omega
  omega
/-- The guess is the digit, or one more. -/
theorem Rnd.guess (h : Rnd vs V n j lu) {g : Nat} (h1 : g + 1 ≤ B) (h2 : g * (vs.getD (n - 1) 0 * B + vs.getD (n - 2) 0) ≤ lu.getD (j + n) 0 * B * B + lu.getD (j + n - 1) 0 * B + lu.getD (j + n - 2) 0)
    (h3 : g + 1 = B ∨ lu.getD (j + n) 0 * B * B + lu.getD (j + n - 1) 0 * B + lu.getD (j + n - 2) 0 < (g + 1) * (vs.getD (n - 1) 0 * B + vs.getD (n - 2) 0)) :
    val B lu / B ^ j / V ≤ g ∧ g ≤ val B lu / B ^ j / V + 1 := by
  have ht : 1 ≤ vs.getD (n - 1) 0 := by have := h.top2; have := B_pos; omega
  exact q_est (b := B) h.v_top.1 h.v_top.2 h.u_top.1 h.u_top.2 h.seg_lt (by have := Nat.mul_le_mul_right B ht; omega) (Nat.pow_pos B_pos) B_pos h1 h2 h3 rfl
theorem seg_mul (h : Rnd vs V n j lu) {g : Nat} : B ^ j * (g * V) ≤ val B lu ↔ g ≤ val B lu / B ^ j / V := by
  rw [Nat.le_div_iff_mul_le h.v_pos, Nat.le_div_iff_mul_le (Nat.pow_pos B_pos), Nat.mul_comm]
/-- Nothing was lent: the guess is the digit. -/
theorem Rnd.right (h : Rnd vs V n j lu) {g : Nat} (hg : val B lu / B ^ j / V ≤ g ∧ g ≤ val B lu / B ^ j / V + 1) {l : List Nat} (ht : TopM vs (val B lu) n j g 0 l) :
    g = val B lu / B ^ j / V ∧ val B l + B ^ j * (g * V) = val B lu := by
  have e := ht.eq
  rw [List.take_of_length_le (by rw [h.vl]; exact Nat.le_refl _), h.vv, Nat.mul_zero, Nat.add_zero] at e
  have := (seg_mul h (g := g)).1 (by omega)
  exact ⟨Nat.le_antisymm this hg.1, e⟩
/-- Something was lent: it is one less. -/
theorem Rnd.less (h : Rnd vs V n j lu) {g : Nat} (hg : val B lu / B ^ j / V ≤ g ∧ g ≤ val B lu / B ^ j / V + 1) {l l2 : List Nat} {e : Nat} (ht : TopM vs (val B lu) n j g 1 l) (he : e ≤ 1)
    (h2 : val B l2 + B ^ (j + n + 1) * e = val B l + B ^ j * val B (vs.take n)) (hd : Dig B l2) (hz : ∀ t, j + n < t → l2.getD t 0 = 0) :
    0 < g ∧ g - 1 = val B lu / B ^ j / V ∧ val B l2 + B ^ j * ((g - 1) * V) = val B lu := by
  have e1 := ht.eq
  have hl := val_small ht.dig B_pos (k := j + n + 1) (fun t htt => ht.high t htt)
  have hl2 := val_small hd B_pos (k := j + n + 1) (fun t htt => hz t htt)
  rw [List.take_of_length_le (by rw [h.vl]; exact Nat.le_refl _), h.vv] at e1 h2
  have a1 : ¬ g ≤ val B lu / B ^ j / V := fun hc => by
    have := (seg_mul h (g := g)).2 hc
    omega
  have a2 : g - 1 = val B lu / B ^ j / V := by
    generalize val B lu / B ^ j / V = q at *
    omega
  have a3 := (seg_mul h (g := g - 1)).2 (Nat.le_of_eq a2)
  have a5 : 0 < g := by
    generalize val B lu / B ^ j / V = q at *
    omega
  refine ⟨a5, a2, ?_⟩
  obtain ⟨k, rfl⟩ : ∃ k, g = k + 1 := ⟨g - 1, by omega⟩
  rw [Nat.add_sub_cancel] at *
  have a4 : B ^ j * ((k + 1) * V) = B ^ j * (k * V) + B ^ j * V := by grind
  rw [a4] at e1
  rcases Nat.eq_zero_or_pos e with rfl | hp
  · omega
  · obtain rfl : e = 1 := by omega
    omega
/-- The round is over. -/
theorem DvM.step {U0 : Nat} {lq l : List Nat} (h : DvM V U0 (j + 1) lu lq) (hr : Rnd vs V n j lu) (hl : val B l + B ^ j * (val B lu / B ^ j / V * V) = val B lu) (hq : j < lq.length) :
    val B lu / B ^ j / V < B ∧ DvM V U0 j l (lq.set j (val B lu / B ^ j / V)) := by
  have hqB : val B lu / B ^ j / V < B := (Nat.div_lt_iff_lt_mul hr.v_pos).2 (by rw [Nat.mul_comm]; exact hr.seg_lt)
  refine ⟨hqB, ?_, ?_, fun i hi => ?_⟩
  · rw [val_put hq (h.z j (by omega)), ← h.sum]
    grind
  · have h1 := Nat.lt_div_mul_add (a := val B lu / B ^ j) hr.v_pos
    have h2 := Nat.lt_div_mul_add (a := val B lu) (b := B ^ j) (Nat.pow_pos B_pos)
    generalize val B lu / B ^ j / V = q at *
    generalize val B lu / B ^ j = S at *
    generalize val B lu = U at *
    generalize val B l = L at *
    have hp : 0 < B ^ j := Nat.pow_pos B_pos
    generalize B ^ j = J at *
    have h3 : (S + 1) * J ≤ (q * V + V) * J := Nat.mul_le_mul_right _ h1
    grind
  · rw [getD_set, if_neg (by omega)]; exact h.z i (by omega)
end
end Go.Proofs.YtabmalnandbocaaGreatDoor.Num
namespace Go.Proofs.YtabmalnandbocaaGreatDoor.Num
set_option exponentiation.threshold 3000
set_option linter.unusedVariables false
set_option linter.unusedSimpArgs false
open Go.RowKit Go.Proofs.YtabmalnandbocaaGreatDoor.Mem Go.Proofs.YtabmalnandbocaaGreatDoor.Own Go.Proofs.YtabmalnandbocaaGreatDoor.Big

def DivPost (w : World) (x y : Nat) (e : Ending) (w' : World) : Prop :=
  ∃ A n c A' n' c', e = .returned (.tuple #[.slice A n c, .slice A' n' c']) ∧ NumAt w' A n (x / y) ∧ NumAt w' A' n' (x % y) ∧ Below w.heap.size w w'
/-- What fits a word of 64 bits. -/
def U64 (z : Int) : Prop := 0 ≤ z ∧ z < 18446744073709551616
theorem words_any (w : World) (z : Int) (h : U64 z) : Calls Tryz.prog 122 #[.int .u64 z] w (NumPost w z.toNat) := by
  obtain ⟨k, rfl⟩ := Int.eq_ofNat_of_zero_le h.1
  have := h.2
  exact words_w k w (by omega)
theorem cmpI_val {x y : Nat} (h : x < y) : cmpI x y = -1 := (cmpI_lt h).symm
theorem cmpI_nonneg {x y : Nat} (h : y ≤ x) : decide (cmpI x y < 0) = false := by
  unfold cmpI; rw [if_neg (by omega)]; split <;> simp
set_option maxHeartbeats 4000000 in
set_option maxRecDepth 100000 in
theorem div_less (A : Option Addr) (n c x : Nat) (A' : Option Addr) (n' c' y : Nat) (w : World) (ha : NumAt w A n x) (hb : NumAt w A' n' y) (hm : n < 500000000) (hm' : n' < 500000000) (hy : y ≠ 0) (hlt : x < y) :
    Calls Tryz.prog 124 #[.slice A n c, .slice A' n' c'] w (DivPost w x y) := by
  have hn' : n' ≠ 0 := fun h => hy (hb.len_zero.1 h)
  have t0 : ((n' : Int) == 0) = false := by rw [beq_eq_false_iff_ne]; omega
  have HC := Lib.hid (cmp_w A n c x A' n' c' y w ha hb (by omega) (by omega))
  have HA := Lib.hid ha
  have HV := Lib.hid (cmpI_val hlt)
  have HLT := Lib.hid hlt
  clear ha hb hy hn' hlt
  go_enter Tryz.func124, Tryz.ntmps124
  go_wp2_with fail
  refine HC.out.mono ?_
  rintro e w1 ⟨rfl, q, rfl⟩
  rw [HV.out]
  have HT := Lib.hid (twin_w A n c x (w.drewN q) (HA.out.drewN q) (by omega))
  go_wp2_with fail
  refine HT.out.mono ?_
  rintro e w2 ⟨A2, n2, c2, rfl, h2, b2⟩
  have H2 := Lib.hid h2
  clear h2
  go_wp2_with fail
  go_ret2
  exact ⟨none, 0, 0, A2, n2, c2, rfl, by rw [Nat.div_eq_of_lt HLT.out]; exact NumAt.nil _ _, by rw [Nat.mod_eq_of_lt HLT.out]; exact H2.out, (bdrewN (Below.refl _ w) q).trans b2⟩
set_option maxHeartbeats 4000000 in
set_option maxRecDepth 100000 in
theorem div_two (A : Option Addr) (n c x : Nat) (A' : Option Addr) (n' c' y : Nat) (w : World) (ha : NumAt w A n x) (hb : NumAt w A' n' y) (hm : n ≤ 2) (hm' : n' < 500000000) (hy : y ≠ 0) (hle : y ≤ x) :
    Calls Tryz.prog 124 #[.slice A n c, .slice A' n' c'] w (DivPost w x y) := by
  have hn' : n' ≠ 0 := fun h => hy (hb.len_zero.1 h)
  have t0 : ((n' : Int) == 0) = false := by rw [beq_eq_false_iff_ne]; omega
  have HC := Lib.hid (cmp_w A n c x A' n' c' y w ha hb (by omega) (by omega))
  have HP := Lib.hid (fun W (h : NumAt W A n x) => plain_w A n c x W h (by omega))
  have HP' := Lib.hid (fun W (h : NumAt W A' n' y) => plain_w A' n' c' y W h (by omega))
  have hx : x < 18446744073709551616 := by
    have := digs_lt hB x
    rw [← ha.1] at this
    refine Nat.lt_of_lt_of_le this ?_
    exact Nat.pow_le_pow_right (n := B) B_pos hm
  have HA := Lib.hid ha
  have HB := Lib.hid hb
  have tv := cmpI_nonneg hle
  clear ha hb hn'
  have HWA := Lib.hid words_any
  have hdq : x / y < 18446744073709551616 := Nat.lt_of_le_of_lt (Nat.div_le_self _ _) hx
  have hmq : x % y < 18446744073709551616 := Nat.lt_of_le_of_lt (Nat.mod_le _ _) hx
  have hx2 : x % 18446744073709551616 = x := Nat.mod_eq_of_lt hx
  have hy2 : y % 18446744073709551616 = y := Nat.mod_eq_of_lt (by omega)
  rw [hx2] at HP
  rw [hy2] at HP'
  have ty : ((y : Int) == 0) = false := by rw [beq_eq_false_iff_ne]; omega
  have t2 : decide ((n : Int) ≤ 2) = true := by simp; omega
  have e1 : ((x / y : Nat) : Int) = (x : Int) / (y : Int) := by simp
  have e2 : ((x % y : Nat) : Int) = (x : Int) % (y : Int) := by simp
  have e3 : IntKind.u64.wrap ((x : Int) / (y : Int)) = ((x / y : Nat) : Int) := by rw [← e1]; exact wraps_u64 _ (Int.natCast_nonneg _) (by have := Int.ofNat_lt.2 hdq; omega)
  have e4 : (x : Int).tmod (y : Int) = ((x % y : Nat) : Int) := by rw [Int.tmod_eq_emod_of_nonneg (Int.natCast_nonneg _)]; exact e2.symm
  have HF1 : U64 (IntKind.u64.wrap ((x : Int) / (y : Int))) := by rw [e3]; exact ⟨Int.natCast_nonneg _, Int.ofNat_lt.2 hdq⟩
  have HF2 : U64 ((x : Int).tmod (y : Int)) := by rw [e4]; exact ⟨Int.natCast_nonneg _, Int.ofNat_lt.2 hmq⟩
  have E1 := Lib.hid (congrArg Int.toNat e3)
  have E2 := Lib.hid (congrArg Int.toNat e4)
  clear hx2 hy2 hdq hmq e1 e2 e3 e4 hle
  go_enter Tryz.func124, Tryz.ntmps124
  go_wp2_with fail
  refine HC.out.mono ?_
  rintro e w1 ⟨rfl, q, rfl⟩
  go_wp2_with fail
  refine (HP.out _ (HA.out.drewN q)).mono ?_
  rintro e w2 ⟨rfl, rfl⟩
  go_wp2_with fail
  refine (HP'.out _ (HB.out.drewN q)).mono ?_
  rintro e w2 ⟨rfl, rfl⟩
  go_wp2_with fail
  go_region_held3 (fun w' => True) (trivial) ((go_at_call 122; refine (HWA.out _ _ (by assumption)).mono ?_; rintro e w2 ⟨A2, n2, c2, rfl, h2, b2⟩; have z2 := b2.size))
  go_wp2_with fail
  go_ret2
  refine ⟨_, _, _, _, _, _, rfl, ?_, ?_, bthen (bthen (bdrewN (Below.refl _ w) _) (by assumption)) b2⟩
  · have h := NumAt.below (by assumption) b2
    rw [E1.out] at h; exact h
  · rw [E2.out] at h2; exact h2
set_option maxHeartbeats 4000000 in
set_option maxRecDepth 100000 in
theorem div_one (A : Option Addr) (n c x : Nat) (A' : Option Addr) (c' y : Nat) (w : World) (ha : NumAt w A n x) (hb : NumAt w A' 1 y) (hm : n < 500000000) (h2 : 2 < n) (hle : y ≤ x) :
    Calls Tryz.prog 124 #[.slice A n c, .slice A' 1 c'] w (DivPost w x y) := by
  have HC := Lib.hid (cmp_w A n c x A' 1 c' y w ha hb (by omega) (by omega))
  have tv := cmpI_nonneg hle
  obtain ⟨b, off, rfl, hblt, hbc⟩ := hb.2.cells (by rw [← hb.1]; decide)
  have c0 := hbc 0 (by rw [← hb.1]; decide)
  have hy : (digs B y).getD 0 0 = y := by
    have := val_take_succ (b := B) (digs B y) 0
    rw [List.take_of_length_le (by rw [← hb.1]; exact Nat.le_refl _), digs_val hB] at this
    simp [val] at this
    exact this.symm
  have hy0 : 0 < y := by
    rcases Nat.eq_zero_or_pos y with rfl | h
    · have := hb.1; rw [digs_zero] at this; cases this
    · exact h
  have hyB := (digs_dig hB y).getD B_pos 0
  rw [hy] at c0 hyB
  rw [B_eq] at hyB
  have HS := Lib.hid (fun W (h : NumAt W A n x) => small_w A n c x y W h (by omega) hy0 hyB)
  have HA := Lib.hid ha
  have HC0 := Lib.hid c0
  rw [Nat.add_zero] at HC0
  have t2 : decide ((n : Int) ≤ 2) = false := by simp; omega
  clear ha hb hy hbc c0 hle
  go_enter Tryz.func124, Tryz.ntmps124
  go_wp2_with fail
  refine HC.out.mono ?_
  rintro e w1 ⟨rfl, q, rfl⟩
  have c1 : (w.drewN q).cell? ⟨b, off, none⟩ = some (.int .u32 (y : Nat)) := HC0.out
  go_wp2_with fail
  refine (HS.out _ (HA.out.drewN q)).mono ?_
  rintro e w2 ⟨A2, n2, c2, rfl, h3, b3, -⟩
  have H3 := Lib.hid h3
  have z3 := b3.size
  have hr : x % y < 4294967296 := by have := Nat.mod_lt x hy0; omega
  have hrv : val B [x % y] = x % y := by simp [val]
  have hblk := Blk.new w2 94 (arr .u32 [x % y])
  have HT := Lib.hid (trim_w (some ⟨w2.heap.size, 0, none⟩) 1 1 [x % y] _ rfl (by omega) (Nat.le_refl _) (LAt.of_blk hblk) (Dig.one (by rw [B_eq]; exact hr)))
  have HBK := Lib.hid hblk
  have HRV := Lib.hid hrv
  clear h3 hblk hrv
  simp only [arr, List.map_cons, List.map_nil] at HT
  go_wp2_with fail
  refine HT.out.mono ?_
  rintro e w4 h4
  have h5 := num_post (l := [x % y]) h4 ((Below.refl _ w2).alloc (Nat.le_refl _) _) (LAt.of_blk HBK.out) (Dig.one (by rw [B_eq]; exact hr)) HRV.out
  obtain ⟨A4, n4, c4, rfl, h6, b6⟩ := h5
  go_wp2_with fail
  go_ret2
  exact ⟨A2, n2, c2, A4, n4, c4, rfl, H3.out.below b6, h6, bthen (bthen (bdrewN (Below.refl _ w) q) b3) b6⟩
end Go.Proofs.YtabmalnandbocaaGreatDoor.Num
namespace Go.Proofs.YtabmalnandbocaaGreatDoor.Num
set_option exponentiation.threshold 3000
set_option linter.unusedVariables false
set_option linter.unusedSimpArgs false
open Go.RowKit Go.Proofs.YtabmalnandbocaaGreatDoor.Mem Go.Proofs.YtabmalnandbocaaGreatDoor.Own Go.Proofs.YtabmalnandbocaaGreatDoor.Big

/-- The memory of the long division: the row u, the row q, and the divisor that lies below. -/
structure DvW (w wr : World) (gu gq lenu lenq : Nat) (lu lq : List Nat) : Prop where
  bu : Blk wr gu 94 (arr .u32 lu)
  bq : Blk wr gq 94 (arr .u32 lq)
  nu : w.heap.size ≤ gu
  nq : w.heap.size ≤ gq
  ne : gu ≠ gq
  du : Dig B lu
  dq : Dig B lq
  lu : lu.length = lenu
  lq : lq.length = lenq
  bel : Below w.heap.size w wr
theorem DvW.drewN {w wr : World} {gu gq lenu lenq : Nat} {lu lq : List Nat} (h : DvW w wr gu gq lenu lenq lu lq) (n : Nat) : DvW w (wr.drewN n) gu gq lenu lenq lu lq :=
  ⟨Blk.drewN h.bu n, Blk.drewN h.bq n, h.nu, h.nq, h.ne, h.du, h.dq, h.lu, h.lq, bdrewN h.bel n⟩
theorem DvW.setU {w wr : World} {gu gq lenu lenq : Nat} {lu lq : List Nat} (h : DvW w wr gu gq lenu lenq lu lq) (i x : Nat) (hx : x < B) : DvW w (wr.setCell ⟨gu, i, none⟩ (.int .u32 (x : Nat))) gu gq lenu lenq (lu.set i x) lq :=
  ⟨by rw [← arr_set]; exact Blk.set_ h.bu i _, Blk.far h.bq (p := ⟨gu, i, none⟩) (fun e => h.ne e.symm) _, h.nu, h.nq, h.ne, h.du.set i x hx, h.dq, by rw [List.length_set]; exact h.lu, h.lq, h.bel.setCell h.nu _⟩
theorem DvW.setQ {w wr : World} {gu gq lenu lenq : Nat} {lu lq : List Nat} (h : DvW w wr gu gq lenu lenq lu lq) (i x : Nat) (hx : x < B) : DvW w (wr.setCell ⟨gq, i, none⟩ (.int .u32 (x : Nat))) gu gq lenu lenq lu (lq.set i x) :=
  ⟨Blk.far h.bu (p := ⟨gq, i, none⟩) h.ne _, by rw [← arr_set]; exact Blk.set_ h.bq i _, h.nu, h.nq, h.ne, h.du, h.dq.set i x hx, h.lu, by rw [List.length_set]; exact h.lq, h.bel.setCell h.nq _⟩
theorem DvW.cellU {w wr : World} {gu gq lenu lenq : Nat} {lu lq : List Nat} (h : DvW w wr gu gq lenu lenq lu lq) (i : Nat) (hi : i < lenu) : wr.cell? ⟨gu, i, none⟩ = some (.int .u32 (lu.getD i 0 : Nat)) := by
  rw [Blk.cell h.bu i, arr_get _ _ _ (by rw [h.lu]; exact hi)]
theorem DvW.cellQ {w wr : World} {gu gq lenu lenq : Nat} {lu lq : List Nat} (h : DvW w wr gu gq lenu lenq lu lq) (i : Nat) (hi : i < lenq) : wr.cell? ⟨gq, i, none⟩ = some (.int .u32 (lq.getD i 0 : Nat)) := by
  rw [Blk.cell h.bq i, arr_get _ _ _ (by rw [h.lq]; exact hi)]
end Go.Proofs.YtabmalnandbocaaGreatDoor.Num
namespace Go.Proofs.YtabmalnandbocaaGreatDoor.Num
set_option exponentiation.threshold 3000
set_option linter.unusedVariables false
set_option linter.unusedSimpArgs false
open Go.RowKit Go.Proofs.YtabmalnandbocaaGreatDoor.Mem Go.Proofs.YtabmalnandbocaaGreatDoor.Own Go.Proofs.YtabmalnandbocaaGreatDoor.Big

/-- The loops that stand in a code, those within loops left out. -/
def loopsIn : Code → List Code
  | .loop c => [c]
  | .seq a b => loopsIn a ++ loopsIn b
  | .block _ c => loopsIn c
  | .scope c => loopsIn c
  | .cond _ a b => loopsIn a ++ loopsIn b
  | _ => []
noncomputable def bodyJ : Code := (((Tryz.f124.body.map loopsIn).getD [])[0]?).getD .skip
noncomputable def bodyG : Code := ((loopsIn bodyJ)[0]?).getD .skip
noncomputable def bodyS : Code := ((loopsIn bodyJ)[1]?).getD .skip
noncomputable def bodyH : Code := ((loopsIn bodyJ)[2]?).getD .skip
/-- The guess is mended. -/
structure GuessEnd (top nxt u2 u1 u0 g : Nat) : Prop where
  h1 : g + 1 ≤ B
  h2 : g * (top * B + nxt) ≤ u2 * B * B + u1 * B + u0
  h3 : g + 1 = B ∨ u2 * B * B + u1 * B + u0 < (g + 1) * (top * B + nxt)
set_option maxHeartbeats 4000000 in
set_option maxRecDepth 1000000 in
theorem guess_loop (Q : Exit → Act → World → Prop) (gu lenu n j top nxt u2 u1 u0 g r : Nat) (f0 f1 f2 f3 f4 f5 f6 f7 f8 f9 f10 f11 f14 f15 f19 f22 f23 f24 f25 f26 f27 f28 f29 f30 f31 f32 f33 f34 f35 f36 f37 f38 f39 f40 f41 f42 f43 f44 f45 f46 f47 f48 f49 f50 f51 f52 f53 f54 f55 f56 f57 f58 f59 f60 f61 f62 f63 f64 f65 f66 f67 f68 f69 f70 f71 f72 f73 f74 f75 f76 f77 f78 f79 f80 f81 f82 f83 f84 f85 f86 f87 f88 f89 f90 f91 f92 f93 f94 f95 f96 f97 f98 f99 f100 f101 f102 f103 f104 f105 f106 f107 f108 f109 f110 f111 f112 f113 f114 f115 f116 f117 f118 f119 f120 f121 f122 f123 f124 f125 f126 f127 f128 f129 f130 f131 f132 f133 f134 f135 f136 f137 f138 f139 f140 f141 f142 f143 f144 f145 f146 f147 f148 f149 f150 f151 f152 f153 f154 f155 f156 f157 f158 f159 f160 f161 f162 f163 f164 f165 f166 f167 f168 f169 f170 f171 f172 f173 f174 f175 f176 f177 f178 f179 f180 f181 f182 f183 f184 f185 f186 f187 f188 f189 f190 f191 f192 f193 f194 f195 f196 f197 f198 f199 f200 f201 f202 f203 f204 f205 f206 f207 f208 f209 f210 f211 f212 f213 f214 f215 f216 f217 f218 f219 f220 f221 f222 f223 f224 f225 f226 f227 f228 f229 f230 f231 f232 f233 f234 f235 f236 f237 f238 f239 f240 f241 f242 f243 f244 f245 f246 f247 f248 f249 f250 f251 f252 f253 f254 f255 f256 f257 f258 f259 f260 f261 f262 f263 f264 f265 f266 f267 f268 f269 f270 f271 f272 : Value) (w : World)
    (hn : 2 ≤ n) (hnm : n < 600000000) (hj : j + n < lenu) (hl : lenu < 600000000) (hc : w.cell? ⟨gu, j + n - 2, none⟩ = some (.int .u32 (u0 : Nat)))
    (h0 : top < 4294967296) (h1 : nxt < 4294967296) (h2 : u2 ≤ top) (h3 : u1 < 4294967296) (h4 : u0 < 4294967296) (h5 : 4294967296 ≤ 2 * top) (hG : Guess B top nxt u2 u1 u0 g r)
    (hexit : ∀ (g' r' : Nat) (u136 u137 u138 u139 u140 u141 u142 u143 u144 u145 u146 u147 u148 u149 u150 u151 u152 u153 u154 u155 u156 u157 u158 u159 u160 u161 : Value), GuessEnd top nxt u2 u1 u0 g' → Q (.exit 2) ⟨List.toArray (f0 :: f1 :: f2 :: f3 :: f4 :: f5 :: f6 :: f7 :: f8 :: f9 :: f10 :: f11 :: (.slice (some ⟨gu, 0, none⟩) lenu lenu) :: (.int .i64 (n : Nat)) :: f14 :: f15 :: (.int .u64 (top : Nat)) :: (.int .u64 (nxt : Nat)) :: (.int .i64 (j : Nat)) :: f19 :: (.int .u64 (g' : Nat)) :: (.int .u64 (r' : Nat)) :: f22 :: f23 :: f24 :: f25 :: f26 :: f27 :: f28 :: f29 :: f30 :: f31 :: f32 :: f33 :: f34 :: f35 :: f36 :: f37 :: f38 :: f39 :: f40 :: f41 :: f42 :: f43 :: f44 :: f45 :: f46 :: f47 :: f48 :: f49 :: f50 :: f51 :: f52 :: f53 :: f54 :: f55 :: f56 :: f57 :: f58 :: f59 :: f60 :: f61 :: f62 :: f63 :: f64 :: f65 :: f66 :: f67 :: f68 :: f69 :: f70 :: f71 :: f72 :: f73 :: f74 :: f75 :: f76 :: f77 :: f78 :: f79 :: f80 :: f81 :: f82 :: f83 :: f84 :: f85 :: f86 :: f87 :: f88 :: f89 :: f90 :: f91 :: f92 :: f93 :: f94 :: f95 :: f96 :: f97 :: f98 :: f99 :: f100 :: f101 :: f102 :: f103 :: f104 :: f105 :: f106 :: f107 :: f108 :: f109 :: f110 :: f111 :: f112 :: f113 :: f114 :: f115 :: f116 :: f117 :: f118 :: f119 :: f120 :: f121 :: f122 :: f123 :: f124 :: f125 :: f126 :: f127 :: f128 :: f129 :: f130 :: f131 :: f132 :: f133 :: f134 :: f135 :: u136 :: u137 :: u138 :: u139 :: u140 :: u141 :: u142 :: u143 :: u144 :: u145 :: u146 :: u147 :: u148 :: u149 :: u150 :: u151 :: u152 :: u153 :: u154 :: u155 :: u156 :: u157 :: u158 :: u159 :: u160 :: u161 :: f162 :: f163 :: f164 :: f165 :: f166 :: f167 :: f168 :: f169 :: f170 :: f171 :: f172 :: f173 :: f174 :: f175 :: f176 :: f177 :: f178 :: f179 :: f180 :: f181 :: f182 :: f183 :: f184 :: f185 :: f186 :: f187 :: f188 :: f189 :: f190 :: f191 :: f192 :: f193 :: f194 :: f195 :: f196 :: f197 :: f198 :: f199 :: f200 :: f201 :: f202 :: f203 :: f204 :: f205 :: f206 :: f207 :: f208 :: f209 :: f210 :: f211 :: f212 :: f213 :: f214 :: f215 :: f216 :: f217 :: f218 :: f219 :: f220 :: f221 :: f222 :: f223 :: f224 :: f225 :: f226 :: f227 :: f228 :: f229 :: f230 :: f231 :: f232 :: f233 :: f234 :: f235 :: f236 :: f237 :: f238 :: f239 :: f240 :: f241 :: f242 :: f243 :: f244 :: f245 :: f246 :: f247 :: f248 :: f249 :: f250 :: f251 :: f252 :: f253 :: f254 :: f255 :: f256 :: f257 :: f258 :: f259 :: f260 :: f261 :: f262 :: f263 :: f264 :: f265 :: f266 :: f267 :: f268 :: f269 :: f270 :: f271 :: f272 :: []), []⟩ w) :
    Code.wp Tryz.prog (Code.loop bodyG) Q ⟨List.toArray (f0 :: f1 :: f2 :: f3 :: f4 :: f5 :: f6 :: f7 :: f8 :: f9 :: f10 :: f11 :: (.slice (some ⟨gu, 0, none⟩) lenu lenu) :: (.int .i64 (n : Nat)) :: f14 :: f15 :: (.int .u64 (top : Nat)) :: (.int .u64 (nxt : Nat)) :: (.int .i64 (j : Nat)) :: f19 :: (.int .u64 (g : Nat)) :: (.int .u64 (r : Nat)) :: f22 :: f23 :: f24 :: f25 :: f26 :: f27 :: f28 :: f29 :: f30 :: f31 :: f32 :: f33 :: f34 :: f35 :: f36 :: f37 :: f38 :: f39 :: f40 :: f41 :: f42 :: f43 :: f44 :: f45 :: f46 :: f47 :: f48 :: f49 :: f50 :: f51 :: f52 :: f53 :: f54 :: f55 :: f56 :: f57 :: f58 :: f59 :: f60 :: f61 :: f62 :: f63 :: f64 :: f65 :: f66 :: f67 :: f68 :: f69 :: f70 :: f71 :: f72 :: f73 :: f74 :: f75 :: f76 :: f77 :: f78 :: f79 :: f80 :: f81 :: f82 :: f83 :: f84 :: f85 :: f86 :: f87 :: f88 :: f89 :: f90 :: f91 :: f92 :: f93 :: f94 :: f95 :: f96 :: f97 :: f98 :: f99 :: f100 :: f101 :: f102 :: f103 :: f104 :: f105 :: f106 :: f107 :: f108 :: f109 :: f110 :: f111 :: f112 :: f113 :: f114 :: f115 :: f116 :: f117 :: f118 :: f119 :: f120 :: f121 :: f122 :: f123 :: f124 :: f125 :: f126 :: f127 :: f128 :: f129 :: f130 :: f131 :: f132 :: f133 :: f134 :: f135 :: f136 :: f137 :: f138 :: f139 :: f140 :: f141 :: f142 :: f143 :: f144 :: f145 :: f146 :: f147 :: f148 :: f149 :: f150 :: f151 :: f152 :: f153 :: f154 :: f155 :: f156 :: f157 :: f158 :: f159 :: f160 :: f161 :: f162 :: f163 :: f164 :: f165 :: f166 :: f167 :: f168 :: f169 :: f170 :: f171 :: f172 :: f173 :: f174 :: f175 :: f176 :: f177 :: f178 :: f179 :: f180 :: f181 :: f182 :: f183 :: f184 :: f185 :: f186 :: f187 :: f188 :: f189 :: f190 :: f191 :: f192 :: f193 :: f194 :: f195 :: f196 :: f197 :: f198 :: f199 :: f200 :: f201 :: f202 :: f203 :: f204 :: f205 :: f206 :: f207 :: f208 :: f209 :: f210 :: f211 :: f212 :: f213 :: f214 :: f215 :: f216 :: f217 :: f218 :: f219 :: f220 :: f221 :: f222 :: f223 :: f224 :: f225 :: f226 :: f227 :: f228 :: f229 :: f230 :: f231 :: f232 :: f233 :: f234 :: f235 :: f236 :: f237 :: f238 :: f239 :: f240 :: f241 :: f242 :: f243 :: f244 :: f245 :: f246 :: f247 :: f248 :: f249 :: f250 :: f251 :: f252 :: f253 :: f254 :: f255 :: f256 :: f257 :: f258 :: f259 :: f260 :: f261 :: f262 :: f263 :: f264 :: f265 :: f266 :: f267 :: f268 :: f269 :: f270 :: f271 :: f272 :: []), []⟩ w := by
  have HEX := Lib.hid hexit
  have HG0 := Lib.hid hG
  have H5 := Lib.hid h5
  clear hexit hG h5
  conv => arg 2; arg 1; whnf
  go_loop [20, 21] (fun g r => ∃ g' r' : Nat, g = .int .u64 (g' : Nat) ∧ r = .int .u64 (r' : Nat) ∧ Hid (Guess B top nxt u2 u1 u0 g' r')) (fun g _ => (intOf g).toNat)
  case atStart => exact ⟨g, r, rfl, rfl, HG0⟩
  case round =>
    obtain ⟨g', r', rfl, rfl, HG⟩ := hrel
    have hr' := HG.out.low
    have hg' := HG.out.up
    rw [B_eq] at hr' hg'
    have a2 : ((j : Int) + (n : Int) - 2).toNat = j + n - 2 := by omega
    by_cases hbig : 4294967296 ≤ g'
    · have HN := Lib.hid (guess_next HG.out (.inl (by rw [B_eq]; exact hbig)) h2 (by rw [B_eq]; exact h3) (by rw [B_eq]; exact h1) (by rw [B_eq]; exact H5.out))
      have t1 : decide ((4294967295 : Int) < (g' : Int)) = true := decide_eq_true (by omega)
      have hg1 : (1 : Int) ≤ (g' : Int) := by omega
      have eg := Lib.hid (show (g' : Int) - 1 = ((g' - 1 : Nat) : Int) by omega)
      have er := Lib.hid (show (r' : Int) + (top : Int) = ((r' + top : Nat) : Int) by omega)
      by_cases hov : 4294967296 ≤ r' + top
      · have t2 : decide ((4294967295 : Int) < (r' : Int) + (top : Int)) = true := decide_eq_true (by omega)
        have HE := Lib.hid (HN.out.2.2 (by rw [B_eq]; exact hov))
        clear HN hbig hov
        go_wp2_with fail
        rw [eg.out, er.out]
        exact (HEX.out (g' - 1) (r' + top) _ _ _ _ _ _ _ _ _ _ _ _ _ _ _ _ _ _ _ _ _ _ _ _ _ _ ⟨HE.out.1, HE.out.2.1, HE.out.2.2⟩)
      · have t2 : decide ((4294967295 : Int) < (r' : Int) + (top : Int)) = false := decide_eq_false (by omega)
        have HE := Lib.hid (HN.out.2.1 (by rw [B_eq]; omega))
        clear HN hbig hov
        go_wp2_with fail
        go_round
        case rel => exact ⟨g' - 1, r' + top, vint eg.out, vint er.out, HE⟩
        case measure => simp [intOf]; omega
    · have t1 : decide ((4294967295 : Int) < (g' : Int)) = false := decide_eq_false (by omega)
      have hor := or_hi_lo hr' h4
      have hpn : (g' : Int) * (nxt : Int) = ((g' * nxt : Nat) : Int) := by simp
      have hpb := mul_lt_sq (p := g') (q := nxt) (c := 0) (by rw [B_eq]; omega) (by rw [B_eq]; exact h1) B_pos
      have hpw : IntKind.u64.wrap ((g' : Int) * (nxt : Int)) = (g' : Int) * (nxt : Int) := by
        rw [hpn]
        refine wraps_u64 _ (Int.natCast_nonneg _) ?_
        rw [B_eq] at hpb
        generalize g' * nxt = z at *
        omega
      by_cases hmore : r' * B + u0 < g' * nxt
      · have HN := Lib.hid (guess_next HG.out (.inr hmore) h2 (by rw [B_eq]; exact h3) (by rw [B_eq]; exact h1) (by rw [B_eq]; exact H5.out))
        have t3 : decide ((r' : Int) * 4294967296 + (u0 : Int) < (g' : Int) * (nxt : Int)) = true := by
          rw [decide_eq_true_eq, hpn]
          rw [B_eq] at hmore
          generalize g' * nxt = z at *
          omega
        have hgp : 1 ≤ g' := HN.out.1
        have hg1 : (1 : Int) ≤ (g' : Int) := by omega
        have eg := Lib.hid (show (g' : Int) - 1 = ((g' - 1 : Nat) : Int) by omega)
        have er := Lib.hid (show (r' : Int) + (top : Int) = ((r' + top : Nat) : Int) by omega)
        by_cases hov : 4294967296 ≤ r' + top
        · have t2 : decide ((4294967295 : Int) < (r' : Int) + (top : Int)) = true := decide_eq_true (by omega)
          have HE := Lib.hid (HN.out.2.2 (by rw [B_eq]; exact hov))
          clear HN hbig hov hpn hpb hmore
          go_wp2_with fail
          rw [eg.out, er.out]
          exact (HEX.out (g' - 1) (r' + top) _ _ _ _ _ _ _ _ _ _ _ _ _ _ _ _ _ _ _ _ _ _ _ _ _ _ ⟨HE.out.1, HE.out.2.1, HE.out.2.2⟩)
        · have t2 : decide ((4294967295 : Int) < (r' : Int) + (top : Int)) = false := decide_eq_false (by omega)
          have HE := Lib.hid (HN.out.2.1 (by rw [B_eq]; omega))
          clear HN hbig hov hpn hpb hmore
          go_wp2_with fail
          go_round
          case rel => exact ⟨g' - 1, r' + top, vint eg.out, vint er.out, HE⟩
          case measure => simp [intOf]; omega
      · have HE := Lib.hid (guess_end HG.out (by rw [B_eq]; omega) (by omega))
        have t3 : decide ((r' : Int) * 4294967296 + (u0 : Int) < (g' : Int) * (nxt : Int)) = false := by
          rw [decide_eq_false_iff_not, hpn]
          rw [B_eq] at hmore
          generalize g' * nxt = z at *
          omega
        clear hbig hpn hpb hmore
        go_wp2_with fail
        exact (HEX.out g' r' _ _ _ _ _ _ _ _ _ _ _ _ _ _ _ _ _ _ _ _ _ _ _ _ _ _ ⟨HE.out.1, HE.out.2.1, HE.out.2.2⟩)
end Go.Proofs.YtabmalnandbocaaGreatDoor.Num
namespace Go.Proofs.YtabmalnandbocaaGreatDoor.Num
set_option exponentiation.threshold 3000
set_option linter.unusedVariables false
set_option linter.unusedSimpArgs false
open Go.RowKit Go.Proofs.YtabmalnandbocaaGreatDoor.Mem Go.Proofs.YtabmalnandbocaaGreatDoor.Own Go.Proofs.YtabmalnandbocaaGreatDoor.Big

theorem sub_word {u lo d : Nat} (hu : u < 4294967296) (hl : lo < 4294967296) (hd : d ≤ 1) :
    IntKind.u64.wrap (IntKind.u64.wrap ((u : Int) - (lo : Int)) - (d : Int)) % 4294967296 = ((subW u lo d : Nat) : Int) ∧ IntKind.u64.wrap (IntKind.u64.wrap ((u : Int) - (lo : Int)) - (d : Int)) / 9223372036854775808 = ((subD u lo d : Nat) : Int) := by
  have e : ∀ z : Int, IntKind.u64.wrap z = z % 18446744073709551616 := fun z => by simp [IntKind.wrap, IntKind.bits, IntKind.signed]
  rw [e, e]
  unfold subW subD
  rw [B_eq]
  constructor
  · split <;> omega
  · split <;> omega
set_option maxHeartbeats 4000000 in
set_option maxRecDepth 1000000 in
theorem sub_loop (Q : Exit → Act → World → Prop) (bv offv cv gu gq lenu lenq n j g Uc : Nat) (vs lu lq : List Nat) (f0 f1 f2 f3 f4 f5 f6 f7 f8 f9 f10 f14 f15 f16 f17 f19 f21 f25 f26 f27 f28 f29 f30 f31 f32 f33 f34 f35 f36 f37 f38 f39 f40 f41 f42 f43 f44 f45 f46 f47 f48 f49 f50 f51 f52 f53 f54 f55 f56 f57 f58 f59 f60 f61 f62 f63 f64 f65 f66 f67 f68 f69 f70 f71 f72 f73 f74 f75 f76 f77 f78 f79 f80 f81 f82 f83 f84 f85 f86 f87 f88 f89 f90 f91 f92 f93 f94 f95 f96 f97 f98 f99 f100 f101 f102 f103 f104 f105 f106 f107 f108 f109 f110 f111 f112 f113 f114 f115 f116 f117 f118 f119 f120 f121 f122 f123 f124 f125 f126 f127 f128 f129 f130 f131 f132 f133 f134 f135 f136 f137 f138 f139 f140 f141 f142 f143 f144 f145 f146 f147 f148 f149 f150 f151 f152 f153 f154 f155 f156 f157 f158 f159 f160 f161 f162 f163 f164 f165 f166 f167 f168 f169 f170 f171 f172 f173 f174 f175 f176 f177 f178 f179 f180 f181 f182 f183 f184 f185 f186 f187 f188 f189 f190 f191 f192 f193 f194 f195 f196 f197 f198 f199 f200 f201 f202 f203 f204 f205 f206 f207 f208 f209 f210 f211 f212 f213 f214 f215 f216 f217 f218 f219 f220 f221 f222 f223 f224 f225 f226 f227 f228 f229 f230 f231 f232 f233 f234 f235 f236 f237 f238 f239 f240 f241 f242 f243 f244 f245 f246 f247 f248 f249 f250 f251 f252 f253 f254 f255 f256 f257 f258 f259 f260 f261 f262 f263 f264 f265 f266 f267 f268 f269 f270 f271 f272 : Value) (w0 w : World)
    (hnm : n < 600000000) (hj : j + n < lenu) (hl : lenu < 600000000) (hv : ∀ i, i < n → w0.cell? ⟨bv, offv + i, none⟩ = some (.int .u32 (vs.getD i 0 : Nat))) (hvlt : bv < w0.heap.size) (hvd : Dig B vs)
    (hD : DvW w0 w gu gq lenu lenq lu lq) (hg : g < 4294967296) (hM : SubM vs Uc n j g 0 0 0 lu)
    (hexit : ∀ (w' : World) (lu' : List Nat) (c' d' : Nat) (u25 u162 u163 u164 u165 u166 u167 u168 u169 u170 u171 u172 u173 u174 u175 u176 u177 u178 u179 u180 u181 u182 u183 u184 u185 u186 u187 u188 u189 u190 u191 u192 u193 u194 u195 u196 u197 u198 u199 : Value), DvW w0 w' gu gq lenu lenq lu' lq → SubM vs Uc n j g n c' d' lu' → Q (.exit 4) ⟨List.toArray (f0 :: f1 :: f2 :: f3 :: f4 :: f5 :: f6 :: f7 :: f8 :: f9 :: f10 :: (.slice (some ⟨bv, offv, none⟩) n cv) :: (.slice (some ⟨gu, 0, none⟩) lenu lenu) :: (.int .i64 (n : Nat)) :: f14 :: f15 :: f16 :: f17 :: (.int .i64 (j : Nat)) :: f19 :: (.int .u64 (g : Nat)) :: f21 :: (.int .u64 (c' : Nat)) :: (.int .u64 (d' : Nat)) :: (.int .i64 (n : Nat)) :: u25 :: f26 :: f27 :: f28 :: f29 :: f30 :: f31 :: f32 :: f33 :: f34 :: f35 :: f36 :: f37 :: f38 :: f39 :: f40 :: f41 :: f42 :: f43 :: f44 :: f45 :: f46 :: f47 :: f48 :: f49 :: f50 :: f51 :: f52 :: f53 :: f54 :: f55 :: f56 :: f57 :: f58 :: f59 :: f60 :: f61 :: f62 :: f63 :: f64 :: f65 :: f66 :: f67 :: f68 :: f69 :: f70 :: f71 :: f72 :: f73 :: f74 :: f75 :: f76 :: f77 :: f78 :: f79 :: f80 :: f81 :: f82 :: f83 :: f84 :: f85 :: f86 :: f87 :: f88 :: f89 :: f90 :: f91 :: f92 :: f93 :: f94 :: f95 :: f96 :: f97 :: f98 :: f99 :: f100 :: f101 :: f102 :: f103 :: f104 :: f105 :: f106 :: f107 :: f108 :: f109 :: f110 :: f111 :: f112 :: f113 :: f114 :: f115 :: f116 :: f117 :: f118 :: f119 :: f120 :: f121 :: f122 :: f123 :: f124 :: f125 :: f126 :: f127 :: f128 :: f129 :: f130 :: f131 :: f132 :: f133 :: f134 :: f135 :: f136 :: f137 :: f138 :: f139 :: f140 :: f141 :: f142 :: f143 :: f144 :: f145 :: f146 :: f147 :: f148 :: f149 :: f150 :: f151 :: f152 :: f153 :: f154 :: f155 :: f156 :: f157 :: f158 :: f159 :: f160 :: f161 :: u162 :: u163 :: u164 :: u165 :: u166 :: u167 :: u168 :: u169 :: u170 :: u171 :: u172 :: u173 :: u174 :: u175 :: u176 :: u177 :: u178 :: u179 :: u180 :: u181 :: u182 :: u183 :: u184 :: u185 :: u186 :: u187 :: u188 :: u189 :: u190 :: u191 :: u192 :: u193 :: u194 :: u195 :: u196 :: u197 :: u198 :: u199 :: f200 :: f201 :: f202 :: f203 :: f204 :: f205 :: f206 :: f207 :: f208 :: f209 :: f210 :: f211 :: f212 :: f213 :: f214 :: f215 :: f216 :: f217 :: f218 :: f219 :: f220 :: f221 :: f222 :: f223 :: f224 :: f225 :: f226 :: f227 :: f228 :: f229 :: f230 :: f231 :: f232 :: f233 :: f234 :: f235 :: f236 :: f237 :: f238 :: f239 :: f240 :: f241 :: f242 :: f243 :: f244 :: f245 :: f246 :: f247 :: f248 :: f249 :: f250 :: f251 :: f252 :: f253 :: f254 :: f255 :: f256 :: f257 :: f258 :: f259 :: f260 :: f261 :: f262 :: f263 :: f264 :: f265 :: f266 :: f267 :: f268 :: f269 :: f270 :: f271 :: f272 :: []), []⟩ w') :
    Code.wp Tryz.prog (Code.loop bodyS) Q ⟨List.toArray (f0 :: f1 :: f2 :: f3 :: f4 :: f5 :: f6 :: f7 :: f8 :: f9 :: f10 :: (.slice (some ⟨bv, offv, none⟩) n cv) :: (.slice (some ⟨gu, 0, none⟩) lenu lenu) :: (.int .i64 (n : Nat)) :: f14 :: f15 :: f16 :: f17 :: (.int .i64 (j : Nat)) :: f19 :: (.int .u64 (g : Nat)) :: f21 :: (.int .u64 0) :: (.int .u64 0) :: (.int .i64 0) :: f25 :: f26 :: f27 :: f28 :: f29 :: f30 :: f31 :: f32 :: f33 :: f34 :: f35 :: f36 :: f37 :: f38 :: f39 :: f40 :: f41 :: f42 :: f43 :: f44 :: f45 :: f46 :: f47 :: f48 :: f49 :: f50 :: f51 :: f52 :: f53 :: f54 :: f55 :: f56 :: f57 :: f58 :: f59 :: f60 :: f61 :: f62 :: f63 :: f64 :: f65 :: f66 :: f67 :: f68 :: f69 :: f70 :: f71 :: f72 :: f73 :: f74 :: f75 :: f76 :: f77 :: f78 :: f79 :: f80 :: f81 :: f82 :: f83 :: f84 :: f85 :: f86 :: f87 :: f88 :: f89 :: f90 :: f91 :: f92 :: f93 :: f94 :: f95 :: f96 :: f97 :: f98 :: f99 :: f100 :: f101 :: f102 :: f103 :: f104 :: f105 :: f106 :: f107 :: f108 :: f109 :: f110 :: f111 :: f112 :: f113 :: f114 :: f115 :: f116 :: f117 :: f118 :: f119 :: f120 :: f121 :: f122 :: f123 :: f124 :: f125 :: f126 :: f127 :: f128 :: f129 :: f130 :: f131 :: f132 :: f133 :: f134 :: f135 :: f136 :: f137 :: f138 :: f139 :: f140 :: f141 :: f142 :: f143 :: f144 :: f145 :: f146 :: f147 :: f148 :: f149 :: f150 :: f151 :: f152 :: f153 :: f154 :: f155 :: f156 :: f157 :: f158 :: f159 :: f160 :: f161 :: f162 :: f163 :: f164 :: f165 :: f166 :: f167 :: f168 :: f169 :: f170 :: f171 :: f172 :: f173 :: f174 :: f175 :: f176 :: f177 :: f178 :: f179 :: f180 :: f181 :: f182 :: f183 :: f184 :: f185 :: f186 :: f187 :: f188 :: f189 :: f190 :: f191 :: f192 :: f193 :: f194 :: f195 :: f196 :: f197 :: f198 :: f199 :: f200 :: f201 :: f202 :: f203 :: f204 :: f205 :: f206 :: f207 :: f208 :: f209 :: f210 :: f211 :: f212 :: f213 :: f214 :: f215 :: f216 :: f217 :: f218 :: f219 :: f220 :: f221 :: f222 :: f223 :: f224 :: f225 :: f226 :: f227 :: f228 :: f229 :: f230 :: f231 :: f232 :: f233 :: f234 :: f235 :: f236 :: f237 :: f238 :: f239 :: f240 :: f241 :: f242 :: f243 :: f244 :: f245 :: f246 :: f247 :: f248 :: f249 :: f250 :: f251 :: f252 :: f253 :: f254 :: f255 :: f256 :: f257 :: f258 :: f259 :: f260 :: f261 :: f262 :: f263 :: f264 :: f265 :: f266 :: f267 :: f268 :: f269 :: f270 :: f271 :: f272 :: []), []⟩ w := by
  have HEX := Lib.hid hexit
  have HD := Lib.hid hD
  have HM := Lib.hid hM
  have HV := Lib.hid hv
  clear hexit hD hM hv
  conv => arg 2; arg 1; whnf
  go_loopw [22, 23, 24] (fun c d i wr => ∃ (k c' d' : Nat) (l : List Nat), k ≤ n ∧ c = .int .u64 (c' : Nat) ∧ d = .int .u64 (d' : Nat) ∧ i = .int .i64 (k : Nat) ∧ DvW w0 wr gu gq lenu lenq l lq ∧ SubM vs Uc n j g k c' d' l) (fun _ _ i _ => n - (intOf i).toNat)
  case atStart => exact ⟨0, 0, 0, lu, Nat.zero_le _, rfl, rfl, rfl, HD.out, HM.out⟩
  case round =>
    obtain ⟨k, c', d', l, hk, rfl, rfl, rfl, hD, hM⟩ := hrel
    by_cases hkn : k < n
    · have t1 : decide ((k : Int) < (n : Int)) = true := by simp; omega
      have cvv := (hD.bel.cell (p := ⟨bv, offv + k, none⟩) hvlt).trans (HV.out k hkn)
      have cu := hD.cellU (j + k) (by omega)
      have cf := Blk.frozen hD.bu (j + k)
      have hvk := hvd.getD B_pos k
      have huk := hD.du.getD B_pos (j + k)
      have hc1 := hM.c1
      have hd1 := hM.d1
      have HS := Lib.hid (fun cc u hcc hu => hM.step hkn (by rw [hD.lu]; exact hj) (by rw [B_eq]; exact hg) hvk (cc := cc) (u := u) hcc hu)
      have HDS := Lib.hid (fun x hx => hD.setU (j + k) x hx)
      have hpb := mul_lt_sq (p := g) (q := vs.getD k 0) (c := c') (by rw [B_eq]; exact hg) hvk hc1
      clear hD hM
      generalize vs.getD k 0 = v at *
      obtain ⟨u, hu⟩ : ∃ u, u = l.getD (j + k) 0 := ⟨_, rfl⟩
      rw [← hu] at cu huk
      have HU := Lib.hid hu
      clear hu
      rw [B_eq] at hvk huk hc1 hpb
      have hwp : IntKind.u64.wrap ((g : Int) * (v : Int)) = ((g * v : Nat) : Int) := by
        rw [show (g : Int) * (v : Int) = ((g * v : Nat) : Int) by simp]
        generalize g * v = z at *
        exact wraps_u64 _ (by omega) (by omega)
      obtain ⟨p, hp⟩ : ∃ p, p = g * v := ⟨_, rfl⟩
      rw [← hp] at hwp hpb
      have HP := Lib.hid hp
      have hpm : (p : Int) ≤ 18446744065119617025 := by
        have h1 : g * v ≤ 4294967295 * 4294967295 := Nat.mul_le_mul (by omega) (by omega)
        omega
      have HW := Lib.hid (sub_word (u := u) (lo := (c' + p) % 4294967296) (d := d') huk (Nat.mod_lt _ (by decide)) hd1)
      have elo : (((c' + p) % 4294967296 : Nat) : Int) = ((c' : Int) + (p : Int)) % 4294967296 := by omega
      rw [elo] at HW
      have HPB := Lib.hid hpb
      clear hp hpb elo
      have ejk : k + j = j + k := Nat.add_comm _ _
      go_wp2_with fail
      go_roundw
      case rel =>
        rw [HW.out.1, HW.out.2]
        have hlt : subW u ((c' + p) % 4294967296) d' < B := subW_lt (by rw [B_eq]; exact huk) (by rw [B_eq]; exact Nat.mod_lt _ (by decide)) hd1
        have h1 := HS.out (c' + p) u (by rw [HP.out]) HU.out
        rw [B_eq] at h1
        exact ⟨k + 1, (c' + p) / 4294967296, _, _, by omega, vint (by omega), rfl, by go_num, HDS.out _ hlt, h1⟩
      case measure => simp [intOf]; omega
    · obtain rfl : n = k := by omega
      have t1 : decide ((n : Int) < (n : Int)) = false := by simp
      have HD := Lib.hid hD
      have HM := Lib.hid hM
      clear hD hM
      go_wp2_with fail
      refine HEX.out wr l c' d' _ _ _ _ _ _ _ _ _ _ _ _ _ _ _ _ _ _ _ _ _ _ _ _ _ _ _ _ _ _ _ _ _ _ _ _ _ _ _ HD.out HM.out
end Go.Proofs.YtabmalnandbocaaGreatDoor.Num
namespace Go.Proofs.YtabmalnandbocaaGreatDoor.Num
set_option exponentiation.threshold 3000
set_option linter.unusedVariables false
set_option linter.unusedSimpArgs false
open Go.RowKit Go.Proofs.YtabmalnandbocaaGreatDoor.Mem Go.Proofs.YtabmalnandbocaaGreatDoor.Own Go.Proofs.YtabmalnandbocaaGreatDoor.Big

set_option maxHeartbeats 4000000 in
set_option maxRecDepth 1000000 in
theorem again_loop (Q : Exit → Act → World → Prop) (bv offv cv gu gq lenu lenq n j : Nat) (vs lu lq : List Nat) (f0 f1 f2 f3 f4 f5 f6 f7 f8 f9 f10 f14 f15 f16 f17 f19 f20 f21 f23 f24 f25 f26 f28 f29 f30 f31 f32 f33 f34 f35 f36 f37 f38 f39 f40 f41 f42 f43 f44 f45 f46 f47 f48 f49 f50 f51 f52 f53 f54 f55 f56 f57 f58 f59 f60 f61 f62 f63 f64 f65 f66 f67 f68 f69 f70 f71 f72 f73 f74 f75 f76 f77 f78 f79 f80 f81 f82 f83 f84 f85 f86 f87 f88 f89 f90 f91 f92 f93 f94 f95 f96 f97 f98 f99 f100 f101 f102 f103 f104 f105 f106 f107 f108 f109 f110 f111 f112 f113 f114 f115 f116 f117 f118 f119 f120 f121 f122 f123 f124 f125 f126 f127 f128 f129 f130 f131 f132 f133 f134 f135 f136 f137 f138 f139 f140 f141 f142 f143 f144 f145 f146 f147 f148 f149 f150 f151 f152 f153 f154 f155 f156 f157 f158 f159 f160 f161 f162 f163 f164 f165 f166 f167 f168 f169 f170 f171 f172 f173 f174 f175 f176 f177 f178 f179 f180 f181 f182 f183 f184 f185 f186 f187 f188 f189 f190 f191 f192 f193 f194 f195 f196 f197 f198 f199 f200 f201 f202 f203 f204 f205 f206 f207 f208 f209 f210 f211 f212 f213 f214 f215 f216 f217 f218 f219 f220 f221 f222 f223 f224 f225 f226 f227 f228 f229 f230 f231 f232 f233 f234 f235 f236 f237 f238 f239 f240 f241 f242 f243 f244 f245 f246 f247 f248 f249 f250 f251 f252 f253 f254 f255 f256 f257 f258 f259 f260 f261 f262 f263 f264 f265 f266 f267 f268 f269 f270 f271 f272 : Value) (w0 w : World)
    (hnm : n < 600000000) (hj : j + n < lenu) (hl : lenu < 600000000) (hv : ∀ i, i < n → w0.cell? ⟨bv, offv + i, none⟩ = some (.int .u32 (vs.getD i 0 : Nat))) (hvlt : bv < w0.heap.size) (hvd : Dig B vs)
    (hD : DvW w0 w gu gq lenu lenq lu lq) (hM : AddM vs lu n j 0 0 lu)
    (hexit : ∀ (w' : World) (lu' : List Nat) (c' : Nat) (u223 u224 u225 u226 u227 u228 u229 u230 u231 u232 u233 u234 u235 u236 u237 u238 u239 u240 u241 u242 u243 u244 u245 u246 u247 u248 u249 u250 u251 : Value), DvW w0 w' gu gq lenu lenq lu' lq → AddM vs lu n j n c' lu' → Q (.exit 6) ⟨List.toArray (f0 :: f1 :: f2 :: f3 :: f4 :: f5 :: f6 :: f7 :: f8 :: f9 :: f10 :: (.slice (some ⟨bv, offv, none⟩) n cv) :: (.slice (some ⟨gu, 0, none⟩) lenu lenu) :: (.int .i64 (n : Nat)) :: f14 :: f15 :: f16 :: f17 :: (.int .i64 (j : Nat)) :: f19 :: f20 :: f21 :: (.int .u64 (c' : Nat)) :: f23 :: f24 :: f25 :: f26 :: (.int .i64 (n : Nat)) :: f28 :: f29 :: f30 :: f31 :: f32 :: f33 :: f34 :: f35 :: f36 :: f37 :: f38 :: f39 :: f40 :: f41 :: f42 :: f43 :: f44 :: f45 :: f46 :: f47 :: f48 :: f49 :: f50 :: f51 :: f52 :: f53 :: f54 :: f55 :: f56 :: f57 :: f58 :: f59 :: f60 :: f61 :: f62 :: f63 :: f64 :: f65 :: f66 :: f67 :: f68 :: f69 :: f70 :: f71 :: f72 :: f73 :: f74 :: f75 :: f76 :: f77 :: f78 :: f79 :: f80 :: f81 :: f82 :: f83 :: f84 :: f85 :: f86 :: f87 :: f88 :: f89 :: f90 :: f91 :: f92 :: f93 :: f94 :: f95 :: f96 :: f97 :: f98 :: f99 :: f100 :: f101 :: f102 :: f103 :: f104 :: f105 :: f106 :: f107 :: f108 :: f109 :: f110 :: f111 :: f112 :: f113 :: f114 :: f115 :: f116 :: f117 :: f118 :: f119 :: f120 :: f121 :: f122 :: f123 :: f124 :: f125 :: f126 :: f127 :: f128 :: f129 :: f130 :: f131 :: f132 :: f133 :: f134 :: f135 :: f136 :: f137 :: f138 :: f139 :: f140 :: f141 :: f142 :: f143 :: f144 :: f145 :: f146 :: f147 :: f148 :: f149 :: f150 :: f151 :: f152 :: f153 :: f154 :: f155 :: f156 :: f157 :: f158 :: f159 :: f160 :: f161 :: f162 :: f163 :: f164 :: f165 :: f166 :: f167 :: f168 :: f169 :: f170 :: f171 :: f172 :: f173 :: f174 :: f175 :: f176 :: f177 :: f178 :: f179 :: f180 :: f181 :: f182 :: f183 :: f184 :: f185 :: f186 :: f187 :: f188 :: f189 :: f190 :: f191 :: f192 :: f193 :: f194 :: f195 :: f196 :: f197 :: f198 :: f199 :: f200 :: f201 :: f202 :: f203 :: f204 :: f205 :: f206 :: f207 :: f208 :: f209 :: f210 :: f211 :: f212 :: f213 :: f214 :: f215 :: f216 :: f217 :: f218 :: f219 :: f220 :: f221 :: f222 :: u223 :: u224 :: u225 :: u226 :: u227 :: u228 :: u229 :: u230 :: u231 :: u232 :: u233 :: u234 :: u235 :: u236 :: u237 :: u238 :: u239 :: u240 :: u241 :: u242 :: u243 :: u244 :: u245 :: u246 :: u247 :: u248 :: u249 :: u250 :: u251 :: f252 :: f253 :: f254 :: f255 :: f256 :: f257 :: f258 :: f259 :: f260 :: f261 :: f262 :: f263 :: f264 :: f265 :: f266 :: f267 :: f268 :: f269 :: f270 :: f271 :: f272 :: []), []⟩ w') :
    Code.wp Tryz.prog (Code.loop bodyH) Q ⟨List.toArray (f0 :: f1 :: f2 :: f3 :: f4 :: f5 :: f6 :: f7 :: f8 :: f9 :: f10 :: (.slice (some ⟨bv, offv, none⟩) n cv) :: (.slice (some ⟨gu, 0, none⟩) lenu lenu) :: (.int .i64 (n : Nat)) :: f14 :: f15 :: f16 :: f17 :: (.int .i64 (j : Nat)) :: f19 :: f20 :: f21 :: (.int .u64 0) :: f23 :: f24 :: f25 :: f26 :: (.int .i64 0) :: f28 :: f29 :: f30 :: f31 :: f32 :: f33 :: f34 :: f35 :: f36 :: f37 :: f38 :: f39 :: f40 :: f41 :: f42 :: f43 :: f44 :: f45 :: f46 :: f47 :: f48 :: f49 :: f50 :: f51 :: f52 :: f53 :: f54 :: f55 :: f56 :: f57 :: f58 :: f59 :: f60 :: f61 :: f62 :: f63 :: f64 :: f65 :: f66 :: f67 :: f68 :: f69 :: f70 :: f71 :: f72 :: f73 :: f74 :: f75 :: f76 :: f77 :: f78 :: f79 :: f80 :: f81 :: f82 :: f83 :: f84 :: f85 :: f86 :: f87 :: f88 :: f89 :: f90 :: f91 :: f92 :: f93 :: f94 :: f95 :: f96 :: f97 :: f98 :: f99 :: f100 :: f101 :: f102 :: f103 :: f104 :: f105 :: f106 :: f107 :: f108 :: f109 :: f110 :: f111 :: f112 :: f113 :: f114 :: f115 :: f116 :: f117 :: f118 :: f119 :: f120 :: f121 :: f122 :: f123 :: f124 :: f125 :: f126 :: f127 :: f128 :: f129 :: f130 :: f131 :: f132 :: f133 :: f134 :: f135 :: f136 :: f137 :: f138 :: f139 :: f140 :: f141 :: f142 :: f143 :: f144 :: f145 :: f146 :: f147 :: f148 :: f149 :: f150 :: f151 :: f152 :: f153 :: f154 :: f155 :: f156 :: f157 :: f158 :: f159 :: f160 :: f161 :: f162 :: f163 :: f164 :: f165 :: f166 :: f167 :: f168 :: f169 :: f170 :: f171 :: f172 :: f173 :: f174 :: f175 :: f176 :: f177 :: f178 :: f179 :: f180 :: f181 :: f182 :: f183 :: f184 :: f185 :: f186 :: f187 :: f188 :: f189 :: f190 :: f191 :: f192 :: f193 :: f194 :: f195 :: f196 :: f197 :: f198 :: f199 :: f200 :: f201 :: f202 :: f203 :: f204 :: f205 :: f206 :: f207 :: f208 :: f209 :: f210 :: f211 :: f212 :: f213 :: f214 :: f215 :: f216 :: f217 :: f218 :: f219 :: f220 :: f221 :: f222 :: f223 :: f224 :: f225 :: f226 :: f227 :: f228 :: f229 :: f230 :: f231 :: f232 :: f233 :: f234 :: f235 :: f236 :: f237 :: f238 :: f239 :: f240 :: f241 :: f242 :: f243 :: f244 :: f245 :: f246 :: f247 :: f248 :: f249 :: f250 :: f251 :: f252 :: f253 :: f254 :: f255 :: f256 :: f257 :: f258 :: f259 :: f260 :: f261 :: f262 :: f263 :: f264 :: f265 :: f266 :: f267 :: f268 :: f269 :: f270 :: f271 :: f272 :: []), []⟩ w := by
  have HEX := Lib.hid hexit
  have HD := Lib.hid hD
  have HM := Lib.hid hM
  have HV := Lib.hid hv
  clear hexit hD hM hv
  conv => arg 2; arg 1; whnf
  go_loopw [22, 27] (fun c i wr => ∃ (k c' : Nat) (l : List Nat), k ≤ n ∧ c = .int .u64 (c' : Nat) ∧ i = .int .i64 (k : Nat) ∧ DvW w0 wr gu gq lenu lenq l lq ∧ AddM vs lu n j k c' l) (fun _ i _ => n - (intOf i).toNat)
  case atStart => exact ⟨0, 0, lu, Nat.zero_le _, rfl, rfl, HD.out, HM.out⟩
  case round =>
    obtain ⟨k, c', l, hk, rfl, rfl, hD, hM⟩ := hrel
    by_cases hkn : k < n
    · have t1 : decide ((k : Int) < (n : Int)) = true := by simp; omega
      have cvv := (hD.bel.cell (p := ⟨bv, offv + k, none⟩) hvlt).trans (HV.out k hkn)
      have cu := hD.cellU (j + k) (by omega)
      have cf := Blk.frozen hD.bu (j + k)
      have hvk := hvd.getD B_pos k
      have huk := hD.du.getD B_pos (j + k)
      have hc1 := hM.c1
      have HS := Lib.hid (fun s hs => hM.step hkn (by rw [hD.lu]; exact hj) hvk (s := s) hs)
      have HDS := Lib.hid (fun q x hx => (hD.drewN q).setU (j + k) x hx)
      clear hD hM
      generalize vs.getD k 0 = v at *
      obtain ⟨u, hu⟩ : ∃ u, u = l.getD (j + k) 0 := ⟨_, rfl⟩
      rw [← hu] at cu huk HS
      clear hu
      rw [B_eq] at hvk huk
      have ejk : k + j = j + k := Nat.add_comm _ _
      have a1 : IntKind.i64.wrap ((k : Int) + (j : Int)) = (k : Int) + (j : Int) := IntWalk.i64_in _ (by omega)
      have a2 : ((k : Int) + (j : Int)).toNat = j + k := by omega
      have g0 : (0 : Int) ≤ (k : Int) + (j : Int) := by omega
      have g1 : (k : Int) + (j : Int) < (lenu : Int) := by omega
      have g2 : (0 : Int) ≤ (k : Int) := by omega
      have g3 : (k : Int) < (n : Int) := by omega
      have b1 : IntKind.u64.wrap ((u : Int) + (v : Int)) = (u : Int) + (v : Int) := wraps_u64 _ (by omega) (by omega)
      have b2 : IntKind.u64.wrap ((c' : Int) + ((u : Int) + (v : Int))) = ((c' + (u + v) : Nat) : Int) := by rw [wraps_u64 _ (by omega) (by omega)]; omega
      obtain ⟨s, hs⟩ : ∃ s, s = c' + (u + v) := ⟨_, rfl⟩
      rw [← hs] at b2
      have hsm : s < 8589934592 := by omega
      have HSS := Lib.hid hs
      clear hs
      go_wp2_with fail
      go_quiet (fail)
      clear a1 a2
      go_wp2_with fail
      go_roundw
      case rel =>
        have e1 : (s : Int) % 4294967296 = ((s % B : Nat) : Int) := by rw [B_eq]; omega
        rw [e1]
        exact ⟨k + 1, s / B, _, by omega, vint (by rw [B_eq]; omega), by go_num, HDS.out nq _ (Nat.mod_lt _ B_pos), HS.out s HSS.out⟩
      case measure => simp [intOf]; omega
    · obtain rfl : n = k := by omega
      have t1 : decide ((n : Int) < (n : Int)) = false := by simp
      have HD := Lib.hid hD
      have HM := Lib.hid hM
      clear hD hM
      go_wp2_with fail
      refine HEX.out wr l c' _ _ _ _ _ _ _ _ _ _ _ _ _ _ _ _ _ _ _ _ _ _ _ _ _ _ _ _ _ HD.out HM.out
end Go.Proofs.YtabmalnandbocaaGreatDoor.Num
namespace Go.Proofs.YtabmalnandbocaaGreatDoor.Num
set_option exponentiation.threshold 3000
set_option linter.unusedVariables false
set_option linter.unusedSimpArgs false
open Go.RowKit Go.Proofs.YtabmalnandbocaaGreatDoor.Mem Go.Proofs.YtabmalnandbocaaGreatDoor.Own Go.Proofs.YtabmalnandbocaaGreatDoor.Big

set_option maxHeartbeats 8000000 in
set_option maxRecDepth 1000000 in
theorem long_loop (Q : Exit → Act → World → Prop) (bv offv cv gu gq lenu lenq n m top nxt V U0 : Nat) (k0 : Int) (vs lu lq : List Nat) (f0 f1 f2 f3 f4 f5 f6 f7 f8 f9 f10 f14 f19 f20 f21 f22 f23 f24 f25 f26 f27 f28 f29 f30 f31 f32 f33 f34 f35 f36 f37 f38 f39 f40 f41 f42 f43 f44 f45 f46 f47 f48 f49 f50 f51 f52 f53 f54 f55 f56 f57 f58 f59 f60 f61 f62 f63 f64 f65 f66 f67 f68 f69 f70 f71 f72 f73 f74 f75 f76 f77 f78 f79 f80 f81 f82 f83 f84 f85 f86 f87 f88 f89 f90 f91 f92 f93 f94 f95 f96 f97 f98 f99 f100 f101 f102 f103 f104 f105 f106 f107 f108 f109 f110 f111 f112 f113 f114 f115 f116 f117 f118 f119 f120 f121 f122 f123 f124 f125 f126 f127 f128 f129 f130 f131 f132 f133 f134 f135 f136 f137 f138 f139 f140 f141 f142 f143 f144 f145 f146 f147 f148 f149 f150 f151 f152 f153 f154 f155 f156 f157 f158 f159 f160 f161 f162 f163 f164 f165 f166 f167 f168 f169 f170 f171 f172 f173 f174 f175 f176 f177 f178 f179 f180 f181 f182 f183 f184 f185 f186 f187 f188 f189 f190 f191 f192 f193 f194 f195 f196 f197 f198 f199 f200 f201 f202 f203 f204 f205 f206 f207 f208 f209 f210 f211 f212 f213 f214 f215 f216 f217 f218 f219 f220 f221 f222 f223 f224 f225 f226 f227 f228 f229 f230 f231 f232 f233 f234 f235 f236 f237 f238 f239 f240 f241 f242 f243 f244 f245 f246 f247 f248 f249 f250 f251 f252 f253 f254 f255 f256 f257 f258 f259 f260 f261 f262 f263 f264 f265 f266 f267 f268 f269 f270 f271 f272 : Value) (w0 w : World)
    (hn2 : 2 ≤ n) (hnm : n < 600000000) (hmm : m < 600000000) (hl : lenu < 600000000) (hlu : m + n + 1 = lenu) (hlq : m + 1 = lenq) (hv : ∀ i, i < n → w0.cell? ⟨bv, offv + i, none⟩ = some (.int .u32 (vs.getD i 0 : Nat))) (hvlt : bv < w0.heap.size) (hvd : Dig B vs)
    (hvl : vs.length = n) (hvv : val B vs = V) (htop : top = vs.getD (n - 1) 0) (hnxt : nxt = vs.getD (n - 2) 0) (ht2 : B ≤ 2 * top)
    (hk0 : k0 = (m : Int)) (hD : DvW w0 w gu gq lenu lenq lu lq) (hM : DvM V U0 (m + 1) lu lq)
    (hexit : ∀ (w' : World) (lu' lq' : List Nat) (u19 u20 u21 u22 u23 u24 u25 u26 u27 u109 u110 u111 u112 u113 u114 u115 u116 u117 u118 u119 u120 u121 u122 u123 u124 u125 u126 u127 u128 u129 u130 u131 u132 u133 u134 u135 u136 u137 u138 u139 u140 u141 u142 u143 u144 u145 u146 u147 u148 u149 u150 u151 u152 u153 u154 u155 u156 u157 u158 u159 u160 u161 u162 u163 u164 u165 u166 u167 u168 u169 u170 u171 u172 u173 u174 u175 u176 u177 u178 u179 u180 u181 u182 u183 u184 u185 u186 u187 u188 u189 u190 u191 u192 u193 u194 u195 u196 u197 u198 u199 u200 u201 u202 u203 u204 u205 u206 u207 u208 u209 u210 u211 u212 u213 u214 u215 u216 u217 u218 u219 u220 u221 u222 u223 u224 u225 u226 u227 u228 u229 u230 u231 u232 u233 u234 u235 u236 u237 u238 u239 u240 u241 u242 u243 u244 u245 u246 u247 u248 u249 u250 u251 u252 u253 u254 u255 u256 u257 u258 u259 u260 u261 u262 u263 u264 u265 u266 : Value), DvW w0 w' gu gq lenu lenq lu' lq' → DvM V U0 0 lu' lq' → Q (.exit 0) ⟨List.toArray (f0 :: f1 :: f2 :: f3 :: f4 :: f5 :: f6 :: f7 :: f8 :: f9 :: f10 :: (.slice (some ⟨bv, offv, none⟩) n cv) :: (.slice (some ⟨gu, 0, none⟩) lenu lenu) :: (.int .i64 (n : Nat)) :: f14 :: (.slice (some ⟨gq, 0, none⟩) lenq lenq) :: (.int .u64 (top : Nat)) :: (.int .u64 (nxt : Nat)) :: (.int .i64 (-1)) :: u19 :: u20 :: u21 :: u22 :: u23 :: u24 :: u25 :: u26 :: u27 :: f28 :: f29 :: f30 :: f31 :: f32 :: f33 :: f34 :: f35 :: f36 :: f37 :: f38 :: f39 :: f40 :: f41 :: f42 :: f43 :: f44 :: f45 :: f46 :: f47 :: f48 :: f49 :: f50 :: f51 :: f52 :: f53 :: f54 :: f55 :: f56 :: f57 :: f58 :: f59 :: f60 :: f61 :: f62 :: f63 :: f64 :: f65 :: f66 :: f67 :: f68 :: f69 :: f70 :: f71 :: f72 :: f73 :: f74 :: f75 :: f76 :: f77 :: f78 :: f79 :: f80 :: f81 :: f82 :: f83 :: f84 :: f85 :: f86 :: f87 :: f88 :: f89 :: f90 :: f91 :: f92 :: f93 :: f94 :: f95 :: f96 :: f97 :: f98 :: f99 :: f100 :: f101 :: f102 :: f103 :: f104 :: f105 :: f106 :: f107 :: f108 :: u109 :: u110 :: u111 :: u112 :: u113 :: u114 :: u115 :: u116 :: u117 :: u118 :: u119 :: u120 :: u121 :: u122 :: u123 :: u124 :: u125 :: u126 :: u127 :: u128 :: u129 :: u130 :: u131 :: u132 :: u133 :: u134 :: u135 :: u136 :: u137 :: u138 :: u139 :: u140 :: u141 :: u142 :: u143 :: u144 :: u145 :: u146 :: u147 :: u148 :: u149 :: u150 :: u151 :: u152 :: u153 :: u154 :: u155 :: u156 :: u157 :: u158 :: u159 :: u160 :: u161 :: u162 :: u163 :: u164 :: u165 :: u166 :: u167 :: u168 :: u169 :: u170 :: u171 :: u172 :: u173 :: u174 :: u175 :: u176 :: u177 :: u178 :: u179 :: u180 :: u181 :: u182 :: u183 :: u184 :: u185 :: u186 :: u187 :: u188 :: u189 :: u190 :: u191 :: u192 :: u193 :: u194 :: u195 :: u196 :: u197 :: u198 :: u199 :: u200 :: u201 :: u202 :: u203 :: u204 :: u205 :: u206 :: u207 :: u208 :: u209 :: u210 :: u211 :: u212 :: u213 :: u214 :: u215 :: u216 :: u217 :: u218 :: u219 :: u220 :: u221 :: u222 :: u223 :: u224 :: u225 :: u226 :: u227 :: u228 :: u229 :: u230 :: u231 :: u232 :: u233 :: u234 :: u235 :: u236 :: u237 :: u238 :: u239 :: u240 :: u241 :: u242 :: u243 :: u244 :: u245 :: u246 :: u247 :: u248 :: u249 :: u250 :: u251 :: u252 :: u253 :: u254 :: u255 :: u256 :: u257 :: u258 :: u259 :: u260 :: u261 :: u262 :: u263 :: u264 :: u265 :: u266 :: f267 :: f268 :: f269 :: f270 :: f271 :: f272 :: []), []⟩ w') :
    Code.wp Tryz.prog (Code.loop bodyJ) Q ⟨List.toArray (f0 :: f1 :: f2 :: f3 :: f4 :: f5 :: f6 :: f7 :: f8 :: f9 :: f10 :: (.slice (some ⟨bv, offv, none⟩) n cv) :: (.slice (some ⟨gu, 0, none⟩) lenu lenu) :: (.int .i64 (n : Nat)) :: f14 :: (.slice (some ⟨gq, 0, none⟩) lenq lenq) :: (.int .u64 (top : Nat)) :: (.int .u64 (nxt : Nat)) :: (.int .i64 (k0 : Int)) :: f19 :: f20 :: f21 :: f22 :: f23 :: f24 :: f25 :: f26 :: f27 :: f28 :: f29 :: f30 :: f31 :: f32 :: f33 :: f34 :: f35 :: f36 :: f37 :: f38 :: f39 :: f40 :: f41 :: f42 :: f43 :: f44 :: f45 :: f46 :: f47 :: f48 :: f49 :: f50 :: f51 :: f52 :: f53 :: f54 :: f55 :: f56 :: f57 :: f58 :: f59 :: f60 :: f61 :: f62 :: f63 :: f64 :: f65 :: f66 :: f67 :: f68 :: f69 :: f70 :: f71 :: f72 :: f73 :: f74 :: f75 :: f76 :: f77 :: f78 :: f79 :: f80 :: f81 :: f82 :: f83 :: f84 :: f85 :: f86 :: f87 :: f88 :: f89 :: f90 :: f91 :: f92 :: f93 :: f94 :: f95 :: f96 :: f97 :: f98 :: f99 :: f100 :: f101 :: f102 :: f103 :: f104 :: f105 :: f106 :: f107 :: f108 :: f109 :: f110 :: f111 :: f112 :: f113 :: f114 :: f115 :: f116 :: f117 :: f118 :: f119 :: f120 :: f121 :: f122 :: f123 :: f124 :: f125 :: f126 :: f127 :: f128 :: f129 :: f130 :: f131 :: f132 :: f133 :: f134 :: f135 :: f136 :: f137 :: f138 :: f139 :: f140 :: f141 :: f142 :: f143 :: f144 :: f145 :: f146 :: f147 :: f148 :: f149 :: f150 :: f151 :: f152 :: f153 :: f154 :: f155 :: f156 :: f157 :: f158 :: f159 :: f160 :: f161 :: f162 :: f163 :: f164 :: f165 :: f166 :: f167 :: f168 :: f169 :: f170 :: f171 :: f172 :: f173 :: f174 :: f175 :: f176 :: f177 :: f178 :: f179 :: f180 :: f181 :: f182 :: f183 :: f184 :: f185 :: f186 :: f187 :: f188 :: f189 :: f190 :: f191 :: f192 :: f193 :: f194 :: f195 :: f196 :: f197 :: f198 :: f199 :: f200 :: f201 :: f202 :: f203 :: f204 :: f205 :: f206 :: f207 :: f208 :: f209 :: f210 :: f211 :: f212 :: f213 :: f214 :: f215 :: f216 :: f217 :: f218 :: f219 :: f220 :: f221 :: f222 :: f223 :: f224 :: f225 :: f226 :: f227 :: f228 :: f229 :: f230 :: f231 :: f232 :: f233 :: f234 :: f235 :: f236 :: f237 :: f238 :: f239 :: f240 :: f241 :: f242 :: f243 :: f244 :: f245 :: f246 :: f247 :: f248 :: f249 :: f250 :: f251 :: f252 :: f253 :: f254 :: f255 :: f256 :: f257 :: f258 :: f259 :: f260 :: f261 :: f262 :: f263 :: f264 :: f265 :: f266 :: f267 :: f268 :: f269 :: f270 :: f271 :: f272 :: []), []⟩ w := by
  have HEX := Lib.hid hexit
  have HD := Lib.hid hD
  have HM := Lib.hid hM
  have HV := Lib.hid hv
  have HT2 := Lib.hid ht2
  have HTOP := Lib.hid htop
  have HNXT := Lib.hid hnxt
  have HVL := Lib.hid hvl
  have HVV := Lib.hid hvv
  have HLU := Lib.hid hlu
  have HLQ := Lib.hid hlq
  have htB : top < B := by rw [htop]; exact hvd.getD B_pos _
  have hxB : nxt < B := by rw [hnxt]; exact hvd.getD B_pos _
  rw [B_eq] at htB hxB
  subst hk0
  clear hexit hD hM hv ht2 htop hnxt hvl hvv hlu hlq
  conv => arg 2; arg 1; whnf
  go_loopw [18] (fun i wr => ∃ (k : Nat) (lu lq : List Nat), k ≤ m + 1 ∧ i = .int .i64 ((k : Int) - 1) ∧ DvW w0 wr gu gq lenu lenq lu lq ∧ DvM V U0 k lu lq) (fun i _ => (intOf i + 1).toNat)
  case atStart => exact ⟨m + 1, lu, lq, Nat.le_refl _, by go_num, HD.out, HM.out⟩
  case round =>
    obtain ⟨k, lu, lq, hk, rfl, hD, hM⟩ := hrel
    by_cases hk0 : k = 0
    · subst hk0
      have t1 : decide ((0 : Int) ≤ ((0 : Nat) : Int) - 1) = false := by decide
      have HD := Lib.hid hD
      have HM := Lib.hid hM
      clear hD hM
      go_wp2_with fail
      exact HEX.out wr lu lq _ _ _ _ _ _ _ _ _ _ _ _ _ _ _ _ _ _ _ _ _ _ _ _ _ _ _ _ _ _ _ _ _ _ _ _ _ _ _ _ _ _ _ _ _ _ _ _ _ _ _ _ _ _ _ _ _ _ _ _ _ _ _ _ _ _ _ _ _ _ _ _ _ _ _ _ _ _ _ _ _ _ _ _ _ _ _ _ _ _ _ _ _ _ _ _ _ _ _ _ _ _ _ _ _ _ _ _ _ _ _ _ _ _ _ _ _ _ _ _ _ _ _ _ _ _ _ _ _ _ _ _ _ _ _ _ _ _ _ _ _ _ _ _ _ _ _ _ _ _ _ _ _ _ _ _ _ _ _ _ _ _ _ _ _ _ _ HD.out HM.out
    · obtain ⟨j, rfl⟩ : ∃ j, k = j + 1 := ⟨k - 1, by omega⟩
      have ej : ((j + 1 : Nat) : Int) - 1 = (j : Int) := by omega
      rw [ej]
      clear ej
      have t1 : decide ((0 : Int) ≤ (j : Int)) = true := by simp
      have hjn : j + n < lenu := by rw [← HLU.out]; omega
      have hjq : j < lenq := by rw [← HLQ.out]; omega
      have hR : Rnd vs V n j lu := ⟨hvd, HVL.out, HVV.out, hn2, by rw [← HTOP.out]; exact HT2.out, hD.du, by rw [hD.lu]; exact hjn, hM.low⟩
      have c2 := hD.cellU (j + n) hjn
      have c1 := hD.cellU (j + n - 1) (by omega)
      have c0 := hD.cellU (j + n - 2) (by omega)
      have b2 := hD.du.getD B_pos (j + n)
      have b1 := hD.du.getD B_pos (j + n - 1)
      have b0 := hD.du.getD B_pos (j + n - 2)
      have hu2 := hR.u2_le
      rw [← HTOP.out] at hu2
      have HGS := Lib.hid (fun g => hR.guess (g := g))
      rw [← HTOP.out, ← HNXT.out] at HGS
      have HR := Lib.hid hR
      have HD := Lib.hid hD
      have HM := Lib.hid hM
      clear hR hD hM
      generalize hu2e : lu.getD (j + n) 0 = u2 at *
      generalize hu1e : lu.getD (j + n - 1) 0 = u1 at *
      generalize hu0e : lu.getD (j + n - 2) 0 = u0 at *
      have HU2 := Lib.hid hu2e
      clear hu2e hu1e hu0e
      rw [B_eq] at b2 b1 b0
      have HG0 := Lib.hid (guess_start (b := B) (top := top) (next := nxt) (u2 := u2) (u1 := u1) (u0 := u0) HT2.out (by rw [B_eq]; exact htB) hu2 (by rw [B_eq]; exact b1) (by rw [B_eq]; exact b0))
      have htp : 0 < top := by have := HT2.out; rw [B_eq] at this; omega
      have tt : ((top : Int) == 0) = false := by rw [beq_eq_false_iff_ne]; omega
      have a1 : IntKind.i64.wrap ((j : Int) + (n : Int)) = (j : Int) + (n : Int) := IntWalk.i64_in _ (by omega)
      have a2 : ((j : Int) + (n : Int)).toNat = j + n := by omega
      have a3 : IntKind.i64.wrap ((j : Int) + (n : Int) - 1) = (j : Int) + (n : Int) - 1 := IntWalk.i64_in _ (by omega)
      have a4 : ((j : Int) + (n : Int) - 1).toNat = j + n - 1 := by omega
      have g0 : (0 : Int) ≤ (j : Int) + (n : Int) := by omega
      have g1 : (j : Int) + (n : Int) < (lenu : Int) := by omega
      have g2 : (0 : Int) ≤ (j : Int) + (n : Int) - 1 := by omega
      have g3 : (j : Int) + (n : Int) - 1 < (lenu : Int) := by omega
      have hor := or_hi_lo (h := u2) (l := u1) b2 b1
      go_wp2_with fail
      go_quiet (fail)
      clear a1 a2 a3 a4 g0 g1 g2 g3
      go_wp2_with fail
      go_quiet (fail)
      go_wp2_with fail
      have e20 : ((u2 : Int) * 4294967296 + (u1 : Int)) / (top : Int) = (((u2 * B + u1) / top : Nat) : Int) := by rw [B_eq]; simp
      have e21 : ((u2 : Int) * 4294967296 + (u1 : Int)) % (top : Int) = (((u2 * B + u1) % top : Nat) : Int) := by rw [B_eq]; simp
      rw [e20, e21]
      clear e20 e21 hor tt
      refine guess_loop _ gu lenu n j top nxt u2 u1 u0 ((u2 * B + u1) / top) ((u2 * B + u1) % top) _ _ _ _ _ _ _ _ _ _ _ _ _ _ _ _ _ _ _ _ _ _ _ _ _ _ _ _ _ _ _ _ _ _ _ _ _ _ _ _ _ _ _ _ _ _ _ _ _ _ _ _ _ _ _ _ _ _ _ _ _ _ _ _ _ _ _ _ _ _ _ _ _ _ _ _ _ _ _ _ _ _ _ _ _ _ _ _ _ _ _ _ _ _ _ _ _ _ _ _ _ _ _ _ _ _ _ _ _ _ _ _ _ _ _ _ _ _ _ _ _ _ _ _ _ _ _ _ _ _ _ _ _ _ _ _ _ _ _ _ _ _ _ _ _ _ _ _ _ _ _ _ _ _ _ _ _ _ _ _ _ _ _ _ _ _ _ _ _ _ _ _ _ _ _ _ _ _ _ _ _ _ _ _ _ _ _ _ _ _ _ _ _ _ _ _ _ _ _ _ _ _ _ _ _ _ _ _ _ _ _ _ _ _ _ _ _ _ _ _ _ _ _ _ _ _ _ _ _ _ _ _ _ _ _ _ _ _ _ _ _ _ _ _ _ _ _ _ _ _ _ _ _ _ _ _ _ _ _ _ _ _ _ _ _ _ _ hn2 hnm hjn hl ?hc htB hxB hu2 b1 b0 ?h5 HG0.out ?hexit1
      case hc => exact c0
      case h5 => have := HT2.out; rw [B_eq] at this; exact this
      case hexit1 =>
        intro g' r' v136 v137 v138 v139 v140 v141 v142 v143 v144 v145 v146 v147 v148 v149 v150 v151 v152 v153 v154 v155 v156 v157 v158 v159 v160 v161 hE
        have hgq := HGS.out g' hE.h1 hE.h2 hE.h3
        have HGQ := Lib.hid hgq
        have hgB : g' < 4294967296 := by have := hE.h1; rw [B_eq] at this; omega
        clear hE HG0 HGS hgq c2 c1 c0
        go_wp2_with fail
        refine sub_loop _ bv offv cv gu gq lenu lenq n j g' (val B lu) vs lu lq _ _ _ _ _ _ _ _ _ _ _ _ _ _ _ _ _ _ _ _ _ _ _ _ _ _ _ _ _ _ _ _ _ _ _ _ _ _ _ _ _ _ _ _ _ _ _ _ _ _ _ _ _ _ _ _ _ _ _ _ _ _ _ _ _ _ _ _ _ _ _ _ _ _ _ _ _ _ _ _ _ _ _ _ _ _ _ _ _ _ _ _ _ _ _ _ _ _ _ _ _ _ _ _ _ _ _ _ _ _ _ _ _ _ _ _ _ _ _ _ _ _ _ _ _ _ _ _ _ _ _ _ _ _ _ _ _ _ _ _ _ _ _ _ _ _ _ _ _ _ _ _ _ _ _ _ _ _ _ _ _ _ _ _ _ _ _ _ _ _ _ _ _ _ _ _ _ _ _ _ _ _ _ _ _ _ _ _ _ _ _ _ _ _ _ _ _ _ _ _ _ _ _ _ _ _ _ _ _ _ _ _ _ _ _ _ _ _ _ _ _ _ _ _ _ _ _ _ _ _ _ _ _ _ _ _ _ _ _ _ _ _ _ _ _ _ _ _ _ _ _ _ _ _ _ _ _ _ _ _ _ _ _ _ _ w0 _ hnm hjn hl HV.out hvlt hvd ?hDD hgB ?hMM ?hexit2
        case hDD => exact (HD.out.drewN _).drewN _
        case hMM => exact ⟨by simp [val], HD.out.du, HR.out.high, B_pos, by omega⟩
        case hexit2 =>
          intro w2 lu2 c' d' v25 v162 v163 v164 v165 v166 v167 v168 v169 v170 v171 v172 v173 v174 v175 v176 v177 v178 v179 v180 v181 v182 v183 v184 v185 v186 v187 v188 v189 v190 v191 v192 v193 v194 v195 v196 v197 v198 v199 hD2 hS2
          have cu := hD2.cellU (j + n) hjn
          have cf := Blk.frozen hD2.bu (j + n)
          have hub := hD2.du.getD B_pos (j + n)
          have hTM := fun u hu => hS2.top_ (by rw [hD2.lu]; exact hjn) (u := u) hu
          have hc1 := hS2.c1
          have hd1 := hS2.d1
          have HTM := Lib.hid hTM
          have HD2 := Lib.hid hD2
          clear hD2 hS2 hTM
          obtain ⟨u, hu⟩ : ∃ u, u = lu2.getD (j + n) 0 := ⟨_, rfl⟩
          rw [← hu] at cu hub
          have HU := Lib.hid hu
          clear hu
          rw [B_eq] at hub hc1
          have HW := Lib.hid (sub_word (u := u) (lo := c') (d := d') hub hc1 hd1)
          have hwB : subW u c' d' < B := subW_lt (by rw [B_eq]; exact hub) (by rw [B_eq]; exact hc1) hd1
          have HD3 := Lib.hid (HD2.out.setU (j + n) (subW u c' d') hwB)
          have HTT := Lib.hid (HTM.out u HU.out)
          rcases (show subD u c' d' = 0 ∨ subD u c' d' = 1 by have := subD_le u c' d'; omega) with hd | hd
          · have t5 : (IntKind.u64.wrap (IntKind.u64.wrap ((u : Int) - (c' : Int)) - (d' : Int)) / 9223372036854775808 != 0) = false := by rw [HW.out.2, hd]; rfl
            rw [hd] at HTT
            have HEND := Lib.hid (HR.out.right HGQ.out HTT.out)
            have HST := Lib.hid (HM.out.step HR.out (l := lu2.set (j + n) (subW u c' d')) (by have := HEND.out.2; rwa [HEND.out.1] at this) (by rw [HD.out.lq, ← HLQ.out]; omega))
            have cq := HD3.out.cellQ j (by rw [← HLQ.out]; omega)
            have cqf := Blk.frozen HD3.out.bq j
            rw [← HW.out.1] at cq cqf
            generalize lq.getD j 0 = zq at cq
            clear hd
            go_wp2_with fail
            go_roundw
            case rel =>
              rw [HW.out.1]
              rw [← HEND.out.1] at HST
              exact ⟨j, _, _, by omega, rfl, HD3.out.setQ j g' (by rw [B_eq]; exact hgB), HST.out.2⟩
            case measure => simp [intOf]
          · have t5 : (IntKind.u64.wrap (IntKind.u64.wrap ((u : Int) - (c' : Int)) - (d' : Int)) / 9223372036854775808 != 0) = true := by rw [HW.out.2, hd]; rfl
            rw [hd] at HTT
            clear hd
            have hg1 : 1 ≤ g' := by
              apply Classical.byContradiction
              intro hc
              obtain rfl : g' = 0 := by omega
              have e := HTT.out.eq
              have hl := val_small HTT.out.dig B_pos (k := j + n + 1) (fun t ht => HTT.out.high t ht)
              simp at e
              omega
            have hgi : (1 : Int) ≤ (g' : Int) := by omega
            have eg := Lib.hid (show (g' : Int) - 1 = ((g' - 1 : Nat) : Int) by omega)
            have hgm : g' - 1 < B := by rw [B_eq]; omega
            have E1 := Lib.hid HW.out.1
            go_wp2_with fail
            rw [eg.out, E1.out]
            refine again_loop _ bv offv cv gu gq lenu lenq n j vs (lu2.set (j + n) (subW u c' d')) lq _ _ _ _ _ _ _ _ _ _ _ _ _ _ _ _ _ _ _ _ _ _ _ _ _ _ _ _ _ _ _ _ _ _ _ _ _ _ _ _ _ _ _ _ _ _ _ _ _ _ _ _ _ _ _ _ _ _ _ _ _ _ _ _ _ _ _ _ _ _ _ _ _ _ _ _ _ _ _ _ _ _ _ _ _ _ _ _ _ _ _ _ _ _ _ _ _ _ _ _ _ _ _ _ _ _ _ _ _ _ _ _ _ _ _ _ _ _ _ _ _ _ _ _ _ _ _ _ _ _ _ _ _ _ _ _ _ _ _ _ _ _ _ _ _ _ _ _ _ _ _ _ _ _ _ _ _ _ _ _ _ _ _ _ _ _ _ _ _ _ _ _ _ _ _ _ _ _ _ _ _ _ _ _ _ _ _ _ _ _ _ _ _ _ _ _ _ _ _ _ _ _ _ _ _ _ _ _ _ _ _ _ _ _ _ _ _ _ _ _ _ _ _ _ _ _ _ _ _ _ _ _ _ _ _ _ _ _ _ _ _ _ _ _ _ _ _ _ _ _ _ _ _ _ _ _ _ _ _ _ _ _ _ _ _ _ _ w0 _ hnm hjn hl HV.out hvlt hvd HD3.out ?hAA ?hexit3
            case hAA => exact ⟨by simp [val], HTT.out.dig, HTT.out.high, by omega⟩
            case hexit3 =>
              intro w4 lu4 c4 v223 v224 v225 v226 v227 v228 v229 v230 v231 v232 v233 v234 v235 v236 v237 v238 v239 v240 v241 v242 v243 v244 v245 v246 v247 v248 v249 v250 v251 hD4 hA4
              have cu4 := hD4.cellU (j + n) hjn
              have cf4 := Blk.frozen hD4.bu (j + n)
              have hub4 := hD4.du.getD B_pos (j + n)
              have hc4 := hA4.c1
              obtain ⟨x, hx⟩ : ∃ x, x = lu4.getD (j + n) 0 := ⟨_, rfl⟩
              have hAT := hA4.top_ (by rw [hD4.lu]; exact hjn) (u := x) hx
              rw [← hx] at cu4 hub4
              rw [B_eq] at hub4
              have ew : ((x : Int) + (c4 : Int)) % 4294967296 = (((x + c4) % B : Nat) : Int) := by rw [B_eq]; omega
              have HD5 := Lib.hid (hD4.setU (j + n) ((x + c4) % B) (Nat.mod_lt _ B_pos))
              obtain ⟨e, he1, he2, he3, he4⟩ := hAT
              have HEND := Lib.hid (HR.out.less HGQ.out HTT.out he1 he2 he3 he4)
              have HST := Lib.hid (HM.out.step HR.out (l := lu4.set (j + n) ((x + c4) % B)) (by have := HEND.out.2.2; rwa [HEND.out.2.1] at this) (by rw [HD.out.lq, ← HLQ.out]; omega))
              have cq := HD5.out.cellQ j hjq
              have cqf := Blk.frozen HD5.out.bq j
              rw [← ew] at cq cqf
              have EW := Lib.hid ew
              generalize lq.getD j 0 = zq at cq
              clear hD4 hA4 hx he1 he2 he3 he4 ew
              go_wp2_with fail
              go_roundw
              case rel =>
                rw [EW.out]
                rw [← HEND.out.2.1] at HST
                exact ⟨j, _, _, by omega, rfl, HD5.out.setQ j (g' - 1) hgm, HST.out.2⟩
              case measure => simp [intOf]
end Go.Proofs.YtabmalnandbocaaGreatDoor.Num
namespace Go.Proofs.YtabmalnandbocaaGreatDoor.Num
set_option exponentiation.threshold 3000
set_option linter.unusedVariables false
set_option linter.unusedSimpArgs false
open Go.RowKit Go.Proofs.YtabmalnandbocaaGreatDoor.Mem Go.Proofs.YtabmalnandbocaaGreatDoor.Own Go.Proofs.YtabmalnandbocaaGreatDoor.Big

theorem u32_size : (Tryz.prog.info? 94).map (·.size) = some 1 := by kernel_rfl
/-- The shift that makes the divisor's top word great. -/
def shF (y : Nat) : Nat := 31 - (Rung.blen y - 1) % 32
theorem shF_int {y : Nat} (h : y ≠ 0) : (32 : Int) - ((Rung.blen y : Int) - 1) % 32 - 1 = (shF y : Int) := by
  have := Rung.blen_pos h
  unfold shF; omega
theorem copy_nums {w : World} {A : Option Addr} {l : List Nat} (h : LAt w .u32 A l) (hp : 0 < (vals .u32 l).length) : ∃ ad, A = some ad ∧ ∀ j v, (vals .u32 l)[j]? = some v → w.cell? (ad.add j) = some v := by
  rcases h with rfl | ⟨b, off, rfl, hlt, hc⟩
  · simp [vals] at hp
  · refine ⟨_, rfl, fun j v hv => ?_⟩
    have hj : j < l.length := by rw [← vals_len .u32 l]; exact (List.getElem?_eq_some_iff.1 hv).1
    rw [vals_get _ _ _ hj] at hv
    rw [← hv, show (⟨b, off, none⟩ : Addr).add j = ⟨b, off + j, none⟩ by unfold Addr.add; split <;> simp_all]
    exact hc j hj
theorem splice_nums (l : List Nat) (n : Nat) (h : l.length ≤ n) : (splice (arr .u32 (List.replicate n 0)).toList 0 (vals .u32 l)).toArray = arr .u32 (l ++ List.replicate (n - l.length) 0) := by
  unfold splice arr vals
  simp [List.map_append, List.drop_replicate]
theorem blen_shift {y : Nat} (h : y ≠ 0) (s : Nat) : Rung.blen (y * 2 ^ s) = Rung.blen y + s :=
  Rung.blen_top (Nat.mul_div_cancel _ (Nat.pow_pos (by decide))) h
theorem blen_words {y n : Nat} (h : n = (digs B y).length) (h0 : 0 < n) : 32 * (n - 1) < Rung.blen y ∧ Rung.blen y ≤ 32 * n := by
  obtain ⟨m, rfl⟩ : ∃ m, n = m + 1 := ⟨n - 1, by omega⟩
  obtain ⟨h1, h2⟩ := top_blen h
  have h3 := (digs_dig hB y).getD B_pos m
  generalize (digs B y).getD m 0 = t at *
  rw [B_eq] at h3
  have h4 := blen_32 h3
  have h5 := Rung.blen_pos h1
  omega
/-- The divisor, shifted. -/
theorem shift_top {y n : Nat} (h : n = (digs B y).length) (h0 : 0 < n) : (digs B (y * 2 ^ shF y)).length = n ∧ B ≤ 2 * (digs B (y * 2 ^ shF y)).getD (n - 1) 0 := by
  have hy : y ≠ 0 := by rintro rfl; rw [digs_zero] at h; simp at h; omega
  obtain ⟨h1, h2⟩ := blen_words h h0
  have hb := blen_shift hy (shF y)
  have hb2 : Rung.blen (y * 2 ^ shF y) = 32 * n := by unfold shF at *; omega
  have hV : y * 2 ^ shF y ≠ 0 := Nat.mul_ne_zero hy (Nat.ne_of_gt (Nat.pow_pos (by decide)))
  have g1 := Rung.blen_lt (y * 2 ^ shF y)
  have g2 := Rung.blen_ge hV
  rw [hb2] at g1 g2
  generalize y * 2 ^ shF y = V at *
  obtain ⟨m, rfl⟩ : ∃ m, n = m + 1 := ⟨n - 1, by omega⟩
  have e1 : B ^ (m + 1) = 2 ^ (32 * (m + 1)) := pow_32 _
  have e2 : 2 ^ (32 * (m + 1) - 1) = B ^ m * 2 ^ 31 := by rw [pow_32, ← Nat.pow_add]; exact congrArg _ (by omega)
  rw [← e1] at g1
  rw [e2] at g2
  have hp : 0 < B ^ m := Nat.pow_pos B_pos
  have g3 : 2 ^ 31 ≤ V / B ^ m := (Nat.le_div_iff_mul_le hp).2 (by rw [Nat.mul_comm]; exact g2)
  refine ⟨digs_len_eq hB ?_ g1, ?_⟩
  · have : B ^ m * 1 ≤ B ^ m * 2 ^ 31 := Nat.mul_le_mul_left _ (by decide)
    omega
  · rw [Nat.add_sub_cancel, digs_getD hB, Nat.mod_eq_of_lt ((Nat.div_lt_iff_lt_mul hp).2 (by rw [Nat.mul_comm, ← Nat.pow_succ]; exact g1))]
    rw [B_eq] at *
    omega
theorem shift_len {x n s : Nat} (h : n = (digs B x).length) (hs : s < 32) : (digs B (x * 2 ^ s)).length ≤ n + 1 := by
  apply digs_len_le hB
  rw [Nat.pow_succ]
  have h1 := digs_lt hB x
  rw [← h] at h1
  have h2 : 2 ^ s ≤ B := by rw [B_split (Nat.le_of_lt hs)]; exact Nat.le_mul_of_pos_right _ (Nat.pow_pos (by decide))
  calc x * 2 ^ s < B ^ n * 2 ^ s := Nat.mul_lt_mul_of_pos_right h1 (Nat.pow_pos (by decide))
    _ ≤ B ^ n * B := Nat.mul_le_mul_left _ h2
theorem sh_lt (y : Nat) : shF y < 32 := by unfold shF; omega
set_option maxHeartbeats 8000000 in
set_option maxRecDepth 100000 in
theorem div_great (A : Option Addr) (n c x : Nat) (A' : Option Addr) (n' c' y : Nat) (w : World) (ha : NumAt w A n x) (hb : NumAt w A' n' y) (hm : n < 500000000) (h2 : 2 < n) (h2' : 2 ≤ n') (hle : y ≤ x) :
    Calls Tryz.prog 124 #[.slice A n c, .slice A' n' c'] w (DivPost w x y) := by
  have hnn : n' ≤ n := by
    rcases Nat.lt_or_ge n n' with h | h
    · have := digs_mono_len hB (m := x) (n := y) (by rw [← ha.1, ← hb.1]; exact h); omega
    · exact h
  have HC := Lib.hid (cmp_w A n c x A' n' c' y w ha hb (by omega) (by omega))
  have tv := cmpI_nonneg hle
  have hy0 : y ≠ 0 := fun h => by have := hb.len_zero.2 h; omega
  have HL := Lib.hid (fun W (h : NumAt W A' n' y) => length_w A' n' c' y W h (by omega))
  have HLB := Lib.hid (fun W (h : NumAt W A' n' y) => left_w A' n' c' y (shF y) W h (by omega) (by unfold shF; omega))
  have HLA := Lib.hid (fun W (h : NumAt W A n x) => left_w A n c x (shF y) W h (by omega) (by unfold shF; omega))
  have HSH := Lib.hid (shF_int hy0)
  have hbl := Rung.blen_pos hy0
  have HA := Lib.hid ha
  have HB := Lib.hid hb
  have t2 : decide ((n : Int) ≤ 2) = false := by simp; omega
  have t3 : ((n' : Int) == 1) = false := by rw [beq_eq_false_iff_ne]; omega
  have t4 : ((n' : Int) == 0) = false := by rw [beq_eq_false_iff_ne]; omega
  have hblm : Rung.blen y < 9223372036854775807 := by have := (blen_words hb.1 (by omega)).2; omega
  obtain ⟨hvl, hvt⟩ := shift_top hb.1 (by omega)
  have hul := shift_len ha.1 (sh_lt y)
  have HVL := Lib.hid hvl
  have HVT := Lib.hid hvt
  have HUL := Lib.hid hul
  have hmk := fun W => make_u32 W ((n : Int) + 2) (n + 2) (by omega) (by omega)
  clear ha hb hle hvl hvt hul
  go_enter Tryz.func124, Tryz.ntmps124
  go_wp2_with fail
  refine HC.out.mono ?_
  rintro e w1 ⟨rfl, q, rfl⟩
  go_wp2_with fail
  refine (HL.out _ (HB.out.drewN q)).mono ?_
  rintro e w2 ⟨rfl, rfl⟩
  go_wp2_with fail
  rw [HSH.out]
  generalize hsh : shF y = sh at *
  have HSS := Lib.hid hsh
  clear hsh hblm hbl
  refine (HLB.out _ (HB.out.drewN q)).mono ?_
  rintro e w3 ⟨Av, nv, cv, rfl, hv, bv⟩
  obtain rfl : nv = n' := by rw [hv.1, HVL.out]
  have HV := Lib.hid hv
  have b3 := (bdrewN (Below.refl _ w) q).trans bv
  have z3 := b3.size
  clear hv
  go_wp2_with fail
  clear hmk
  have HA3 := HA.out.below (b3.alloc z3 (.cells (arr .u32 (List.replicate (n + 2) 0)) 94))
  refine (HLA.out _ HA3).mono ?_
  rintro e w4 ⟨Aa, na, ca, rfl, h4, b4⟩
  have z4 := b4.size
  simp at z4
  have hlen4 : na ≤ n + 1 := by rw [h4.1]; exact HUL.out
  have hblk := Blk.new w3 94 (arr .u32 (List.replicate (n + 2) 0))
  have hblk4 := Blk.below hblk b4 (by simp)
  have b34 : Below w3.heap.size w3 w4 := bthen ((Below.refl _ w3).alloc (Nat.le_refl _) _) b4
  have HL4 := Lib.hid h4.2
  have HLV := Lib.hid (show (vals .u32 (digs B (x * 2 ^ sh))).length = na by rw [vals_len, h4.1])
  have H4 := Lib.hid h4.1
  clear h4 hblk
  go_wp2_with (with_reducible refine wpList_copy_splice rfl (.tmp 81) (.tmp 84) 125 125 rfl 94 Tryz.underlying125 u32_size (some ⟨w3.heap.size, 0, none⟩) Aa (n + 2) (n + 2) na ca rfl rfl w3.heap.size 0 (arr .u32 (List.replicate (n + 2) 0)).toList 94 ?d1 (vals .u32 (digs B (x * 2 ^ sh))) ?d2 ?d3 ?d4 (vals_one _ _) w3.heap.size w3 b34 (Nat.le_refl _) ?_)
  case d1 => exact hblk4
  case d2 => rw [HLV.out]; exact (Nat.min_eq_left (by omega)).symm
  case d3 =>
    intro hp
    exact copy_nums HL4.out hp
  case d4 => rw [HLV.out]; simp [arr]; omega
  intro w5 hg5 b5
  rw [splice_nums _ _ (by rw [← H4.out]; omega)] at hg5
  obtain ⟨m, hmn⟩ : ∃ m, n + 1 = nv + m := ⟨n + 1 - nv, by omega⟩
  have hmk2 := fun W => make_u32 W ((n : Int) + 2 - (nv : Int)) (m + 1) (by omega) (by omega)
  have hsz5 : w3.heap.size < w5.heap.size := (Array.getElem?_eq_some_iff.1 hg5.out).1
  have hq5 : Blk w5 w3.heap.size 94 _ := hg5.out
  have HV5 := HV.out.below ⟨b5.os, b5.tape, b5.output, b5.size, b5.block⟩
  obtain ⟨bvv, offv, rfl, hvlt, hvc⟩ := HV.out.2.cells (by rw [HVL.out]; omega)
  rw [HVL.out] at hvc
  have HVC := Lib.hid hvc
  have DW : DvW w3 (w5.alloc (.cells (arr .u32 (List.replicate (m + 1) 0)) 94)) w3.heap.size w5.heap.size (n + 2) (m + 1) (digs B (x * 2 ^ sh) ++ List.replicate (n + 2 - (digs B (x * 2 ^ sh)).length) 0) (List.replicate (m + 1) 0) :=
    ⟨Blk.alloc hq5 _, Blk.new w5 _ _, Nat.le_refl _, Nat.le_of_lt hsz5, by omega, (digs_dig hB _).append (dig_zeros B_pos _), dig_zeros B_pos _, by rw [List.length_append, List.length_replicate]; have := HUL.out; omega, by simp, b5.alloc (Nat.le_of_lt hsz5) _⟩
  have c1 := (DW.bel.cell (p := ⟨bvv, offv + (nv - 1), none⟩) hvlt).trans (HVC.out (nv - 1) (by omega))
  have c2 := (DW.bel.cell (p := ⟨bvv, offv + (nv - 2), none⟩) hvlt).trans (HVC.out (nv - 2) (by omega))
  have D := Lib.hid DW
  have d1 := (digs_dig hB (y * 2 ^ sh)).getD B_pos (nv - 1)
  have d2 := (digs_dig hB (y * 2 ^ sh)).getD B_pos (nv - 2)
  obtain ⟨top, htop⟩ : ∃ t, t = (digs B (y * 2 ^ sh)).getD (nv - 1) 0 := ⟨_, rfl⟩
  obtain ⟨nxt, hnxt⟩ : ∃ t, t = (digs B (y * 2 ^ sh)).getD (nv - 2) 0 := ⟨_, rfl⟩
  rw [← htop] at c1 d1
  rw [← hnxt] at c2 d2
  rw [B_eq] at d1 d2
  have HTOP := Lib.hid htop
  have HNXT := Lib.hid hnxt
  clear htop hnxt hvc DW HV5 hq5
  have a1 : IntKind.i64.wrap ((nv : Int) - 1) = (nv : Int) - 1 := IntWalk.i64_in _ (by omega)
  have a2 : IntKind.i64.wrap ((nv : Int) - 2) = (nv : Int) - 2 := IntWalk.i64_in _ (by omega)
  have a3 : ((nv : Int) - 1).toNat = nv - 1 := by omega
  have a4 : ((nv : Int) - 2).toNat = nv - 2 := by omega
  have a5 : (0 : Int) ≤ (nv : Int) - 1 := by omega
  have a6 : (0 : Int) ≤ (nv : Int) - 2 := by omega
  have a7 : (nv : Int) - 1 < (nv : Int) := by omega
  have a8 : (nv : Int) - 2 < (nv : Int) := by omega
  go_wp2_with fail
  clear hmk2
  go_quiet (fail)
  clear a1 a2 a3 a4 a5 a6 a7 a8
  go_wp2_with fail
  have em : (n : Int) + 2 - (nv : Int) - 1 = (m : Int) := by omega
  rw [em]
  have D0 := Lib.hid (D.out.drewN nq)
  have M0 : DvM (y * 2 ^ sh) (x * 2 ^ sh) (m + 1) (digs B (x * 2 ^ sh) ++ List.replicate (n + 2 - (digs B (x * 2 ^ sh)).length) 0) (List.replicate (m + 1) 0) := by
    refine ⟨?_, ?_, fun j _ => getD_zeros _ j⟩
    · rw [val_append, val_zeros, val_zeros, digs_val hB]; simp
    · rw [val_append, val_zeros, digs_val hB, Nat.mul_zero, Nat.add_zero]
      have hV0 : y * 2 ^ sh ≠ 0 := Nat.mul_ne_zero hy0 (Nat.ne_of_gt (Nat.pow_pos (by decide)))
      have h1 := digs_ge hB hV0
      rw [HVL.out] at h1
      have h2 : x * 2 ^ sh < B ^ (n + 1) := Nat.lt_of_lt_of_le (digs_lt hB _) (Nat.pow_le_pow_right B_pos HUL.out)
      have h3 : B ^ (nv - 1) * B ^ (m + 1) ≤ y * 2 ^ sh * B ^ (m + 1) := Nat.mul_le_mul_right _ h1
      rw [← Nat.pow_add, show nv - 1 + (m + 1) = n + 1 by omega] at h3
      omega
  have MM0 := Lib.hid M0
  have HDY := Lib.hid (digs_dig hB (y * 2 ^ sh))
  have HVY := Lib.hid (digs_val hB (y * 2 ^ sh))
  have HTT2 := Lib.hid (show B ≤ 2 * top by rw [HTOP.out]; exact HVT.out)
  have hsh32 : sh < 32 := by rw [← HSS.out]; exact sh_lt y
  generalize (w5.alloc (Obj.cells (arr IntKind.u32 (List.replicate (m + 1) 0)) 94)).drewN nq = W0 at D0 ⊢
  generalize digs B (x * 2 ^ sh) ++ List.replicate (n + 2 - (digs B (x * 2 ^ sh)).length) 0 = lu0 at D0 MM0
  generalize List.replicate (m + 1) 0 = lq0 at D0 MM0
  clear M0 D em
  refine long_loop _ bvv offv cv w3.heap.size w5.heap.size (n + 2) (m + 1) nv m top nxt (y * 2 ^ sh) (x * 2 ^ sh) (m : Int) (digs B (y * 2 ^ sh)) lu0 lq0 _ _ _ _ _ _ _ _ _ _ _ _ _ _ _ _ _ _ _ _ _ _ _ _ _ _ _ _ _ _ _ _ _ _ _ _ _ _ _ _ _ _ _ _ _ _ _ _ _ _ _ _ _ _ _ _ _ _ _ _ _ _ _ _ _ _ _ _ _ _ _ _ _ _ _ _ _ _ _ _ _ _ _ _ _ _ _ _ _ _ _ _ _ _ _ _ _ _ _ _ _ _ _ _ _ _ _ _ _ _ _ _ _ _ _ _ _ _ _ _ _ _ _ _ _ _ _ _ _ _ _ _ _ _ _ _ _ _ _ _ _ _ _ _ _ _ _ _ _ _ _ _ _ _ _ _ _ _ _ _ _ _ _ _ _ _ _ _ _ _ _ _ _ _ _ _ _ _ _ _ _ _ _ _ _ _ _ _ _ _ _ _ _ _ _ _ _ _ _ _ _ _ _ _ _ _ _ _ _ _ _ _ _ _ _ _ _ _ _ _ _ _ _ _ _ _ _ _ _ _ _ _ _ _ _ _ _ _ _ _ _ _ _ _ _ _ _ _ _ _ _ _ _ _ _ _ _ _ _ _ _ _ _ _ _ _ w3 _
    (by omega) (by omega) (by omega) (by omega) (by omega) rfl HVC.out hvlt HDY.out HVL.out HVY.out HTOP.out HNXT.out HTT2.out rfl D0.out MM0.out ?hexit
  case hexit =>
    intro w6 lu lq v19 v20 v21 v22 v23 v24 v25 v26 v27 v109 v110 v111 v112 v113 v114 v115 v116 v117 v118 v119 v120 v121 v122 v123 v124 v125 v126 v127 v128 v129 v130 v131 v132 v133 v134 v135 v136 v137 v138 v139 v140 v141 v142 v143 v144 v145 v146 v147 v148 v149 v150 v151 v152 v153 v154 v155 v156 v157 v158 v159 v160 v161 v162 v163 v164 v165 v166 v167 v168 v169 v170 v171 v172 v173 v174 v175 v176 v177 v178 v179 v180 v181 v182 v183 v184 v185 v186 v187 v188 v189 v190 v191 v192 v193 v194 v195 v196 v197 v198 v199 v200 v201 v202 v203 v204 v205 v206 v207 v208 v209 v210 v211 v212 v213 v214 v215 v216 v217 v218 v219 v220 v221 v222 v223 v224 v225 v226 v227 v228 v229 v230 v231 v232 v233 v234 v235 v236 v237 v238 v239 v240 v241 v242 v243 v244 v245 v246 v247 v248 v249 v250 v251 v252 v253 v254 v255 v256 v257 v258 v259 v260 v261 v262 v263 v264 v265 v266 hD hM
    have hq : val B lq = x / y ∧ val B lu = (x % y) * 2 ^ sh := by
      have h1 := hM.sum
      have h2 := hM.low
      rw [Nat.pow_zero, Nat.mul_one] at h2
      have hV0 : 0 < y * 2 ^ sh := Nat.mul_pos (by omega) (Nat.pow_pos (by decide))
      have e1 : x * 2 ^ sh / (y * 2 ^ sh) = x / y := Nat.mul_div_mul_right _ _ (Nat.pow_pos (by decide))
      have e2 : x * 2 ^ sh % (y * 2 ^ sh) = (x % y) * 2 ^ sh := Nat.mul_mod_mul_right _ _ _
      rw [← e1, ← e2, ← h1, Nat.add_mul_div_left _ _ hV0, Nat.add_mul_mod_self_left, Nat.div_eq_of_lt h2, Nat.mod_eq_of_lt h2]
      exact ⟨by omega, rfl⟩
    have hTQ := trim_w (some ⟨w5.heap.size, 0, none⟩) (m + 1) (m + 1) lq w6 hD.lq.symm (by omega) (Nat.le_refl _) (LAt.of_blk hD.bq) hD.dq
    have hTU := trim_w (some ⟨w3.heap.size, 0, none⟩) (n + 2) (n + 2) lu w6 hD.lu.symm (by omega) (Nat.le_refl _) (LAt.of_blk hD.bu) hD.du
    have hNU : NumAt w6 (some ⟨w3.heap.size, 0, none⟩) (digs B (val B lu)).length (val B lu) := ⟨rfl, by
      rw [← digs_take hB hD.du]
      exact (LAt.of_blk hD.bu).take _⟩
    have hNQ : NumAt w6 (some ⟨w5.heap.size, 0, none⟩) (digs B (val B lq)).length (val B lq) := ⟨rfl, by
      rw [← digs_take hB hD.dq]
      exact (LAt.of_blk hD.bq).take _⟩
    have hlen : (digs B (val B lu)).length ≤ n + 2 := digs_len_le hB (by have := val_lt hD.du; rwa [hD.lu] at this)
    have hR := right_w (some ⟨w3.heap.size, 0, none⟩) (digs B (val B lu)).length (n + 2) (val B lu) sh w6 hNU (by omega) (by omega)
    have HTQ := Lib.hid hTQ
    have HTU := Lib.hid hTU
    have HRR := Lib.hid hR
    have HNQ := Lib.hid hNQ
    have HQQ := Lib.hid hq
    have HDB := Lib.hid hD.bel
    clear hD hM hTQ hTU hNU hNQ hR hq hlen
    go_wp2_with fail
    refine HTQ.out.mono ?_
    rintro e w7 ⟨rfl, rfl⟩
    go_wp2_with fail
    refine HTU.out.mono ?_
    rintro e w7 ⟨rfl, rfl⟩
    go_wp2_with fail
    refine HRR.out.mono ?_
    rintro e w8 ⟨A8, n8, c8, rfl, h8, b8⟩
    have H8 := Lib.hid h8
    clear h8
    go_wp2_with fail
    go_ret2
    refine ⟨_, _, _, A8, n8, c8, rfl, ?_, ?_, bthen (b3.trans (HDB.out.mono z3)) b8⟩
    · rw [← HQQ.out.1]; exact HNQ.out.below b8
    · have := H8.out
      rwa [HQQ.out.2, Nat.mul_div_cancel _ (Nat.pow_pos (by decide))] at this
theorem div_w (A : Option Addr) (n c x : Nat) (A' : Option Addr) (n' c' y : Nat) (w : World) (ha : NumAt w A n x) (hb : NumAt w A' n' y) (hm : n < 500000000) (hm' : n' < 500000000) (hy : y ≠ 0) :
    Calls Tryz.prog 124 #[.slice A n c, .slice A' n' c'] w (DivPost w x y) := by
  by_cases hlt : x < y
  · exact div_less A n c x A' n' c' y w ha hb hm hm' hy hlt
  · by_cases h2 : n ≤ 2
    · exact div_two A n c x A' n' c' y w ha hb h2 hm' hy (by omega)
    · by_cases h1 : n' = 1
      · subst h1
        exact div_one A n c x A' c' y w ha hb hm (by omega) (by omega)
      · have hn' : n' ≠ 0 := fun h => hy (hb.len_zero.1 h)
        exact div_great A n c x A' n' c' y w ha hb hm (by omega) (by omega) (by omega)
end Go.Proofs.YtabmalnandbocaaGreatDoor.Num
