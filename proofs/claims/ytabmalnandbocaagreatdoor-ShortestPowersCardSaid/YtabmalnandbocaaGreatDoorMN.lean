/- Chapters 13 and 14 (floats, shortest): plain words on decimals and the floats that they come to. No conditions beside those that each contract names. -/
import Derived.Test.YtabmalnandbocaaGreatDoorMF
import Derived.Test.YtabmalnandbocaaGreatDoorMA
import Derived.Lib.Bytealg
import Derived.Lib.Small
import Derived.Test.YtabmalnandbocaaGreatDoorMI
namespace Go.Proofs.YtabmalnandbocaaGreatDoor.Num
set_option exponentiation.threshold 3000
set_option linter.unusedVariables false
set_option linter.unusedSimpArgs false
open Go.Proofs.YtabmalnandbocaaGreatDoor.Mem Go.Proofs.YtabmalnandbocaaGreatDoor.Own Go.Proofs.YtabmalnandbocaaGreatDoor.Big
theorem cmpI_l {x y : Nat} (h : x < y) : cmpI x y = -1 := by unfold cmpI; rw [if_pos h]
theorem cmpI_e {x y : Nat} (h : x = y) : cmpI x y = 0 := by unfold cmpI; rw [if_neg (by omega), if_pos h]
theorem cmpI_g {x y : Nat} (h : y < x) : cmpI x y = 1 := by unfold cmpI; rw [if_neg (by omega), if_neg (by omega)]
theorem cmpI_add (x y z : Nat) : cmpI (z + x) (z + y) = cmpI x y := by
  rcases Nat.lt_trichotomy x y with h | h | h
  · rw [cmpI_l h, cmpI_l (by omega)]
  · rw [cmpI_e h, cmpI_e (by omega)]
  · rw [cmpI_g h, cmpI_g (by omega)]
theorem dval_cons (c : UInt8) (l : List UInt8) : dval (c :: l) = (c.toNat - 48) * 10 ^ l.length + dval l := by
  have := dval_app [c] l
  rw [List.singleton_append] at this
  rw [this]; simp [dval]
theorem last_pos {l : List UInt8} (hd : isDigs l) (hl : ∀ c, l.getLast? = some c → c.toNat ≠ 48) (h0 : l ≠ []) : 0 < dval l := by
  obtain ⟨m, c, rfl⟩ := snoc_of h0
  have h1 := hl c (by simp)
  have h2 := hd c (by simp)
  rw [dval_snoc]; omega
theorem last_tail {c : UInt8} {l : List UInt8} (hl : ∀ d, (c :: l).getLast? = some d → d.toNat ≠ 48) : ∀ d, l.getLast? = some d → d.toNat ≠ 48 := by
  intro d hd
  refine hl d ?_
  cases l with
  | nil => simp at hd
  | cons e l => rw [List.getLast?_cons_cons]; exact hd
theorem byte_lt {a b : UInt8} (h : a < b) : a.toNat < b.toNat := UInt8.lt_iff_toNat_lt.1 h
theorem lead_lt {a b : Nat} {x y p : Nat} (h : a < b) (hx : x < p) : a * p + x < b * p + y := by
  have : (a + 1) * p ≤ b * p := Nat.mul_le_mul_right _ h
  rw [Nat.add_mul, Nat.one_mul] at this
  omega
theorem bytes_cmp : ∀ (la lb : List UInt8) (n : Nat), isDigs la → isDigs lb → (∀ c, la.getLast? = some c → c.toNat ≠ 48) → (∀ c, lb.getLast? = some c → c.toNat ≠ 48) → la.length ≤ n → lb.length ≤ n →
    Lib.compareBytes la lb = cmpI (dval la * 10 ^ (n - la.length)) (dval lb * 10 ^ (n - lb.length)) := by
  intro la
  induction la with
  | nil =>
    intro lb n _ hb _ hlb _ hn
    cases lb with
    | nil => rw [cmpI_e rfl]; rfl
    | cons b bx =>
      have := last_pos hb hlb (by simp)
      rw [cmpI_l]
      · rfl
      · rw [show dval [] = 0 from rfl, Nat.zero_mul]
        exact Nat.mul_pos this (Nat.pow_pos (by decide))
  | cons a ax ih =>
    intro lb n ha hb hla hlb hna hnb
    cases lb with
    | nil =>
      have := last_pos ha hla (by simp)
      rw [cmpI_g]
      · rfl
      · rw [show dval [] = 0 from rfl, Nat.zero_mul]
        exact Nat.mul_pos this (Nat.pow_pos (by decide))
    | cons b bx =>
      have da := ha a (by simp)
      have db := hb b (by simp)
      have da' : isDigs ax := fun c hc => ha c (by simp [hc])
      have db' : isDigs bx := fun c hc => hb c (by simp [hc])
      obtain ⟨m, rfl⟩ : ∃ m, n = m + 1 := ⟨n - 1, by simp at hna; omega⟩
      simp at hna hnb
      have e1 : dval (a :: ax) * 10 ^ (m + 1 - (a :: ax).length) = (a.toNat - 48) * 10 ^ m + dval ax * 10 ^ (m - ax.length) := by
        rw [dval_cons, List.length_cons, show m + 1 - (ax.length + 1) = m - ax.length by omega, Nat.add_mul, Nat.mul_assoc, ← Nat.pow_add, show ax.length + (m - ax.length) = m by omega]
      have e2 : dval (b :: bx) * 10 ^ (m + 1 - (b :: bx).length) = (b.toNat - 48) * 10 ^ m + dval bx * 10 ^ (m - bx.length) := by
        rw [dval_cons, List.length_cons, show m + 1 - (bx.length + 1) = m - bx.length by omega, Nat.add_mul, Nat.mul_assoc, ← Nat.pow_add, show bx.length + (m - bx.length) = m by omega]
      have f1 : dval ax * 10 ^ (m - ax.length) < 10 ^ m := by
        have := Nat.mul_lt_mul_of_pos_right (dval_lt da') (show 0 < 10 ^ (m - ax.length) from Nat.pow_pos (by decide))
        rwa [← Nat.pow_add, show ax.length + (m - ax.length) = m by omega] at this
      have f2 : dval bx * 10 ^ (m - bx.length) < 10 ^ m := by
        have := Nat.mul_lt_mul_of_pos_right (dval_lt db') (show 0 < 10 ^ (m - bx.length) from Nat.pow_pos (by decide))
        rwa [← Nat.pow_add, show bx.length + (m - bx.length) = m by omega] at this
      rw [e1, e2]
      unfold Lib.compareBytes
      by_cases h1 : a < b
      · rw [if_pos h1, cmpI_l (lead_lt (by have := byte_lt h1; omega) f1)]
      · rw [if_neg h1]
        by_cases h2 : b < a
        · rw [if_pos h2, cmpI_g (lead_lt (by have := byte_lt h2; omega) f2)]
        · rw [if_neg h2]
          have hab : a.toNat = b.toNat := by
            have g1 : ¬ a.toNat < b.toNat := fun h => h1 (UInt8.lt_iff_toNat_lt.2 h)
            have g2 : ¬ b.toNat < a.toNat := fun h => h2 (UInt8.lt_iff_toNat_lt.2 h)
            omega
          rw [hab, cmpI_add]
          exact ih bx m da' db' (last_tail hla) (last_tail hlb) hna hnb
/-- How two decimals without signs compare: by places, then by digits. -/
def bcmp (la : List UInt8) (ea : Int) (lb : List UInt8) (eb : Int) : Int :=
  if Lib.compareInt ((la.length : Int) + ea) ((lb.length : Int) + eb) ≠ 0 then Lib.compareInt ((la.length : Int) + ea) ((lb.length : Int) + eb) else Lib.compareBytes la lb
theorem canon_bounds {l : List UInt8} (h : Canon l) (h0 : l ≠ []) : 10 ^ (l.length - 1) ≤ dval l ∧ dval l < 10 ^ l.length := by
  refine ⟨?_, dval_lt h.digs⟩
  rcases l with _ | ⟨c, l⟩
  · exact absurd rfl h0
  · exact dval_ge h.digs (h.head c rfl)
theorem less_places {la lb : List UInt8} {ea eb : Int} (ha : Canon la) (hb : Canon lb) (hb0 : lb ≠ []) (h : (la.length : Int) + ea < (lb.length : Int) + eb) : rN la ea * rD eb < rN lb eb * rD ea := by
  have h2 := (canon_bounds hb hb0).1
  have h1 := dval_lt ha.digs
  have hl : 0 < lb.length := List.length_pos_iff.2 hb0
  unfold rN rD
  calc dval la * 10 ^ ea.toNat * 10 ^ (-eb).toNat = dval la * 10 ^ (ea.toNat + (-eb).toNat) := by rw [Nat.mul_assoc, ← Nat.pow_add]
    _ < 10 ^ la.length * 10 ^ (ea.toNat + (-eb).toNat) := Nat.mul_lt_mul_of_pos_right h1 (Nat.pow_pos (by decide))
    _ = 10 ^ (la.length + (ea.toNat + (-eb).toNat)) := by rw [← Nat.pow_add]
    _ ≤ 10 ^ (lb.length - 1 + (eb.toNat + (-ea).toNat)) := Nat.pow_le_pow_right (by decide) (by omega)
    _ = 10 ^ (lb.length - 1) * 10 ^ (eb.toNat + (-ea).toNat) := by rw [← Nat.pow_add]
    _ ≤ dval lb * 10 ^ (eb.toNat + (-ea).toNat) := Nat.mul_le_mul_right _ h2
    _ = dval lb * 10 ^ eb.toNat * 10 ^ (-ea).toNat := by rw [Nat.mul_assoc, ← Nat.pow_add]
theorem bcmp_is {la lb : List UInt8} {ea eb : Int} (ha : Canon la) (hb : Canon lb) (ha0 : la ≠ []) (hb0 : lb ≠ []) : bcmp la ea lb eb = cmpI (rN la ea * rD eb) (rN lb eb * rD ea) := by
  unfold bcmp
  rcases Int.lt_trichotomy ((la.length : Int) + ea) ((lb.length : Int) + eb) with h | h | h
  · have hc : Lib.compareInt ((la.length : Int) + ea) ((lb.length : Int) + eb) = -1 := by unfold Lib.compareInt; rw [if_pos h]
    rw [hc, if_pos (by decide), cmpI_l (less_places ha hb hb0 h)]
  · have hc : Lib.compareInt ((la.length : Int) + ea) ((lb.length : Int) + eb) = 0 := by unfold Lib.compareInt; rw [if_neg (by omega), if_neg (by omega)]
    rw [hc, if_neg (by decide)]
    obtain ⟨n, hn⟩ : ∃ n, n = max la.length lb.length := ⟨_, rfl⟩
    rw [bytes_cmp la lb n ha.digs hb.digs ha.last hb.last (by omega) (by omega)]
    obtain ⟨T, hT⟩ : ∃ T, T = la.length + (ea.toNat + (-eb).toNat) := ⟨_, rfl⟩
    have hT2 : T = lb.length + (eb.toNat + (-ea).toNat) := by omega
    have e1 : rN la ea * rD eb = dval la * 10 ^ (n - la.length) * 10 ^ (T - n) := by
      unfold rN rD
      rw [Nat.mul_assoc, ← Nat.pow_add, Nat.mul_assoc, ← Nat.pow_add]
      congr 2; omega
    have e2 : rN lb eb * rD ea = dval lb * 10 ^ (n - lb.length) * 10 ^ (T - n) := by
      unfold rN rD
      rw [Nat.mul_assoc, ← Nat.pow_add, Nat.mul_assoc, ← Nat.pow_add]
      congr 2; omega
    rw [e1, e2, cmpI_mul (Nat.pow_pos (by decide))]
  · have hc : Lib.compareInt ((la.length : Int) + ea) ((lb.length : Int) + eb) = 1 := by unfold Lib.compareInt; rw [if_neg (by omega), if_pos h]
    rw [hc, if_pos (by decide), cmpI_g (less_places hb ha ha0 h)]
/-- How two whole numbers compare. -/
def cmpZ (x y : Int) : Int := if x < y then -1 else if x = y then 0 else 1
theorem cmpZ_l {x y : Int} (h : x < y) : cmpZ x y = -1 := by unfold cmpZ; rw [if_pos h]
theorem cmpZ_e {x y : Int} (h : x = y) : cmpZ x y = 0 := by unfold cmpZ; rw [if_neg (by omega), if_pos h]
theorem cmpZ_g {x y : Int} (h : y < x) : cmpZ x y = 1 := by unfold cmpZ; rw [if_neg (by omega), if_neg (by omega)]
theorem cmpZ_nat (x y : Nat) : cmpZ (x : Int) (y : Int) = cmpI x y := by
  rcases Nat.lt_trichotomy x y with h | h | h
  · rw [cmpI_l h, cmpZ_l (by omega)]
  · rw [cmpI_e h, cmpZ_e (by omega)]
  · rw [cmpI_g h, cmpZ_g (by omega)]
theorem cmpZ_neg (x y : Nat) : cmpZ (-(x : Int)) (-(y : Int)) = -cmpI x y := by
  rcases Nat.lt_trichotomy x y with h | h | h
  · rw [cmpI_l h, cmpZ_g (by omega)]; rfl
  · rw [cmpI_e h, cmpZ_e (by omega)]; rfl
  · rw [cmpI_g h, cmpZ_l (by omega)]
/-- How two decimals compare, by their worth. -/
def dcmp (na : Bool) (la : List UInt8) (ea : Int) (nb : Bool) (lb : List UInt8) (eb : Int) : Int := cmpZ (Rung.sgn na (rN la ea * rD eb)) (Rung.sgn nb (rN lb eb * rD ea))
/-- The sign of a decimal's worth. -/
def dsg (neg : Bool) (l : List UInt8) : Int := if l = [] then 0 else if neg then -1 else 1
/-- What the program reckons. -/
def pcmp (na : Bool) (la : List UInt8) (ea : Int) (nb : Bool) (lb : List UInt8) (eb : Int) : Int :=
  if dsg na la ≠ dsg nb lb ∨ dsg na la = 0 then Lib.compareInt (dsg na la) (dsg nb lb) else dsg na la * bcmp la ea lb eb
theorem rN_nil (e : Int) : rN [] e = 0 := by unfold rN; rw [show dval [] = 0 from rfl, Nat.zero_mul]
theorem pcmp_is {na nb : Bool} {la lb : List UInt8} {ea eb : Int} (ha : Canon la) (hb : Canon lb) : pcmp na la ea nb lb eb = dcmp na la ea nb lb eb := by
  unfold pcmp dcmp
  have pa := rD_pos ea
  have pb := rD_pos eb
  by_cases ha0 : la = []
  · have ea0 : Rung.sgn na (rN la ea * rD eb) = 0 := by rw [ha0, rN_nil, Nat.zero_mul]; cases na <;> rfl
    have sa : dsg na la = 0 := by unfold dsg; rw [if_pos ha0]
    rw [ea0, sa, if_pos (.inr rfl)]
    by_cases hb0 : lb = []
    · have eb0 : Rung.sgn nb (rN lb eb * rD ea) = 0 := by rw [hb0, rN_nil, Nat.zero_mul]; cases nb <;> rfl
      have sb : dsg nb lb = 0 := by unfold dsg; rw [if_pos hb0]
      rw [eb0, sb]; rfl
    · have hp : 0 < rN lb eb * rD ea := Nat.mul_pos (Nat.pos_of_ne_zero (rN_pos hb.ok hb0 eb)) pa
      generalize rN lb eb * rD ea = y at *
      unfold dsg
      rw [if_neg hb0]
      cases nb
      · rw [cmpZ_l (by unfold Rung.sgn; simp; omega)]; rfl
      · rw [cmpZ_g (by unfold Rung.sgn; simp; omega)]; rfl
  · have hpa : 0 < rN la ea * rD eb := Nat.mul_pos (Nat.pos_of_ne_zero (rN_pos ha.ok ha0 ea)) pb
    by_cases hb0 : lb = []
    · have eb0 : Rung.sgn nb (rN lb eb * rD ea) = 0 := by rw [hb0, rN_nil, Nat.zero_mul]; cases nb <;> rfl
      have sb : dsg nb lb = 0 := by unfold dsg; rw [if_pos hb0]
      rw [eb0, sb]
      generalize rN la ea * rD eb = x at *
      unfold dsg
      rw [if_neg ha0]
      cases na
      · rw [cmpZ_g (by unfold Rung.sgn; simp; omega)]; rfl
      · rw [cmpZ_l (by unfold Rung.sgn; simp; omega)]; rfl
    · have hpb : 0 < rN lb eb * rD ea := Nat.mul_pos (Nat.pos_of_ne_zero (rN_pos hb.ok hb0 eb)) pa
      rw [bcmp_is ha hb ha0 hb0]
      generalize rN la ea * rD eb = x at *
      generalize rN lb eb * rD ea = y at *
      unfold dsg
      rw [if_neg ha0, if_neg hb0]
      cases na <;> cases nb
      · rw [if_neg (by simp)]
        simp only [Bool.false_eq_true, if_false, Int.one_mul]
        exact (cmpZ_nat x y).symm
      · rw [if_pos (by simp), cmpZ_g (by unfold Rung.sgn; simp; omega)]; rfl
      · rw [if_pos (by simp), cmpZ_l (by unfold Rung.sgn; simp; omega)]; rfl
      · rw [if_neg (by simp)]
        have : cmpZ (Rung.sgn true x) (Rung.sgn true y) = -cmpI x y := cmpZ_neg x y
        rw [this]
        simp
end Go.Proofs.YtabmalnandbocaaGreatDoor.Num
namespace Go.Proofs.YtabmalnandbocaaGreatDoor.Num
set_option exponentiation.threshold 3000
set_option linter.unusedVariables false
set_option linter.unusedSimpArgs false
set_option exponentiation.threshold 3000
open Go.Proofs.YtabmalnandbocaaGreatDoor.Mem Go.Proofs.YtabmalnandbocaaGreatDoor.Own Go.Proofs.YtabmalnandbocaaGreatDoor.Big
theorem sgl_inf' : Ieee.single.infRung = 2139095040 := by decide
theorem told_worth (N k : Nat) : rN (tl N) (te N (-(k : Int))) * 10 ^ k = N * rD (te N (-(k : Int))) := by
  by_cases hN : N = 0
  · subst hN
    rw [(told_tl 0).zero, rN_nil, Nat.zero_mul, Nat.zero_mul]
  · have hv := (told_tl N).val
    unfold te
    rw [if_neg hN]
    unfold rN rD
    generalize tz N = z at *
    generalize dval (tl N) = D at *
    rw [← hv, Nat.mul_assoc, ← Nat.pow_add, Nat.mul_assoc, ← Nat.pow_add]
    congr 2
    omega
theorem x_worth (m : Nat) (e : Int) (K : Nat) (h : -(K : Int) ≤ e) : rN (tl (xN m e)) (te (xN m e) (xE e)) * 2 ^ K = m * 2 ^ (e + K).toNat * rD (te (xN m e) (xE e)) := by
  unfold xE
  by_cases he : 0 ≤ e
  · rw [if_pos he]
    have h1 := told_worth (xN m e) 0
    rw [show (-((0 : Nat) : Int)) = 0 from rfl, Nat.pow_zero, Nat.mul_one] at h1
    rw [h1, show xN m e = m * 2 ^ e.toNat from if_pos he]
    have : 2 ^ (e + K).toNat = 2 ^ e.toNat * 2 ^ K := by rw [← Nat.pow_add]; congr 1; omega
    rw [this]
    generalize rD _ = r
    grind
  · rw [if_neg he]
    obtain ⟨k, hk⟩ : ∃ k : Nat, e = -(k : Int) := ⟨(-e).toNat, by omega⟩
    have h1 := told_worth (xN m e) k
    rw [← hk] at h1
    have hx : xN m e = m * 5 ^ k := by unfold xN; rw [if_neg he]; congr 2; omega
    rw [hx] at h1 ⊢
    generalize rN (tl (m * 5 ^ k)) (te (m * 5 ^ k) e) = A at *
    generalize rD (te (m * 5 ^ k) e) = r at *
    have h2 : (A * 2 ^ k) * 5 ^ k = (m * r) * 5 ^ k := by
      rw [Nat.mul_assoc, ← Nat.mul_pow]
      rw [h1]
      grind
    have h3 := Nat.eq_of_mul_eq_mul_right (Nat.pow_pos (by decide)) h2
    obtain ⟨j, hj⟩ : ∃ j, K = k + j := ⟨K - k, by omega⟩
    have e1 : (e + (K : Int)).toNat = j := by omega
    rw [e1, hj, Nat.pow_add, ← Nat.mul_assoc, h3]
    grind
/-- The decimal that a float is, and the one half way to the next. -/
noncomputable abbrev exL (n : Nat) : List UInt8 := tl (xN (Rung.mant 52 n) (-1074 + (Rung.expo 52 n : Nat)))
noncomputable abbrev exE (n : Nat) : Int := te (xN (Rung.mant 52 n) (-1074 + (Rung.expo 52 n : Nat))) (xE (-1074 + (Rung.expo 52 n : Nat)))
noncomputable abbrev btL (n : Nat) : List UInt8 := tl (xN (2 * Rung.mant 52 n + 1) (-1074 + (Rung.expo 52 n : Nat) - 1))
noncomputable abbrev btE (n : Nat) : Int := te (xN (2 * Rung.mant 52 n + 1) (-1074 + (Rung.expo 52 n : Nat) - 1)) (xE (-1074 + (Rung.expo 52 n : Nat) - 1))
theorem ex_worth (n : Nat) : rN (exL n) (exE n) * 2 ^ 1074 = Rung.W 52 n * rD (exE n) := by
  have := x_worth (Rung.mant 52 n) (-1074 + (Rung.expo 52 n : Nat)) 1074 (by omega)
  rw [show (-1074 + ((Rung.expo 52 n : Nat) : Int) + ((1074 : Nat) : Int)).toNat = Rung.expo 52 n by omega] at this
  exact this
theorem bt_worth (n : Nat) : rN (btL n) (btE n) * 2 ^ 1075 = Rung.mid2 52 n * rD (btE n) := by
  have := x_worth (2 * Rung.mant 52 n + 1) (-1074 + (Rung.expo 52 n : Nat) - 1) 1075 (by omega)
  rw [show (-1074 + ((Rung.expo 52 n : Nat) : Int) - 1 + ((1075 : Nat) : Int)).toNat = Rung.expo 52 n by omega] at this
  exact this
theorem told_canon (N : Nat) : Canon (tl N) := ⟨(told_tl N).digs, (told_tl N).head, (told_tl N).last⟩
theorem x_form (m : Nat) (e : Int) (hm : m < 100000000000000000000) (h1 : -2000 ≤ e) (h2 : e ≤ 2000) : Form (tl (xN m e)) (te (xN m e) (xE e)) := by
  by_cases hN : xN m e = 0
  · rw [hN]
    exact .inl ⟨(told_tl 0).zero, if_pos rfl⟩
  · refine .inr ⟨(told_tl _).ne hN, told_canon _, ?_⟩
    obtain ⟨k, hk, hlt⟩ := xN_lt (e := e) hm
    have hk2 : k ≤ 2000 := by split at hk <;> omega
    have hz : tz (xN m e) < 20 + k := by
      have hv := (told_tl (xN m e)).val
      have hp := dval_pos (told_tl _).ok ((told_tl _).ne hN)
      have h3 : 10 ^ tz (xN m e) < 10 ^ (20 + k) := by
        refine Nat.lt_of_le_of_lt ?_ hlt
        calc 10 ^ tz (xN m e) = 1 * 10 ^ tz (xN m e) := (Nat.one_mul _).symm
          _ ≤ dval (tl (xN m e)) * 10 ^ tz (xN m e) := Nat.mul_le_mul_right _ (by omega)
          _ = xN m e := hv
      exact (Nat.pow_lt_pow_iff_right (by decide)).1 h3
    unfold te xE
    rw [if_neg hN]
    split <;> omega
theorem ex_form {n : Nat} (h : n < Ieee.double.infRung) : Form (exL n) (exE n) := by
  have hx := expo_52 h
  have hm := mant_53 n
  exact x_form _ _ (by omega) (by omega) (by omega)
theorem bt_form {n : Nat} (h : n < Ieee.double.infRung) : Form (btL n) (btE n) := by
  have hx := expo_52 h
  have hm := mant_53 n
  exact x_form _ _ (by omega) (by omega) (by omega)
/-- Beyond 400 places. -/
theorem places_hi {l : List UInt8} {e : Int} (h : Canon l) (h0 : l ≠ []) (hp : 400 < (l.length : Int) + e) : 10 ^ 400 * rD e ≤ rN l e := by
  have h1 := (canon_bounds h h0).1
  have hl : 0 < l.length := List.length_pos_iff.2 h0
  unfold rN rD
  calc 10 ^ 400 * 10 ^ (-e).toNat = 10 ^ (400 + (-e).toNat) := (Nat.pow_add ..).symm
    _ ≤ 10 ^ (l.length - 1 + e.toNat) := Nat.pow_le_pow_right (by decide) (by omega)
    _ = 10 ^ (l.length - 1) * 10 ^ e.toNat := Nat.pow_add ..
    _ ≤ dval l * 10 ^ e.toNat := Nat.mul_le_mul_right _ h1
theorem places_lo {l : List UInt8} {e : Int} (h : isDigs l) (hp : (l.length : Int) + e < -400) : rN l e * 10 ^ 400 < rD e := by
  have h1 := dval_lt h
  unfold rN rD
  calc dval l * 10 ^ e.toNat * 10 ^ 400 = dval l * 10 ^ (e.toNat + 400) := by rw [Nat.mul_assoc, ← Nat.pow_add]
    _ < 10 ^ l.length * 10 ^ (e.toNat + 400) := Nat.mul_lt_mul_of_pos_right h1 (Nat.pow_pos (by decide))
    _ = 10 ^ (l.length + (e.toNat + 400)) := (Nat.pow_add ..).symm
    _ ≤ 10 ^ (-e).toNat := Nat.pow_le_pow_right (by decide) (by omega)
theorem ten_low : (2 : Nat) ^ 1075 ≤ 10 ^ 400 := by decide +kernel
/-- The test that tells whether a decimal is beyond a middle. -/
def past (b K : Nat) (l : List UInt8) (e : Int) (n : Nat) : Prop := Rung.mid2 b n * rD e < 2 * (rN l e * 2 ^ K) ∨ Rung.mid2 b n * rD e = 2 * (rN l e * 2 ^ K) ∧ n % 2 = 1
/-- What the number of the nearest float meets. -/
theorem near_tests {b K over : Nat} {l : List UInt8} {e : Int} (hb : 1 ≤ b) (hK : K ≤ 1074) (ho0 : 0 < over) (ho : Rung.W b over ≤ 10 ^ 400 * 2 ^ K) (h : Canon l) :
    (refF b K over l e < over → ¬ past b K l e (refF b K over l e)) ∧ (0 < refF b K over l e → past b K l e (refF b K over l e - 1)) := by
  have hQ := rD_pos e
  unfold refF
  by_cases c1 : l = [] ∨ (l.length : Int) + e < -400
  · rw [if_pos c1]
    refine ⟨fun _ hp => ?_, fun h => absurd h (Nat.lt_irrefl 0)⟩
    have hm : Rung.mid2 b 0 = 1 := by
      unfold Rung.mid2
      rw [(Rung.parts_low (Rung.two_pow b)).1, (Rung.parts_low (Rung.two_pow b)).2]
    have hlt : 2 * (rN l e * 2 ^ K) < rD e := by
      rcases c1 with rfl | c1
      · rw [rN_nil, Nat.zero_mul, Nat.mul_zero]; exact hQ
      · refine Nat.lt_of_le_of_lt ?_ (places_lo h.digs c1)
        have h2 : 2 * 2 ^ K ≤ 10 ^ 400 := Nat.le_trans (by rw [← Nat.pow_succ']; exact Nat.pow_le_pow_right (by decide) (by omega)) ten_low
        calc 2 * (rN l e * 2 ^ K) = rN l e * (2 * 2 ^ K) := by grind
          _ ≤ rN l e * 10 ^ 400 := Nat.mul_le_mul_left _ h2
    unfold past at hp
    rw [hm, Nat.one_mul] at hp
    omega
  · rw [if_neg c1]
    have c3 : l ≠ [] := fun h => c1 (.inl h)
    by_cases c2 : 400 < (l.length : Int) + e
    · rw [if_pos c2]
      refine ⟨fun h => absurd h (Nat.lt_irrefl _), fun _ => .inl ?_⟩
      have h1 := places_hi h c3 c2
      have h2 : Rung.mid2 b (over - 1) < 2 * Rung.W b over := Rung.mid2_low (by omega)
      calc Rung.mid2 b (over - 1) * rD e < 2 * Rung.W b over * rD e := Nat.mul_lt_mul_of_pos_right h2 hQ
        _ ≤ 2 * (10 ^ 400 * 2 ^ K) * rD e := Nat.mul_le_mul_right _ (Nat.mul_le_mul_left _ ho)
        _ = 2 * (10 ^ 400 * rD e * 2 ^ K) := by grind
        _ ≤ 2 * (rN l e * 2 ^ K) := Nat.mul_le_mul_left _ (Nat.mul_le_mul_right _ h1)
    · rw [if_neg c2]
      have hn := Rung.rungF_near (K := K) hb (rN_pos h.ok c3 e) (Nat.ne_of_gt hQ)
      generalize Rung.rungF b K (rN l e) (rD e) = R at *
      refine ⟨fun hlt => ?_, fun hlt => ?_⟩
      · have : min R over = R := by omega
        rw [this]
        exact fun hp => Nat.lt_irrefl R ((hn R).2 hp)
      · exact (hn _).1 (by omega)
/-- The number that meets the tests. -/
theorem near_unique {b K over : Nat} {l : List UInt8} {e : Int} (hb : 1 ≤ b) (h : Canon l) (h0 : l ≠ []) (h1 : -400 ≤ (l.length : Int) + e) (h2 : (l.length : Int) + e ≤ 400) {R : Nat} (hR : ∀ n, n < R ↔ past b K l e n) (hle : R ≤ over) : refF b K over l e = R := by
  unfold refF
  rw [if_neg (by rintro (h | h); exact h0 h; omega), if_neg (by omega)]
  have hn := Rung.rungF_near (K := K) hb (rN_pos h.ok h0 e) (Nat.ne_of_gt (rD_pos e))
  have : Rung.rungF b K (rN l e) (rD e) = R := hn.one hR
  rw [this]; omega
theorem over_64 : Rung.W 52 9218868437227405312 ≤ 10 ^ 400 * 2 ^ 1074 := by decide +kernel
theorem over_32 : Rung.W 23 2139095040 ≤ 10 ^ 400 * 2 ^ 149 := by decide +kernel
theorem tests_64 {l : List UInt8} (e : Int) (h : Canon l) : (near64 l e < 9218868437227405312 → ¬ past 52 1074 l e (near64 l e)) ∧ (0 < near64 l e → past 52 1074 l e (near64 l e - 1)) := near_tests (by decide) (by decide) (by decide) over_64 h
theorem tests_32 {l : List UInt8} (e : Int) (h : Canon l) : (near32 l e < 2139095040 → ¬ past 23 149 l e (near32 l e)) ∧ (0 < near32 l e → past 23 149 l e (near32 l e - 1)) := near_tests (by decide) (by decide) (by decide) over_32 h
/-- A lesser decimal has no greater float. -/
theorem near_le {b K over : Nat} {la lb : List UInt8} {ea eb : Int} (hb : 1 ≤ b) (hK : K ≤ 1074) (ho0 : 0 < over) (ho : Rung.W b over ≤ 10 ^ 400 * 2 ^ K) (ha : Canon la) (hbc : Canon lb) (hle : rN la ea * rD eb ≤ rN lb eb * rD ea) : refF b K over la ea ≤ refF b K over lb eb := by
  apply Nat.le_of_not_lt
  intro hlt
  have h1 := (near_tests (e := ea) hb hK ho0 ho ha).2 (by omega)
  have h2 := (near_tests (e := eb) hb hK ho0 ho hbc).1 (Nat.lt_of_lt_of_le hlt (refF_le b K over la ea))
  generalize refF b K over la ea = Ra at *
  generalize refF b K over lb eb = Rb at *
  have hQa := rD_pos ea
  have hQb := rD_pos eb
  unfold past at h1 h2
  have hm : Rung.mid2 b Rb ≤ Rung.mid2 b (Ra - 1) := by
    rcases Nat.lt_or_ge Rb (Ra - 1) with h | h
    · exact Nat.le_of_lt (Rung.mid2_lt h)
    · rw [show Rb = Ra - 1 by omega]; exact Nat.le_refl _
  have hm2 : Rung.mid2 b Rb = Rung.mid2 b (Ra - 1) → Rb = Ra - 1 := by
    intro he
    rcases Nat.lt_or_ge Rb (Ra - 1) with h | h
    · have := Rung.mid2_lt (b := b) h; omega
    · omega
  have g1 : Rung.mid2 b (Ra - 1) * rD ea ≤ 2 * (rN la ea * 2 ^ K) := by omega
  have g2 : 2 * (rN lb eb * 2 ^ K) ≤ Rung.mid2 b Rb * rD eb := by omega
  generalize Rung.mid2 b (Ra - 1) = A at *
  generalize Rung.mid2 b Rb = B at *
  generalize rN la ea = Na at *
  generalize rN lb eb = Nb at *
  generalize rD ea = Qa at *
  generalize rD eb = Qb at *
  have k1 : A * Qa * Qb ≤ 2 * (Na * 2 ^ K) * Qb := Nat.mul_le_mul_right _ g1
  have k2 : 2 * (Nb * 2 ^ K) * Qa ≤ B * Qb * Qa := Nat.mul_le_mul_right _ g2
  have k3 : 2 * (Na * 2 ^ K) * Qb ≤ 2 * (Nb * 2 ^ K) * Qa := by
    have := Nat.mul_le_mul_left (2 * 2 ^ K) hle
    calc 2 * (Na * 2 ^ K) * Qb = 2 * 2 ^ K * (Na * Qb) := by grind
      _ ≤ 2 * 2 ^ K * (Nb * Qa) := this
      _ = 2 * (Nb * 2 ^ K) * Qa := by grind
  have k4 : B * Qb * Qa ≤ A * Qa * Qb := by
    have := Nat.mul_le_mul_right (Qb * Qa) hm
    calc B * Qb * Qa = B * (Qb * Qa) := by grind
      _ ≤ A * (Qb * Qa) := this
      _ = A * Qa * Qb := by grind
  have p : 0 < Qa * Qb := Nat.mul_pos hQa hQb
  have eAB : B = A := by
    have e : B * (Qa * Qb) = A * (Qa * Qb) := by
      have : B * Qb * Qa = A * Qa * Qb := by omega
      grind
    exact Nat.eq_of_mul_eq_mul_right p e
  have e1 : A * Qa = 2 * (Na * 2 ^ K) := by
    have : A * Qa * Qb = 2 * (Na * 2 ^ K) * Qb := by omega
    exact Nat.eq_of_mul_eq_mul_right hQb this
  have e2 : 2 * (Nb * 2 ^ K) = B * Qb := by
    have : 2 * (Nb * 2 ^ K) * Qa = B * Qb * Qa := by omega
    exact Nat.eq_of_mul_eq_mul_right hQa this
  have e3 := hm2 eAB
  have : (Ra - 1) % 2 = 1 := by omega
  exact h2 (.inr ⟨by omega, by rw [e3]; exact this⟩)
/-- How a decimal stands to the middle behind a float. -/
theorem cmp_mid (l : List UInt8) (e : Int) (n : Nat) : dcmp false l e false (btL n) (btE n) = cmpI (2 * (rN l e * 2 ^ 1074)) (Rung.mid2 52 n * rD e) := by
  unfold dcmp
  have h := bt_worth n
  have hq := rD_pos (btE n)
  have hC : (2 : Nat) ^ 1075 = 2 * 2 ^ 1074 := Nat.pow_succ' ..
  have hp : 0 < (2 : Nat) ^ 1074 := Nat.pow_pos (by decide)
  rw [hC] at h
  generalize (2 : Nat) ^ 1074 = C at *
  generalize rN (btL n) (btE n) = A at *
  generalize rD (btE n) = q at *
  show cmpZ ((rN l e * q : Nat) : Int) ((A * rD e : Nat) : Int) = _
  rw [cmpZ_nat, ← cmpI_mul (c := 2 * C) (by omega), ← cmpI_mul (x := 2 * (rN l e * C)) (c := q) hq]
  have e1 : rN l e * q * (2 * C) = 2 * (rN l e * C) * q := by grind
  have e2 : A * rD e * (2 * C) = Rung.mid2 52 n * rD e * q := by
    calc A * rD e * (2 * C) = A * (2 * C) * rD e := by grind
      _ = Rung.mid2 52 n * q * rD e := by rw [h]
      _ = Rung.mid2 52 n * rD e * q := by grind
  rw [e1, e2]
theorem cmpI_past {l : List UInt8} {e : Int} {n : Nat} : past 52 1074 l e n ↔ (cmpI (2 * (rN l e * 2 ^ 1074)) (Rung.mid2 52 n * rD e) = 1 ∨ cmpI (2 * (rN l e * 2 ^ 1074)) (Rung.mid2 52 n * rD e) = 0 ∧ n % 2 = 1) := by
  unfold past
  generalize 2 * (rN l e * 2 ^ 1074) = x
  generalize Rung.mid2 52 n * rD e = y
  rcases Nat.lt_trichotomy x y with h | h | h
  · rw [cmpI_l h]; constructor <;> intro h2 <;> omega
  · rw [cmpI_e h]; constructor
    · intro h2; exact .inr ⟨rfl, by omega⟩
    · intro h2; exact .inr ⟨h.symm, by omega⟩
  · rw [cmpI_g h]; constructor
    · intro _; exact .inl rfl
    · intro _; exact .inl h
theorem W_lt_inf {n : Nat} (h : n < Ieee.double.infRung) : Rung.W 52 n < 2 ^ 2098 := by rw [← W_inf]; exact Rung.W_lt h
theorem big_400 : (2 : Nat) ^ 2099 ≤ 10 ^ 400 * 2 ^ 1074 := by decide +kernel
theorem ten_pos (k : Nat) : 0 < 10 ^ k := Nat.pow_pos (by decide)
/-- The places of a decimal whose worth is known. -/
theorem places_of {l : List UInt8} {e : Int} {K V : Nat} (h : Canon l) (h0 : l ≠ []) (hv : rN l e * 2 ^ K = V * rD e) (hV : 0 < V) (hV2 : V < 2 ^ 2099) (hK : K ≤ 1075) (hK2 : 1074 ≤ K) : -400 ≤ (l.length : Int) + e ∧ (l.length : Int) + e ≤ 400 := by
  have hQ := rD_pos e
  constructor
  · apply Int.le_of_not_gt
    intro hlt
    have h1 := places_lo h.digs hlt
    have h2 : V * rD e * 10 ^ 400 < rD e * 10 ^ 400 := by
      calc V * rD e * 10 ^ 400 = rN l e * 10 ^ 400 * 2 ^ K := by rw [← hv]; generalize (2 : Nat) ^ K = c; generalize (10 : Nat) ^ 400 = d; grind
        _ < rD e * 2 ^ K := Nat.mul_lt_mul_of_pos_right h1 (Nat.pow_pos (by decide))
        _ ≤ rD e * 10 ^ 400 := Nat.mul_le_mul_left _ (Nat.le_trans (Nat.pow_le_pow_right (by decide) hK) ten_low)
    have h3 : rD e * 10 ^ 400 ≤ V * rD e * 10 ^ 400 := Nat.mul_le_mul_right _ (Nat.le_mul_of_pos_left _ hV)
    omega
  · apply Int.le_of_not_gt
    intro hlt
    have h1 := places_hi h h0 hlt
    have h2 : 10 ^ 400 * 2 ^ 1074 * rD e ≤ V * rD e := by
      calc 10 ^ 400 * 2 ^ 1074 * rD e = 10 ^ 400 * rD e * 2 ^ 1074 := by generalize (2 : Nat) ^ 1074 = c; generalize (10 : Nat) ^ 400 = d; grind
        _ ≤ rN l e * 2 ^ 1074 := Nat.mul_le_mul_right _ h1
        _ ≤ rN l e * 2 ^ K := Nat.mul_le_mul_left _ (Nat.pow_le_pow_right (by decide) hK2)
        _ = V * rD e := hv
    have h3 := Nat.le_of_mul_le_mul_right h2 hQ
    have := big_400
    omega
theorem past_mul {b K : Nat} {l : List UInt8} {e : Int} {V n : Nat} (hv : 2 * (rN l e * 2 ^ K) = V * rD e) : past b K l e n ↔ (Rung.mid2 b n < V ∨ Rung.mid2 b n = V ∧ n % 2 = 1) := by
  have hQ := rD_pos e
  unfold past
  rw [hv]
  constructor
  · rintro (h | ⟨h, h2⟩)
    · exact .inl (Nat.lt_of_mul_lt_mul_right h)
    · exact .inr ⟨Nat.eq_of_mul_eq_mul_right hQ h, h2⟩
  · rintro (h | ⟨h, h2⟩)
    · exact .inl (Nat.mul_lt_mul_of_pos_right h hQ)
    · exact .inr ⟨by rw [h], h2⟩
theorem mid2_iff {b k n : Nat} : k < n ↔ (Rung.mid2 b k < 2 * Rung.W b n ∨ Rung.mid2 b k = 2 * Rung.W b n ∧ k % 2 = 1) := by
  constructor
  · intro h; exact .inl (Rung.mid2_low h)
  · intro h
    apply Nat.lt_of_not_le
    intro hle
    have h1 := Rung.mid2_eq b k
    have h2 := Rung.W_le (b := b) hle
    have h3 := Rung.W_lt_succ b k
    omega
theorem W_pos_of {n : Nat} (h : 0 < n) : 0 < Rung.W 52 n := Rung.W_pos h
theorem ex_nil {n : Nat} : exL n = [] ↔ n = 0 := by
  constructor
  · intro h
    have h1 := ex_worth n
    rw [h, rN_nil, Nat.zero_mul] at h1
    rcases Nat.eq_zero_or_pos n with h2 | h2
    · exact h2
    · have := Nat.mul_pos (W_pos_of h2) (rD_pos (exE n)); omega
  · intro h
    subst h
    have h1 := ex_worth 0
    rw [Rung.W_zero, Nat.zero_mul] at h1
    apply Classical.byContradiction
    intro h2
    have := rN_pos (told_canon _).ok h2 (exE 0)
    have h3 : 0 < rN (exL 0) (exE 0) * 2 ^ 1074 := Nat.mul_pos (Nat.pos_of_ne_zero this) (Nat.pow_pos (by decide))
    rw [h1] at h3
    exact Nat.lt_irrefl 0 h3
/-- What a float is comes to that float. -/
theorem near_ex {n : Nat} (h : n < Ieee.double.infRung) : near64 (exL n) (exE n) = n := by
  have hw := ex_worth n
  rcases Nat.eq_zero_or_pos n with h0 | h0
  · have h1 := ex_nil.2 h0
    unfold near64 refF
    rw [if_pos (.inl h1), h0]
  · have hne : exL n ≠ [] := fun e => by have := ex_nil.1 e; omega
    have hlt := W_lt_inf h
    obtain ⟨p1, p2⟩ := places_of (told_canon _) hne hw (W_pos_of h0) (Nat.lt_of_lt_of_le hlt (Nat.pow_le_pow_right (by decide) (by decide))) (by decide) (by decide)
    have hv : 2 * (rN (exL n) (exE n) * 2 ^ 1074) = 2 * Rung.W 52 n * rD (exE n) := by rw [hw, Nat.mul_assoc]
    refine near_unique (by decide) (told_canon _) hne p1 p2 (fun k => ?_) (by rw [inf_num] at h; omega)
    rw [past_mul hv]
    exact mid2_iff
/-- A short float's decimal comes to that short float. -/
theorem near_ex32 {n n' : Nat} (h : n < Ieee.single.infRung) (h' : n' < Ieee.double.infRung) (hW : Rung.W 52 n' = Rung.W 23 n * 2 ^ 925) : near32 (exL n') (exE n') = n := by
  have hw := ex_worth n'
  rcases Nat.eq_zero_or_pos n' with h0 | h0
  · have h1 := ex_nil.2 h0
    have hn : n = 0 := by
      rcases Nat.eq_zero_or_pos n with h2 | h2
      · exact h2
      · rw [h0, Rung.W_zero] at hW
        have := Nat.mul_pos (Rung.W_pos (b := 23) h2) (Nat.pow_pos (n := 925) (show 0 < 2 by decide))
        omega
    unfold near32 refF
    rw [if_pos (.inl h1), hn]
  · have hne : exL n' ≠ [] := fun e => by have := ex_nil.1 e; omega
    have hlt := W_lt_inf h'
    obtain ⟨p1, p2⟩ := places_of (told_canon _) hne hw (W_pos_of h0) (Nat.lt_of_lt_of_le hlt (Nat.pow_le_pow_right (by decide) (by decide))) (by decide) (by decide)
    have hw2 : rN (exL n') (exE n') * 2 ^ 149 = Rung.W 23 n * rD (exE n') := by
      apply Nat.eq_of_mul_eq_mul_right (Nat.pow_pos (n := 925) (show 0 < 2 by decide))
      calc rN (exL n') (exE n') * 2 ^ 149 * 2 ^ 925 = rN (exL n') (exE n') * 2 ^ 1074 := by rw [Nat.mul_assoc, ← Nat.pow_add]
        _ = Rung.W 23 n * 2 ^ 925 * rD (exE n') := by rw [hw, hW]
        _ = Rung.W 23 n * rD (exE n') * 2 ^ 925 := by generalize (2 : Nat) ^ 925 = c; grind
    have hv : 2 * (rN (exL n') (exE n') * 2 ^ 149) = 2 * Rung.W 23 n * rD (exE n') := by rw [hw2, Nat.mul_assoc]
    refine near_unique (by decide) (told_canon _) hne p1 p2 (fun k => ?_) (by rw [sgl_inf'] at h; omega)
    rw [past_mul hv]
    exact mid2_iff
theorem bt_ne {n : Nat} : btL n ≠ [] := by
  intro h
  have h1 := bt_worth n
  rw [h, rN_nil, Nat.zero_mul] at h1
  have h2 : 0 < Rung.mid2 52 n := by
    unfold Rung.mid2
    exact Nat.mul_pos (by omega) (Nat.pow_pos (by decide))
  have := Nat.mul_pos h2 (rD_pos (btE n))
  omega
theorem mid2_small {n : Nat} (h : n < Ieee.double.infRung) : 0 < Rung.mid2 52 n ∧ Rung.mid2 52 n < 2 ^ 2099 := by
  constructor
  · unfold Rung.mid2
    exact Nat.mul_pos (by omega) (Nat.pow_pos (by decide))
  · have h1 := Rung.mid2_low (b := 52) h
    rw [W_inf] at h1
    have : (2 : Nat) ^ 2099 = 2 * 2 ^ 2098 := Nat.pow_succ' ..
    omega
/-- Half way comes to the even one. -/
theorem near_bt {n : Nat} (h : n < Ieee.double.infRung) : near64 (btL n) (btE n) = if n % 2 = 1 then n + 1 else n := by
  have hw := bt_worth n
  obtain ⟨m1, m2⟩ := mid2_small h
  obtain ⟨p1, p2⟩ := places_of (told_canon _) bt_ne hw m1 m2 (by decide) (by decide)
  have hv : 2 * (rN (btL n) (btE n) * 2 ^ 1074) = Rung.mid2 52 n * rD (btE n) := by
    rw [← hw, Nat.pow_succ 2 1074]
    generalize (2 : Nat) ^ 1074 = c
    grind
  refine near_unique (by decide) (told_canon _) bt_ne p1 p2 (fun k => ?_) (by rw [inf_num] at h; split <;> omega)
  rw [past_mul hv]
  have hk : Rung.mid2 52 k < Rung.mid2 52 n ↔ k < n := by
    constructor
    · intro hlt
      apply Nat.lt_of_not_le
      intro hle
      rcases Nat.eq_or_lt_of_le hle with e | e
      · rw [e] at hlt; omega
      · have := Rung.mid2_lt (b := 52) e; omega
    · exact Rung.mid2_lt
  have hk2 : Rung.mid2 52 k = Rung.mid2 52 n ↔ k = n := by
    constructor
    · intro he
      rcases Nat.lt_trichotomy k n with e | e | e
      · have := Rung.mid2_lt (b := 52) e; omega
      · exact e
      · have := Rung.mid2_lt (b := 52) e; omega
    · intro e; rw [e]
  rw [hk, hk2]
  split <;> omega
end Go.Proofs.YtabmalnandbocaaGreatDoor.Num
namespace Go.Proofs.YtabmalnandbocaaGreatDoor.Num
set_option exponentiation.threshold 3000
set_option linter.unusedVariables false
set_option linter.unusedSimpArgs false
set_option exponentiation.threshold 3000
open Go.Proofs.YtabmalnandbocaaGreatDoor.Mem Go.Proofs.YtabmalnandbocaaGreatDoor.Own Go.Proofs.YtabmalnandbocaaGreatDoor.Big
theorem four {k : Nat} (hk : k < Ieee.double.infRung) (he : btE k < 0) : ∃ m, btL k = m ++ [53] ∧ Form (m ++ [52]) (btE k) ∧ near64 (m ++ [52]) (btE k) = k := by
  have hx := expo_52 hk
  have hw := bt_worth k
  have hne : btL k ≠ [] := bt_ne
  have hform := bt_form hk
  obtain ⟨m1, m2⟩ := mid2_small hk
  obtain ⟨p1, p2⟩ : -400 ≤ ((btL k).length : Int) + btE k ∧ ((btL k).length : Int) + btE k ≤ 400 := places_of (told_canon _) hne hw m1 m2 (by decide) (by decide)
  have hlt : -1074 + ((Rung.expo 52 k : Nat) : Int) - 1 < 0 := by
    apply Int.lt_of_not_ge
    intro hge
    have : 0 ≤ btE k := by
      show 0 ≤ te _ (xE _)
      unfold te xE
      rw [if_pos hge]
      split <;> omega
    omega
  obtain ⟨j, hj⟩ : ∃ j, Rung.expo 52 k + j = 1075 := ⟨1075 - Rung.expo 52 k, by omega⟩
  have hj1 : 1 ≤ j := by omega
  have hN : xN (2 * Rung.mant 52 k + 1) (-1074 + ((Rung.expo 52 k : Nat) : Int) - 1) = (2 * Rung.mant 52 k + 1) * 5 ^ j := by
    unfold xN
    rw [if_neg (by omega)]
    congr 2
    omega
  obtain ⟨N, hNd⟩ : ∃ N, N = (2 * Rung.mant 52 k + 1) * 5 ^ j := ⟨_, rfl⟩
  have hT := told_tl (xN (2 * Rung.mant 52 k + 1) (-1074 + ((Rung.expo 52 k : Nat) : Int) - 1))
  have hE : btE k = te N (-(j : Int)) := by
    show te _ (xE _) = _
    rw [hN, ← hNd]
    unfold xE
    rw [if_neg (by omega)]
    congr 1
    omega
  have hL : btL k = tl N := by
    show tl _ = _
    rw [hN, ← hNd]
  rw [hN, ← hNd] at hT
  have h5 : 5 ^ j % 2 = 1 := by
    rw [Nat.pow_mod]; simp
  have hodd : N % 2 = 1 := by
    rw [hNd, Nat.mul_mod, h5]; omega
  have h55 : N % 5 = 0 := by
    rw [hNd, show j = (j - 1) + 1 by omega, Nat.pow_succ, ← Nat.mul_assoc]
    exact Nat.mul_mod_left _ _
  have hz : tz N = 0 := by
    apply Classical.byContradiction
    intro h
    have hv := hT.val
    rw [show tz N = (tz N - 1) + 1 by omega, Nat.pow_succ, ← Nat.mul_assoc] at hv
    omega
  have hv := hT.val
  rw [hz, Nat.pow_zero, Nat.mul_one] at hv
  have hN0 : N ≠ 0 := by omega
  have hE2 : btE k = -(j : Int) := by
    rw [hE]
    unfold te
    rw [if_neg hN0, hz]
    omega
  have hc := told_canon N
  rw [hL] at hne p1 p2 hw ⊢
  rw [hE2] at p1 p2 hw ⊢
  obtain ⟨m, c, hm⟩ := snoc_of hne
  have hcd := hc.digs c (by rw [hm]; simp)
  have hdv := hv
  rw [hm, dval_snoc] at hdv
  have hc53 : c.toNat = 53 := by omega
  have hc53' : c = 53 := UInt8.toNat_inj.1 hc53
  subst hc53'
  have hd4 : dval (m ++ [52]) = N - 1 := by
    rw [dval_snoc, show (52 : UInt8).toNat - 48 = 4 from rfl]
    omega
  have hcan : Canon (m ++ [52]) := by
    refine ⟨fun d hd => ?_, fun d hd => ?_, fun d hd => ?_⟩
    · rcases List.mem_append.1 hd with hd | hd
      · exact hc.digs d (by rw [hm]; simp [hd])
      · simp at hd; subst hd; decide
    · cases m with
      | nil => simp at hd; subst hd; decide
      | cons a m => exact hc.head d (by rw [hm]; simpa using hd)
    · simp at hd; subst hd; decide
  have hlen : (m ++ [(52 : UInt8)]).length = (tl N).length := by rw [hm]; simp
  refine ⟨m, hm, ?_, ?_⟩
  · refine .inr ⟨by simp, hcan, ?_⟩
    rw [hE2] at hform
    exact hform.canon.2
  · have hrD : rD (-(j : Int)) = 10 ^ j := by unfold rD; congr 1; omega
    have hrN : ∀ l, rN l (-(j : Int)) = dval l := by intro l; unfold rN; rw [show (-(j : Int)).toNat = 0 by omega, Nat.pow_zero, Nat.mul_one]
    refine near_unique (by decide) hcan (by simp) (by rw [hlen]; exact p1) (by rw [hlen]; exact p2) (fun n => ?_) (by rw [inf_num] at hk; omega)
    unfold past
    rw [hrD, hrN, hd4]
    rw [hrD, hrN, hv] at hw
    have hC : (2 : Nat) ^ 1075 = 2 * 2 ^ 1074 := Nat.pow_succ' ..
    have hWk : Rung.W 52 k * 10 ^ j = 2 * Rung.mant 52 k * 5 ^ j * 2 ^ 1074 := by
      unfold Rung.W
      rw [show (10 : Nat) = 2 * 5 from rfl, Nat.mul_pow]
      have : 2 ^ Rung.expo 52 k * 2 ^ j = 2 * 2 ^ 1074 := by rw [← Nat.pow_add, hj, hC]
      generalize (2 : Nat) ^ 1074 = C at *
      calc Rung.mant 52 k * 2 ^ Rung.expo 52 k * (2 ^ j * 5 ^ j) = Rung.mant 52 k * (2 ^ Rung.expo 52 k * 2 ^ j) * 5 ^ j := by grind
        _ = Rung.mant 52 k * (2 * C) * 5 ^ j := by rw [this]
        _ = 2 * Rung.mant 52 k * 5 ^ j * C := by grind
    have hp : 0 < (2 : Nat) ^ 1074 := Nat.pow_pos (by decide)
    have h10 : 0 < 10 ^ j := Nat.pow_pos (by decide)
    rw [hC] at hw
    generalize (2 : Nat) ^ 1074 = C at *
    have h51 : 0 < 5 ^ j := Nat.pow_pos (by decide)
    have hle : Rung.W 52 k * 10 ^ j ≤ (N - 1) * C := by
      rw [hWk]
      refine Nat.mul_le_mul_right _ ?_
      rw [hNd, Nat.add_mul, Nat.one_mul]
      omega
    constructor
    · intro hnk
      left
      have h1 := Nat.mul_lt_mul_of_pos_right (Rung.mid2_low (b := 52) hnk) h10
      rw [Nat.mul_assoc] at h1
      omega
    · intro hpast
      apply Nat.lt_of_not_le
      intro hkn
      have h1 : Rung.mid2 52 k ≤ Rung.mid2 52 n := by
        rcases Nat.eq_or_lt_of_le hkn with h | h
        · rw [h]; exact Nat.le_refl _
        · exact Nat.le_of_lt (Rung.mid2_lt h)
      have h2 := Nat.mul_le_mul_right (10 ^ j) h1
      have h3 : (N - 1) * C + C = N * C := by
        have : N * C = (N - 1 + 1) * C := by congr 1; omega
        rw [this, Nat.add_mul, Nat.one_mul]
      have h4 : N * (2 * C) = 2 * (N * C) := by grind
      omega
/-- A float lies below the middle behind it. -/
theorem ex_bt_pos (n : Nat) : dcmp false (exL n) (exE n) false (btL n) (btE n) = -1 := by
  rw [cmp_mid, ex_worth]
  have hq := rD_pos (exE n)
  rw [show 2 * (Rung.W 52 n * rD (exE n)) = 2 * Rung.W 52 n * rD (exE n) by rw [Nat.mul_assoc], cmpI_mul hq]
  refine cmpI_l ?_
  have h1 := Rung.mid2_eq 52 n
  have h2 := Rung.W_lt_succ 52 n
  omega
theorem ex_bt_neg {n : Nat} (h : 0 < n) : dcmp true (exL n) (exE n) true (btL (n - 1)) (btE (n - 1)) = -1 := by
  have h1 := cmp_mid (exL n) (exE n) (n - 1)
  rw [ex_worth] at h1
  have hq := rD_pos (exE n)
  rw [show 2 * (Rung.W 52 n * rD (exE n)) = 2 * Rung.W 52 n * rD (exE n) by rw [Nat.mul_assoc], cmpI_mul hq, cmpI_g (Rung.mid2_low (by omega))] at h1
  unfold dcmp at h1 ⊢
  have h2 : cmpI (rN (exL n) (exE n) * rD (btE (n - 1))) (rN (btL (n - 1)) (btE (n - 1)) * rD (exE n)) = 1 := by
    rw [← cmpZ_nat]; exact h1
  show cmpZ (-((rN (exL n) (exE n) * rD (btE (n - 1)) : Nat) : Int)) (-((rN (btL (n - 1)) (btE (n - 1)) * rD (exE n) : Nat) : Int)) = -1
  rw [cmpZ_neg, h2]
theorem ex_bt_zero : dcmp true (exL 0) (exE 0) false (btL 0) (btE 0) = -1 := by
  unfold dcmp
  rw [ex_nil.2 rfl, rN_nil, Nat.zero_mul]
  have h : 0 < rN (btL 0) (btE 0) * rD (exE 0) := Nat.mul_pos (Nat.pos_of_ne_zero (rN_pos (told_canon _).ok bt_ne _)) (rD_pos _)
  refine cmpZ_l ?_
  unfold Rung.sgn
  simp only [if_true, Bool.false_eq_true, if_false]
  omega
end Go.Proofs.YtabmalnandbocaaGreatDoor.Num
namespace Go.Proofs.YtabmalnandbocaaGreatDoor.Num
set_option exponentiation.threshold 3000
set_option linter.unusedVariables false
set_option linter.unusedSimpArgs false
set_option exponentiation.threshold 3000
open Go.RowKit Go.Proofs.YtabmalnandbocaaGreatDoor.Mem Go.Proofs.YtabmalnandbocaaGreatDoor.Own Go.Proofs.YtabmalnandbocaaGreatDoor.Big
open Ieee (double single)
theorem ofV_over (neg : Bool) : ofV neg 9218868437227405312 = .tuple #[.float .f64 0, .int .i64 121] := if_pos rfl
theorem ofV_ok {neg : Bool} {n : Nat} (h : n ≠ 9218868437227405312) : ofV neg n = .tuple #[.float .f64 (double.word neg n), .int .i64 0] := if_neg h
theorem tl_len (m : Nat) (e : Int) (hm : m < 100000000000000000000) (h1 : -2000 ≤ e) (h2 : e ≤ 2000) : (tl (xN m e)).length ≤ 3000 := by
  by_cases h0 : tl (xN m e) = []
  · rw [h0]; simp
  · have hb := (canon_bounds (told_canon (xN m e)) h0).1
    have hv := (told_tl (xN m e)).val
    obtain ⟨k, hk, hlt⟩ := xN_lt (e := e) hm
    have hk2 : k ≤ 2000 := by split at hk <;> omega
    have h3 : 10 ^ ((tl (xN m e)).length - 1) < 10 ^ (20 + k) := by
      refine Nat.lt_of_le_of_lt hb (Nat.lt_of_le_of_lt ?_ hlt)
      conv => rhs; rw [← hv]
      exact Nat.le_mul_of_pos_right _ (Nat.pow_pos (by decide))
    have := (Nat.pow_lt_pow_iff_right (by decide)).1 h3
    omega
theorem bt_len {n : Nat} (h : n < double.infRung) : (btL n).length ≤ 3000 := by
  have hx := expo_52 h
  have hm := mant_53 n
  exact tl_len _ _ (by omega) (by omega) (by omega)
theorem ex_len {n : Nat} (h : n < double.infRung) : (exL n).length ≤ 3000 := by
  have hx := expo_52 h
  have hm := mant_53 n
  exact tl_len _ _ (by omega) (by omega) (by omega)
theorem size_of (l : List UInt8) (h : l.length ≤ 3000) : (⟨l.toArray⟩ : ByteArray).size < 140737488355328 := by
  have : (⟨l.toArray⟩ : ByteArray).size = l.length := by simp [ByteArray.size]
  omega
def BtPost (w : World) (neg : Bool) (l : List UInt8) (e : Int) (en : Ending) (w' : World) : Prop := en = .returned (.tuple #[.agg #[.bool neg, .string ⟨l.toArray⟩, .int .i64 e], .int .i64 0]) ∧ Below w.heap.size w w'
theorem exw_w (s : Bool) (n : Nat) (w : World) (hn : n < double.infRung) :
    Calls Tryz.prog 24 #[.float .f64 (double.word s n)] w (BtPost w s (exL n) (exE n)) := exact_yes s n w hn
def FpPost (w : World) (x : Nat) (e : Ending) (w' : World) : Prop := e = .returned (.tuple #[.float .f64 x, .int .i64 0]) ∧ Below w.heap.size w w'
theorem back_of (s : Bool) (n : Nat) (w : World) (hn : n < double.infRung) :
    Calls Tryz.prog 17 #[.agg #[.bool s, .string ⟨(exL n).toArray⟩, .int .i64 (exE n)]] w (FpPost w (double.word s n)) := by
  refine (of_yes s ⟨(exL n).toArray⟩ (exE n) w (ex_form hn) (size_of _ (ex_len hn))).mono fun e w' h => ?_
  obtain ⟨rfl, hb⟩ := h
  refine ⟨?_, hb⟩
  rw [show near64 ((⟨(exL n).toArray⟩ : ByteArray).data.toList) (exE n) = n from near_ex hn, ofV_ok (by rw [inf_num] at hn; omega)]
def OvPost (w : World) (e : Ending) (w' : World) : Prop := e = .returned (.tuple #[.float .f64 0, .int .i64 121]) ∧ Below w.heap.size w w'
theorem of_ok (neg : Bool) (l : List UInt8) (e : Int) (r : Nat) (w : World) (hf : Form l e) (hl : l.length ≤ 3000) (hr : near64 l e = r) (h : r ≠ 9218868437227405312) :
    Calls Tryz.prog 17 #[.agg #[.bool neg, .string ⟨l.toArray⟩, .int .i64 e]] w (FpPost w (double.word neg r)) := by
  refine (of_yes neg ⟨l.toArray⟩ e w hf (size_of _ hl)).mono fun en w' hh => ?_
  obtain ⟨rfl, hb⟩ := hh
  refine ⟨?_, hb⟩
  rw [show near64 ((⟨l.toArray⟩ : ByteArray).data.toList) e = r from hr, ofV_ok h]
theorem of_over (neg : Bool) (l : List UInt8) (e : Int) (w : World) (hf : Form l e) (hl : l.length ≤ 3000) (hr : near64 l e = 9218868437227405312) :
    Calls Tryz.prog 17 #[.agg #[.bool neg, .string ⟨l.toArray⟩, .int .i64 e]] w (OvPost w) := by
  refine (of_yes neg ⟨l.toArray⟩ e w hf (size_of _ hl)).mono fun en w' hh => ?_
  obtain ⟨rfl, hb⟩ := hh
  refine ⟨?_, hb⟩
  rw [show near64 ((⟨l.toArray⟩ : ByteArray).data.toList) e = _ from hr, ofV_over]
theorem of_okS (neg : Bool) (s : ByteArray) (e : Int) (r : Nat) (w : World) (hf : Form s.data.toList e) (hsm : s.size < 140737488355328) (hr : near64 s.data.toList e = r) (h : r ≠ 9218868437227405312) :
    Calls Tryz.prog 17 #[.agg #[.bool neg, .string s, .int .i64 e]] w (FpPost w (double.word neg r)) := by
  refine (of_yes neg s e w hf hsm).mono fun en w' hh => ?_
  obtain ⟨rfl, hb⟩ := hh
  exact ⟨by rw [hr, ofV_ok h], hb⟩
theorem of_overS (neg : Bool) (s : ByteArray) (e : Int) (w : World) (hf : Form s.data.toList e) (hsm : s.size < 140737488355328) (hr : near64 s.data.toList e = 9218868437227405312) :
    Calls Tryz.prog 17 #[.agg #[.bool neg, .string s, .int .i64 e]] w (OvPost w) := by
  refine (of_yes neg s e w hf hsm).mono fun en w' hh => ?_
  obtain ⟨rfl, hb⟩ := hh
  exact ⟨by rw [hr, ofV_over], hb⟩
end Go.Proofs.YtabmalnandbocaaGreatDoor.Num
