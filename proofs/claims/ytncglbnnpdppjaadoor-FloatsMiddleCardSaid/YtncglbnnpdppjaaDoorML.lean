/- Chapter 13 (floats): Cmp and FloatsRise. No conditions beside those that each contract names. -/
import Derived.Test.YtncglbnnpdppjaaDoorMF
import Derived.Test.YtncglbnnpdppjaaDoorMA
import Derived.Lib.Bytealg
import Derived.Lib.Small
import Derived.Test.YtncglbnnpdppjaaDoorMI
import Derived.Test.YtncglbnnpdppjaaDoorShelf
import Derived.Test.YtncglbnnpdppjaaDoorMK
namespace Go.Proofs.YtncglbnnpdppjaaDoor.Num
set_option exponentiation.threshold 3000
set_option linter.unusedVariables false
set_option linter.unusedSimpArgs false
open Go.Proofs.YtncglbnnpdppjaaDoor.Mem Go.Proofs.YtncglbnnpdppjaaDoor.Own Go.Proofs.YtncglbnnpdppjaaDoor.Big
theorem cmpI_l {x y : Nat} (h : x < y) : cmpI x y = -1 := by unfold cmpI; rw [if_pos h]
theorem cmpI_e {x y : Nat} (h : x = y) : cmpI x y = 0 := by unfold cmpI; rw [if_neg (by omega), if_pos h]
theorem cmpI_g {x y : Nat} (h : y < x) : cmpI x y = 1 := by unfold cmpI; rw [if_neg (by omega), if_neg (by omega)]
theorem cmpI_add (x y z : Nat) : cmpI (z + x) (z + y) = cmpI x y := by
  rcases Nat.lt_trichotomy x y with h | h | h
  · rw [cmpI_l h, cmpI_l (by omega)]
  · rw [cmpI_e h, cmpI_e (by omega)]
  · rw [cmpI_g h, cmpI_g (by omega)]
theorem dval_cons (c : UInt8) (l : List UInt8) : dval (c :: l) = (c.toNat - 48) * 10 ^ l.length + dval l := by
  have := dval_app [c] l
  rw [List.singleton_append] at this
  rw [this]; simp [dval]
theorem last_pos {l : List UInt8} (hd : isDigs l) (hl : ∀ c, l.getLast? = some c → c.toNat ≠ 48) (h0 : l ≠ []) : 0 < dval l := by
  obtain ⟨m, c, rfl⟩ := snoc_of h0
  have h1 := hl c (by simp)
  have h2 := hd c (by simp)
  rw [dval_snoc]; omega
theorem last_tail {c : UInt8} {l : List UInt8} (hl : ∀ d, (c :: l).getLast? = some d → d.toNat ≠ 48) : ∀ d, l.getLast? = some d → d.toNat ≠ 48 := by
  intro d hd
  refine hl d ?_
  cases l with
  | nil => simp at hd
  | cons e l => rw [List.getLast?_cons_cons]; exact hd
theorem byte_lt {a b : UInt8} (h : a < b) : a.toNat < b.toNat := UInt8.lt_iff_toNat_lt.1 h
theorem lead_lt {a b : Nat} {x y p : Nat} (h : a < b) (hx : x < p) : a * p + x < b * p + y := by
  have : (a + 1) * p ≤ b * p := Nat.mul_le_mul_right _ h
  rw [Nat.add_mul, Nat.one_mul] at this
  omega
theorem bytes_cmp : ∀ (la lb : List UInt8) (n : Nat), isDigs la → isDigs lb → (∀ c, la.getLast? = some c → c.toNat ≠ 48) → (∀ c, lb.getLast? = some c → c.toNat ≠ 48) → la.length ≤ n → lb.length ≤ n →
    Lib.compareBytes la lb = cmpI (dval la * 10 ^ (n - la.length)) (dval lb * 10 ^ (n - lb.length)) := by
  intro la
  induction la with
  | nil =>
    intro lb n _ hb _ hlb _ hn
    cases lb with
    | nil => rw [cmpI_e rfl]; rfl
    | cons b bx =>
      have := last_pos hb hlb (by simp)
      rw [cmpI_l]
      · rfl
      · rw [show dval [] = 0 from rfl, Nat.zero_mul]
        exact Nat.mul_pos this (Nat.pow_pos (by decide))
  | cons a ax ih =>
    intro lb n ha hb hla hlb hna hnb
    cases lb with
    | nil =>
      have := last_pos ha hla (by simp)
      rw [cmpI_g]
      · rfl
      · rw [show dval [] = 0 from rfl, Nat.zero_mul]
        exact Nat.mul_pos this (Nat.pow_pos (by decide))
    | cons b bx =>
      have da := ha a (by simp)
      have db := hb b (by simp)
      have da' : isDigs ax := fun c hc => ha c (by simp [hc])
      have db' : isDigs bx := fun c hc => hb c (by simp [hc])
      obtain ⟨m, rfl⟩ : ∃ m, n = m + 1 := ⟨n - 1, by simp at hna; omega⟩
      simp at hna hnb
      have e1 : dval (a :: ax) * 10 ^ (m + 1 - (a :: ax).length) = (a.toNat - 48) * 10 ^ m + dval ax * 10 ^ (m - ax.length) := by
        rw [dval_cons, List.length_cons, show m + 1 - (ax.length + 1) = m - ax.length by omega, Nat.add_mul, Nat.mul_assoc, ← Nat.pow_add, show ax.length + (m - ax.length) = m by omega]
      have e2 : dval (b :: bx) * 10 ^ (m + 1 - (b :: bx).length) = (b.toNat - 48) * 10 ^ m + dval bx * 10 ^ (m - bx.length) := by
        rw [dval_cons, List.length_cons, show m + 1 - (bx.length + 1) = m - bx.length by omega, Nat.add_mul, Nat.mul_assoc, ← Nat.pow_add, show bx.length + (m - bx.length) = m by omega]
      have f1 : dval ax * 10 ^ (m - ax.length) < 10 ^ m := by
        have := Nat.mul_lt_mul_of_pos_right (dval_lt da') (show 0 < 10 ^ (m - ax.length) from Nat.pow_pos (by decide))
        rwa [← Nat.pow_add, show ax.length + (m - ax.length) = m by omega] at this
      have f2 : dval bx * 10 ^ (m - bx.length) < 10 ^ m := by
        have := Nat.mul_lt_mul_of_pos_right (dval_lt db') (show 0 < 10 ^ (m - bx.length) from Nat.pow_pos (by decide))
        rwa [← Nat.pow_add, show bx.length + (m - bx.length) = m by omega] at this
      rw [e1, e2]
      unfold Lib.compareBytes
      by_cases h1 : a < b
      · rw [if_pos h1, cmpI_l (lead_lt (by have := byte_lt h1; omega) f1)]
      · rw [if_neg h1]
        by_cases h2 : b < a
        · rw [if_pos h2, cmpI_g (lead_lt (by have := byte_lt h2; omega) f2)]
        · rw [if_neg h2]
          have hab : a.toNat = b.toNat := by
            have g1 : ¬ a.toNat < b.toNat := fun h => h1 (UInt8.lt_iff_toNat_lt.2 h)
            have g2 : ¬ b.toNat < a.toNat := fun h => h2 (UInt8.lt_iff_toNat_lt.2 h)
            omega
          rw [hab, cmpI_add]
          exact ih bx m da' db' (last_tail hla) (last_tail hlb) hna hnb
/-- How two decimals without signs compare: by places, then by digits. -/
def bcmp (la : List UInt8) (ea : Int) (lb : List UInt8) (eb : Int) : Int :=
  if Lib.compareInt ((la.length : Int) + ea) ((lb.length : Int) + eb) ≠ 0 then Lib.compareInt ((la.length : Int) + ea) ((lb.length : Int) + eb) else Lib.compareBytes la lb
theorem canon_bounds {l : List UInt8} (h : Canon l) (h0 : l ≠ []) : 10 ^ (l.length - 1) ≤ dval l ∧ dval l < 10 ^ l.length := by
  refine ⟨?_, dval_lt h.digs⟩
  rcases l with _ | ⟨c, l⟩
  · exact absurd rfl h0
  · exact dval_ge h.digs (h.head c rfl)
theorem less_places {la lb : List UInt8} {ea eb : Int} (ha : Canon la) (hb : Canon lb) (hb0 : lb ≠ []) (h : (la.length : Int) + ea < (lb.length : Int) + eb) : rN la ea * rD eb < rN lb eb * rD ea := by
  have h2 := (canon_bounds hb hb0).1
  have h1 := dval_lt ha.digs
  have hl : 0 < lb.length := List.length_pos_iff.2 hb0
  unfold rN rD
  calc dval la * 10 ^ ea.toNat * 10 ^ (-eb).toNat = dval la * 10 ^ (ea.toNat + (-eb).toNat) := by rw [Nat.mul_assoc, ← Nat.pow_add]
    _ < 10 ^ la.length * 10 ^ (ea.toNat + (-eb).toNat) := Nat.mul_lt_mul_of_pos_right h1 (Nat.pow_pos (by decide))
    _ = 10 ^ (la.length + (ea.toNat + (-eb).toNat)) := by rw [← Nat.pow_add]
    _ ≤ 10 ^ (lb.length - 1 + (eb.toNat + (-ea).toNat)) := Nat.pow_le_pow_right (by decide) (by omega)
    _ = 10 ^ (lb.length - 1) * 10 ^ (eb.toNat + (-ea).toNat) := by rw [← Nat.pow_add]
    _ ≤ dval lb * 10 ^ (eb.toNat + (-ea).toNat) := Nat.mul_le_mul_right _ h2
    _ = dval lb * 10 ^ eb.toNat * 10 ^ (-ea).toNat := by rw [Nat.mul_assoc, ← Nat.pow_add]
theorem bcmp_is {la lb : List UInt8} {ea eb : Int} (ha : Canon la) (hb : Canon lb) (ha0 : la ≠ []) (hb0 : lb ≠ []) : bcmp la ea lb eb = cmpI (rN la ea * rD eb) (rN lb eb * rD ea) := by
  unfold bcmp
  rcases Int.lt_trichotomy ((la.length : Int) + ea) ((lb.length : Int) + eb) with h | h | h
  · have hc : Lib.compareInt ((la.length : Int) + ea) ((lb.length : Int) + eb) = -1 := by unfold Lib.compareInt; rw [if_pos h]
    rw [hc, if_pos (by decide), cmpI_l (less_places ha hb hb0 h)]
  · have hc : Lib.compareInt ((la.length : Int) + ea) ((lb.length : Int) + eb) = 0 := by unfold Lib.compareInt; rw [if_neg (by omega), if_neg (by omega)]
    rw [hc, if_neg (by decide)]
    obtain ⟨n, hn⟩ : ∃ n, n = max la.length lb.length := ⟨_, rfl⟩
    rw [bytes_cmp la lb n ha.digs hb.digs ha.last hb.last (by omega) (by omega)]
    obtain ⟨T, hT⟩ : ∃ T, T = la.length + (ea.toNat + (-eb).toNat) := ⟨_, rfl⟩
    have hT2 : T = lb.length + (eb.toNat + (-ea).toNat) := by omega
    have e1 : rN la ea * rD eb = dval la * 10 ^ (n - la.length) * 10 ^ (T - n) := by
      unfold rN rD
      rw [Nat.mul_assoc, ← Nat.pow_add, Nat.mul_assoc, ← Nat.pow_add]
      congr 2; omega
    have e2 : rN lb eb * rD ea = dval lb * 10 ^ (n - lb.length) * 10 ^ (T - n) := by
      unfold rN rD
      rw [Nat.mul_assoc, ← Nat.pow_add, Nat.mul_assoc, ← Nat.pow_add]
      congr 2; omega
    rw [e1, e2, cmpI_mul (Nat.pow_pos (by decide))]
  · have hc : Lib.compareInt ((la.length : Int) + ea) ((lb.length : Int) + eb) = 1 := by unfold Lib.compareInt; rw [if_neg (by omega), if_pos h]
    rw [hc, if_pos (by decide), cmpI_g (less_places hb ha ha0 h)]
/-- How two whole numbers compare. -/
def cmpZ (x y : Int) : Int := if x < y then -1 else if x = y then 0 else 1
theorem cmpZ_l {x y : Int} (h : x < y) : cmpZ x y = -1 := by unfold cmpZ; rw [if_pos h]
theorem cmpZ_e {x y : Int} (h : x = y) : cmpZ x y = 0 := by unfold cmpZ; rw [if_neg (by omega), if_pos h]
theorem cmpZ_g {x y : Int} (h : y < x) : cmpZ x y = 1 := by unfold cmpZ; rw [if_neg (by omega), if_neg (by omega)]
theorem cmpZ_nat (x y : Nat) : cmpZ (x : Int) (y : Int) = cmpI x y := by
  rcases Nat.lt_trichotomy x y with h | h | h
  · rw [cmpI_l h, cmpZ_l (by omega)]
  · rw [cmpI_e h, cmpZ_e (by omega)]
  · rw [cmpI_g h, cmpZ_g (by omega)]
theorem cmpZ_neg (x y : Nat) : cmpZ (-(x : Int)) (-(y : Int)) = -cmpI x y := by
  rcases Nat.lt_trichotomy x y with h | h | h
  · rw [cmpI_l h, cmpZ_g (by omega)]; rfl
  · rw [cmpI_e h, cmpZ_e (by omega)]; rfl
  · rw [cmpI_g h, cmpZ_l (by omega)]
/-- How two decimals compare, by their worth. -/
def dcmp (na : Bool) (la : List UInt8) (ea : Int) (nb : Bool) (lb : List UInt8) (eb : Int) : Int := cmpZ (Rung.sgn na (rN la ea * rD eb)) (Rung.sgn nb (rN lb eb * rD ea))
/-- The sign of a decimal's worth. -/
def dsg (neg : Bool) (l : List UInt8) : Int := if l = [] then 0 else if neg then -1 else 1
/-- What the program reckons. -/
def pcmp (na : Bool) (la : List UInt8) (ea : Int) (nb : Bool) (lb : List UInt8) (eb : Int) : Int :=
  if dsg na la ≠ dsg nb lb ∨ dsg na la = 0 then Lib.compareInt (dsg na la) (dsg nb lb) else dsg na la * bcmp la ea lb eb
theorem rN_nil (e : Int) : rN [] e = 0 := by unfold rN; rw [show dval [] = 0 from rfl, Nat.zero_mul]
theorem pcmp_is {na nb : Bool} {la lb : List UInt8} {ea eb : Int} (ha : Canon la) (hb : Canon lb) : pcmp na la ea nb lb eb = dcmp na la ea nb lb eb := by
  unfold pcmp dcmp
  have pa := rD_pos ea
  have pb := rD_pos eb
  by_cases ha0 : la = []
  · have ea0 : Rung.sgn na (rN la ea * rD eb) = 0 := by rw [ha0, rN_nil, Nat.zero_mul]; cases na <;> rfl
    have sa : dsg na la = 0 := by unfold dsg; rw [if_pos ha0]
    rw [ea0, sa, if_pos (.inr rfl)]
    by_cases hb0 : lb = []
    · have eb0 : Rung.sgn nb (rN lb eb * rD ea) = 0 := by rw [hb0, rN_nil, Nat.zero_mul]; cases nb <;> rfl
      have sb : dsg nb lb = 0 := by unfold dsg; rw [if_pos hb0]
      rw [eb0, sb]; rfl
    · have hp : 0 < rN lb eb * rD ea := Nat.mul_pos (Nat.pos_of_ne_zero (rN_pos hb.ok hb0 eb)) pa
      generalize rN lb eb * rD ea = y at *
      unfold dsg
      rw [if_neg hb0]
      cases nb
      · rw [cmpZ_l (by unfold Rung.sgn; simp; omega)]; rfl
      · rw [cmpZ_g (by unfold Rung.sgn; simp; omega)]; rfl
  · have hpa : 0 < rN la ea * rD eb := Nat.mul_pos (Nat.pos_of_ne_zero (rN_pos ha.ok ha0 ea)) pb
    by_cases hb0 : lb = []
    · have eb0 : Rung.sgn nb (rN lb eb * rD ea) = 0 := by rw [hb0, rN_nil, Nat.zero_mul]; cases nb <;> rfl
      have sb : dsg nb lb = 0 := by unfold dsg; rw [if_pos hb0]
      rw [eb0, sb]
      generalize rN la ea * rD eb = x at *
      unfold dsg
      rw [if_neg ha0]
      cases na
      · rw [cmpZ_g (by unfold Rung.sgn; simp; omega)]; rfl
      · rw [cmpZ_l (by unfold Rung.sgn; simp; omega)]; rfl
    · have hpb : 0 < rN lb eb * rD ea := Nat.mul_pos (Nat.pos_of_ne_zero (rN_pos hb.ok hb0 eb)) pa
      rw [bcmp_is ha hb ha0 hb0]
      generalize rN la ea * rD eb = x at *
      generalize rN lb eb * rD ea = y at *
      unfold dsg
      rw [if_neg ha0, if_neg hb0]
      cases na <;> cases nb
      · rw [if_neg (by simp)]
        simp only [Bool.false_eq_true, if_false, Int.one_mul]
        exact (cmpZ_nat x y).symm
      · rw [if_pos (by simp), cmpZ_g (by unfold Rung.sgn; simp; omega)]; rfl
      · rw [if_pos (by simp), cmpZ_l (by unfold Rung.sgn; simp; omega)]; rfl
      · rw [if_neg (by simp)]
        have : cmpZ (Rung.sgn true x) (Rung.sgn true y) = -cmpI x y := cmpZ_neg x y
        rw [this]
        simp
end Go.Proofs.YtncglbnnpdppjaaDoor.Num
namespace Go.Proofs.YtncglbnnpdppjaaDoor.Num
set_option exponentiation.threshold 3000
set_option linter.unusedVariables false
set_option linter.unusedSimpArgs false
open Go.RowKit Go.Proofs.YtncglbnnpdppjaaDoor.Mem Go.Proofs.YtncglbnnpdppjaaDoor.Own Go.Proofs.YtncglbnnpdppjaaDoor.Big

def SgPost (w : World) (z : Int) (en : Ending) (w' : World) : Prop := en = .returned (.int .i64 z) ∧ Below w.heap.size w w'
set_option maxHeartbeats 4000000 in
theorem sign_w (neg : Bool) (s : ByteArray) (e : Int) (w : World) : Calls Tryd.prog 41 #[.agg #[.bool neg, .string s, .int .i64 e]] w (SgPost w (dsg neg s.data.toList)) := by
  by_cases h0 : s.data.toList = []
  · obtain rfl : s = ⟨#[]⟩ := by
      rcases s with ⟨⟨l⟩⟩
      simp at h0
      rw [h0]
    have HV := Lib.hid (show dsg neg ((⟨#[]⟩ : ByteArray).data.toList) = 0 from if_pos rfl)
    go_enter Tryd.func41, Tryd.ntmps41
    go_wp2_with fail
    go_ret
    exact ⟨by rw [HV.out]; rfl, (Below.refl _ w).alloc (Nat.le_refl _) _⟩
  · have hne : s.toList.isEmpty = false := str_ne0 h0
    have HV := Lib.hid (show dsg neg s.data.toList = if neg then -1 else 1 from if_neg h0)
    clear h0
    cases neg
    · go_enter Tryd.func41, Tryd.ntmps41
      go_wp2_with fail
      go_ret
      exact ⟨by rw [HV.out]; rfl, (Below.refl _ w).alloc (Nat.le_refl _) _⟩
    · go_enter Tryd.func41, Tryd.ntmps41
      go_wp2_with fail
      go_ret
      exact ⟨by rw [HV.out]; rfl, (Below.refl _ w).alloc (Nat.le_refl _) _⟩
def orI (a b : Int) : Int := if a ≠ 0 then a else b
set_option maxHeartbeats 1000000 in
theorem or_w (a b : Int) (g : Nat) (w : World) (h0 : w.cell? ⟨g, 0, none⟩ = some (.int .i64 a)) (h1 : w.cell? ⟨g, 1, none⟩ = some (.int .i64 b)) :
    Calls Tryd.prog 43 #[.slice (some ⟨g, 0, none⟩) 2 2] w fun e w' => e = .returned (.int .i64 (orI a b)) ∧ w' = w := by
  by_cases ha : a = 0
  · have e : orI a b = b := by unfold orI; rw [if_neg (by simp [ha])]
    have E := Lib.hid e; clear e
    subst ha
    by_cases hb : b = 0
    · subst hb
      go_enter Tryd.func43, Tryd.ntmps43
      go_wp2_with fail
      refine wp_loop_rounds 3 ?_
      rw [rounds_succ]
      go_wp2_with fail
      rw [rounds_succ]
      go_wp2_with fail
      rw [rounds_succ]
      go_wp2_with fail
      go_ret
      exact ⟨by rw [E.out]; rfl, rfl⟩
    · have t : (b != 0) = true := by simpa using hb
      go_enter Tryd.func43, Tryd.ntmps43
      go_wp2_with fail
      refine wp_loop_rounds 3 ?_
      rw [rounds_succ]
      go_wp2_with fail
      rw [rounds_succ]
      go_wp2_with fail
      go_ret
      rw [E.out]; exact ⟨rfl, rfl⟩
  · have e : orI a b = a := by unfold orI; rw [if_pos ha]
    have E := Lib.hid e; clear e
    have t : (a != 0) = true := by simpa using ha
    go_enter Tryd.func43, Tryd.ntmps43
    go_wp2_with fail
    refine wp_loop_rounds 3 ?_
    rw [rounds_succ]
    go_wp2_with fail
    go_ret
    rw [E.out]; exact ⟨rfl, rfl⟩
def CmPost (w : World) (z : Int) (en : Ending) (w' : World) : Prop := en = .returned (.tuple #[.int .i64 z, .int .i64 0]) ∧ Below w.heap.size w w'
def CmNo (w : World) (en : Ending) (w' : World) : Prop := en = .returned (.tuple #[.int .i64 0, .int .i64 1]) ∧ Below w.heap.size w w'
theorem compareBytes_bd : ∀ (l m : List UInt8), -1 ≤ Lib.compareBytes l m ∧ Lib.compareBytes l m ≤ 1 := by
  intro l
  induction l with
  | nil => intro m; cases m <;> (unfold Lib.compareBytes; omega)
  | cons a l ih =>
    intro m
    cases m with
    | nil => unfold Lib.compareBytes; omega
    | cons b m =>
      unfold Lib.compareBytes
      split
      · omega
      · split
        · omega
        · exact ih m
theorem dsg_bd (neg : Bool) (l : List UInt8) : dsg neg l = -1 ∨ dsg neg l = 0 ∨ dsg neg l = 1 := by
  unfold dsg
  split
  · omega
  · split <;> omega
theorem compareInt_bd (x y : Int) : -1 ≤ Lib.compareInt x y ∧ Lib.compareInt x y ≤ 1 := by
  unfold Lib.compareInt
  split
  · omega
  · split <;> omega
set_option maxHeartbeats 8000000 in
set_option maxRecDepth 100000 in
theorem dcmp_w (na : Bool) (sa : ByteArray) (ea : Int) (nb : Bool) (sb : ByteArray) (eb : Int) (w : World) (ha : Form sa.data.toList ea) (hb : Form sb.data.toList eb) (hza : sa.size < 140737488355328) (hzb : sb.size < 140737488355328) :
    Calls Tryd.prog 23 #[.agg #[.bool na, .string sa, .int .i64 ea], .agg #[.bool nb, .string sb, .int .i64 eb]] w (CmPost w (dcmp na sa.data.toList ea nb sb.data.toList eb)) := by
  have HP := Lib.hid (pcmp_is (na := na) (nb := nb) (ea := ea) (eb := eb) ha.canon.1 hb.canon.1)
  obtain ⟨-, ha1, ha2⟩ := ha.canon
  obtain ⟨-, hb1, hb2⟩ := hb.canon
  have HFA := Lib.hid (fun W => formed_w na sa ea W hza)
  have HFB := Lib.hid (fun W => formed_w nb sb eb W hzb)
  have HSA := Lib.hid (fun W => sign_w na sa ea W)
  have HSB := Lib.hid (fun W => sign_w nb sb eb W)
  have HNA := Lib.hid ha
  have HNB := Lib.hid hb
  have hla : sa.data.toList.length = sa.size := by simp
  have hlb : sb.data.toList.length = sb.size := by simp
  have HU := Lib.hid (show pcmp na sa.data.toList ea nb sb.data.toList eb = if dsg na sa.data.toList ≠ dsg nb sb.data.toList ∨ dsg na sa.data.toList = 0 then Lib.compareInt (dsg na sa.data.toList) (dsg nb sb.data.toList) else dsg na sa.data.toList * orI (Lib.compareInt ((sa.size : Int) + ea) ((sb.size : Int) + eb)) (Lib.compareBytes sa.data.toList sb.data.toList) from by
    unfold pcmp bcmp orI; rw [hla, hlb])
  have hsx := dsg_bd na sa.data.toList
  have hsy := dsg_bd nb sb.data.toList
  have hcb := compareBytes_bd sa.data.toList sb.data.toList
  have hci := compareInt_bd ((sa.size : Int) + ea) ((sb.size : Int) + eb)
  have HCS := Lib.hid (fun W => Tryd.strings_Compare sa sb W)
  have HCI := Lib.hid (fun W => Tryd.cmp_Compare_int ((sa.size : Int) + ea) ((sb.size : Int) + eb) W)
  have HCX := Lib.hid (fun W => Tryd.cmp_Compare_int (dsg na sa.data.toList) (dsg nb sb.data.toList) W)
  obtain ⟨Z, hZ⟩ : ∃ Z, Z = dcmp na sa.data.toList ea nb sb.data.toList eb := ⟨_, rfl⟩
  rw [← hZ]
  have HZ := Lib.hid (hZ.trans (HP.out.symm.trans HU.out))
  clear hZ HP HU
  generalize dsg na sa.data.toList = x at *
  generalize dsg nb sb.data.toList = y at *
  generalize Lib.compareBytes sa.data.toList sb.data.toList = cb at *
  generalize hcie : Lib.compareInt ((sa.size : Int) + ea) ((sb.size : Int) + eb) = ci at *
  have hk1 := Blk.new w 23 #[.bool na, .string sa, .int .i64 ea]
  have hk2 := Blk.new (w.alloc (.cells #[.bool na, .string sa, .int .i64 ea] 23)) 23 #[.bool nb, .string sb, .int .i64 eb]
  simp at hk2
  have HK1 := Lib.hid (hk1.alloc (.cells #[.bool nb, .string sb, .int .i64 eb] 23))
  have HK2 := Lib.hid hk2
  have B0 := Lib.hid (((Below.refl _ w).alloc (Nat.le_refl _) (.cells #[.bool na, .string sa, .int .i64 ea] 23)).alloc (by simp) (.cells #[.bool nb, .string sb, .int .i64 eb] 23))
  clear ha hb hla hlb hk1 hk2 hcie
  go_enter Tryd.func23, Tryd.ntmps23
  go_wp2_with fail
  refine (HFA.out _).mono ?_
  rintro en w1 ⟨b, rfl, hb, b1⟩
  obtain rfl : b = true := hb.2 HNA.out
  have HK11 := Lib.hid (HK1.out.below b1 HK1.out.lt)
  have HK21 := Lib.hid (HK2.out.below b1 HK2.out.lt)
  have B1 := Lib.hid (bthen B0.out b1)
  have p0 := HK21.out.cell 0
  have p1 := HK21.out.cell 1
  have p2 := HK21.out.cell 2
  simp at p0 p1 p2
  clear hb b1
  go_wp2_with fail
  refine (HFB.out _).mono ?_
  rintro en w2 ⟨b, rfl, hb, b2⟩
  obtain rfl : b = true := hb.2 HNB.out
  have HK12 := Lib.hid (HK11.out.below b2 HK11.out.lt)
  have HK22 := Lib.hid (HK21.out.below b2 HK21.out.lt)
  have B2 := Lib.hid (bthen B1.out b2)
  have q0 := HK12.out.cell 0
  have q1 := HK12.out.cell 1
  have q2 := HK12.out.cell 2
  simp at q0 q1 q2
  clear hb b2
  go_wp2_with fail
  refine (HSA.out _).mono ?_
  rintro en w3 ⟨rfl, b3⟩
  have HK13 := Lib.hid (HK12.out.below b3 HK12.out.lt)
  have HK23 := Lib.hid (HK22.out.below b3 HK22.out.lt)
  have B3 := Lib.hid (bthen B2.out b3)
  have r0 := HK23.out.cell 0
  have r1 := HK23.out.cell 1
  have r2 := HK23.out.cell 2
  simp at r0 r1 r2
  clear b3
  go_wp2_with fail
  refine (HSB.out _).mono ?_
  rintro en w4 ⟨rfl, b4⟩
  have HK14 := Lib.hid (HK13.out.below b4 HK13.out.lt)
  have HK24 := Lib.hid (HK23.out.below b4 HK23.out.lt)
  have B4 := Lib.hid (bthen B3.out b4)
  have u1 := HK14.out.cell 1
  have u2 := HK14.out.cell 2
  have v0 := HK24.out.cell 0
  have v1 := HK24.out.cell 1
  have v2 := HK24.out.cell 2
  simp at u1 u2 v0 v1 v2
  clear b4
  by_cases hxy : x ≠ y ∨ x = 0
  · have HV := Lib.hid (show Z = Lib.compareInt x y from by rw [HZ.out, if_pos hxy])
    have hcase : (x != y) = true ∨ ((x != y) = false ∧ (x == 0) = true) := by
      by_cases h : x = y
      · right
        exact ⟨by simpa using h, by simpa using hxy.resolve_left (fun h' => h' h)⟩
      · left; simpa using h
    clear hxy
    rcases hcase with t1 | ⟨t1, t2⟩
    all_goals
      go_wp2_with fail
      refine (HSB.out _).mono ?_
      rintro en w5 ⟨rfl, b5⟩
      have B5 := Lib.hid (bthen B4.out b5)
      clear b5
      go_wp2_with fail
      refine (HCX.out _).mono ?_
      rintro en w6 ⟨rfl, hw6⟩
      subst hw6
      go_wp2_with fail
      go_ret2
      exact ⟨by rw [HV.out]; rfl, B5.out⟩
  · have HV := Lib.hid (show Z = x * orI ci cb from by rw [HZ.out, if_neg hxy])
    have t1 : (x != y) = false := by
      have : x = y := Classical.byContradiction fun h => hxy (.inl h)
      simpa using this
    have t2 : (x == 0) = false := by
      have : x ≠ 0 := fun h => hxy (.inr h)
      simpa using this
    have hor : -1 ≤ orI ci cb ∧ orI ci cb ≤ 1 := by unfold orI; split <;> omega
    have hpr : -1 ≤ x * orI ci cb ∧ x * orI ci cb ≤ 1 := by
      rcases hsx with h | h | h <;> rw [h] <;> omega
    obtain ⟨hp1, hp2⟩ := hpr
    have HO := Lib.hid (fun (W : World) (g : Nat) h0 h1 => or_w ci cb g W h0 h1)
    generalize orI ci cb = o at *
    obtain ⟨ho1, ho2⟩ := hor
    clear hxy
    go_wp2_with fail
    refine (HCI.out _).mono ?_
    rintro en w5 ⟨rfl, hw5⟩
    subst hw5
    go_wp2_with fail
    refine (HCS.out _).mono ?_
    rintro en w6 ⟨rfl, hw6⟩
    subst hw6
    go_wp2_with fail
    have hnb := Blk.new w6 3 #[.int .i64 ci, .int .i64 cb]
    refine (HO.out _ _ (hnb.cell 0) (hnb.cell 1)).mono ?_
    rintro en w7 ⟨rfl, hw7⟩
    subst hw7
    go_wp2_with fail
    go_ret2
    exact ⟨by rw [HV.out]; rfl, B4.out.alloc B4.out.size _⟩
set_option maxHeartbeats 4000000 in
set_option maxRecDepth 100000 in
theorem dcmp_no (na : Bool) (sa : ByteArray) (ea : Int) (nb : Bool) (sb : ByteArray) (eb : Int) (w : World) (h : ¬ (Form sa.data.toList ea ∧ Form sb.data.toList eb)) (hza : sa.size < 140737488355328) (hzb : sb.size < 140737488355328) :
    Calls Tryd.prog 23 #[.agg #[.bool na, .string sa, .int .i64 ea], .agg #[.bool nb, .string sb, .int .i64 eb]] w (CmNo w) := by
  have HFA := Lib.hid (fun W => formed_w na sa ea W hza)
  have HFB := Lib.hid (fun W => formed_w nb sb eb W hzb)
  have hk2 := Blk.new (w.alloc (.cells #[.bool na, .string sa, .int .i64 ea] 23)) 23 #[.bool nb, .string sb, .int .i64 eb]
  simp at hk2
  have HK2 := Lib.hid hk2
  have HN := Lib.hid h
  have B0 := Lib.hid (((Below.refl _ w).alloc (Nat.le_refl _) (.cells #[.bool na, .string sa, .int .i64 ea] 23)).alloc (by simp) (.cells #[.bool nb, .string sb, .int .i64 eb] 23))
  clear h hk2
  go_enter Tryd.func23, Tryd.ntmps23
  go_wp2_with fail
  refine (HFA.out _).mono ?_
  rintro en w1 ⟨b, rfl, hb, b1⟩
  have HK21 := Lib.hid (HK2.out.below b1 HK2.out.lt)
  have B1 := Lib.hid (bthen B0.out b1)
  have p0 := HK21.out.cell 0
  have p1 := HK21.out.cell 1
  have p2 := HK21.out.cell 2
  simp at p0 p1 p2
  have HB := Lib.hid hb
  clear hb b1
  cases b
  · go_wp2_with fail
    go_ret2
    exact ⟨rfl, B1.out⟩
  · go_wp2_with fail
    refine (HFB.out _).mono ?_
    rintro en w2 ⟨b, rfl, hb, b2⟩
    obtain rfl : b = false := by
      cases b
      · rfl
      · exact absurd ⟨HB.out.1 (by first | rfl | trivial), hb.1 rfl⟩ HN.out
    have B2 := Lib.hid (bthen B1.out b2)
    clear hb b2
    go_wp2_with fail
    go_ret2
    exact ⟨rfl, B2.out⟩
end Go.Proofs.YtncglbnnpdppjaaDoor.Num
namespace Go.Proofs.YtncglbnnpdppjaaDoor.Num
set_option exponentiation.threshold 3000
set_option linter.unusedVariables false
set_option linter.unusedSimpArgs false
set_option exponentiation.threshold 3000
open Go.Proofs.YtncglbnnpdppjaaDoor.Mem Go.Proofs.YtncglbnnpdppjaaDoor.Own Go.Proofs.YtncglbnnpdppjaaDoor.Big
theorem sgl_inf' : Ieee.single.infRung = 2139095040 := by decide
theorem told_worth (N k : Nat) : rN (tl N) (te N (-(k : Int))) * 10 ^ k = N * rD (te N (-(k : Int))) := by
  by_cases hN : N = 0
  · subst hN
    rw [(told_tl 0).zero, rN_nil, Nat.zero_mul, Nat.zero_mul]
  · have hv := (told_tl N).val
    unfold te
    rw [if_neg hN]
    unfold rN rD
    generalize tz N = z at *
    generalize dval (tl N) = D at *
    rw [← hv, Nat.mul_assoc, ← Nat.pow_add, Nat.mul_assoc, ← Nat.pow_add]
    congr 2
    omega
theorem x_worth (m : Nat) (e : Int) (K : Nat) (h : -(K : Int) ≤ e) : rN (tl (xN m e)) (te (xN m e) (xE e)) * 2 ^ K = m * 2 ^ (e + K).toNat * rD (te (xN m e) (xE e)) := by
  unfold xE
  by_cases he : 0 ≤ e
  · rw [if_pos he]
    have h1 := told_worth (xN m e) 0
    rw [show (-((0 : Nat) : Int)) = 0 from rfl, Nat.pow_zero, Nat.mul_one] at h1
    rw [h1, show xN m e = m * 2 ^ e.toNat from if_pos he]
    have : 2 ^ (e + K).toNat = 2 ^ e.toNat * 2 ^ K := by rw [← Nat.pow_add]; congr 1; omega
    rw [this]
    generalize rD _ = r
    grind
  · rw [if_neg he]
    obtain ⟨k, hk⟩ : ∃ k : Nat, e = -(k : Int) := ⟨(-e).toNat, by omega⟩
    have h1 := told_worth (xN m e) k
    rw [← hk] at h1
    have hx : xN m e = m * 5 ^ k := by unfold xN; rw [if_neg he]; congr 2; omega
    rw [hx] at h1 ⊢
    generalize rN (tl (m * 5 ^ k)) (te (m * 5 ^ k) e) = A at *
    generalize rD (te (m * 5 ^ k) e) = r at *
    have h2 : (A * 2 ^ k) * 5 ^ k = (m * r) * 5 ^ k := by
      rw [Nat.mul_assoc, ← Nat.mul_pow]
      rw [h1]
      grind
    have h3 := Nat.eq_of_mul_eq_mul_right (Nat.pow_pos (by decide)) h2
    obtain ⟨j, hj⟩ : ∃ j, K = k + j := ⟨K - k, by omega⟩
    have e1 : (e + (K : Int)).toNat = j := by omega
    rw [e1, hj, Nat.pow_add, ← Nat.mul_assoc, h3]
    grind
/-- The decimal that a float is, and the one half way to the next. -/
noncomputable abbrev exL (n : Nat) : List UInt8 := tl (xN (Rung.mant 52 n) (-1074 + (Rung.expo 52 n : Nat)))
noncomputable abbrev exE (n : Nat) : Int := te (xN (Rung.mant 52 n) (-1074 + (Rung.expo 52 n : Nat))) (xE (-1074 + (Rung.expo 52 n : Nat)))
noncomputable abbrev btL (n : Nat) : List UInt8 := tl (xN (2 * Rung.mant 52 n + 1) (-1074 + (Rung.expo 52 n : Nat) - 1))
noncomputable abbrev btE (n : Nat) : Int := te (xN (2 * Rung.mant 52 n + 1) (-1074 + (Rung.expo 52 n : Nat) - 1)) (xE (-1074 + (Rung.expo 52 n : Nat) - 1))
theorem ex_worth (n : Nat) : rN (exL n) (exE n) * 2 ^ 1074 = Rung.W 52 n * rD (exE n) := by
  have := x_worth (Rung.mant 52 n) (-1074 + (Rung.expo 52 n : Nat)) 1074 (by omega)
  rw [show (-1074 + ((Rung.expo 52 n : Nat) : Int) + ((1074 : Nat) : Int)).toNat = Rung.expo 52 n by omega] at this
  exact this
theorem bt_worth (n : Nat) : rN (btL n) (btE n) * 2 ^ 1075 = Rung.mid2 52 n * rD (btE n) := by
  have := x_worth (2 * Rung.mant 52 n + 1) (-1074 + (Rung.expo 52 n : Nat) - 1) 1075 (by omega)
  rw [show (-1074 + ((Rung.expo 52 n : Nat) : Int) - 1 + ((1075 : Nat) : Int)).toNat = Rung.expo 52 n by omega] at this
  exact this
theorem told_canon (N : Nat) : Canon (tl N) := ⟨(told_tl N).digs, (told_tl N).head, (told_tl N).last⟩
theorem x_form (m : Nat) (e : Int) (hm : m < 100000000000000000000) (h1 : -2000 ≤ e) (h2 : e ≤ 2000) : Form (tl (xN m e)) (te (xN m e) (xE e)) := by
  by_cases hN : xN m e = 0
  · rw [hN]
    exact .inl ⟨(told_tl 0).zero, if_pos rfl⟩
  · refine .inr ⟨(told_tl _).ne hN, told_canon _, ?_⟩
    obtain ⟨k, hk, hlt⟩ := xN_lt (e := e) hm
    have hk2 : k ≤ 2000 := by split at hk <;> omega
    have hz : tz (xN m e) < 20 + k := by
      have hv := (told_tl (xN m e)).val
      have hp := dval_pos (told_tl _).ok ((told_tl _).ne hN)
      have h3 : 10 ^ tz (xN m e) < 10 ^ (20 + k) := by
        refine Nat.lt_of_le_of_lt ?_ hlt
        calc 10 ^ tz (xN m e) = 1 * 10 ^ tz (xN m e) := (Nat.one_mul _).symm
          _ ≤ dval (tl (xN m e)) * 10 ^ tz (xN m e) := Nat.mul_le_mul_right _ (by omega)
          _ = xN m e := hv
      exact (Nat.pow_lt_pow_iff_right (by decide)).1 h3
    unfold te xE
    rw [if_neg hN]
    split <;> omega
theorem ex_form {n : Nat} (h : n < Ieee.double.infRung) : Form (exL n) (exE n) := by
  have hx := expo_52 h
  have hm := mant_53 n
  exact x_form _ _ (by omega) (by omega) (by omega)
theorem bt_form {n : Nat} (h : n < Ieee.double.infRung) : Form (btL n) (btE n) := by
  have hx := expo_52 h
  have hm := mant_53 n
  exact x_form _ _ (by omega) (by omega) (by omega)
/-- Beyond 400 places. -/
theorem places_hi {l : List UInt8} {e : Int} (h : Canon l) (h0 : l ≠ []) (hp : 400 < (l.length : Int) + e) : 10 ^ 400 * rD e ≤ rN l e := by
  have h1 := (canon_bounds h h0).1
  have hl : 0 < l.length := List.length_pos_iff.2 h0
  unfold rN rD
  calc 10 ^ 400 * 10 ^ (-e).toNat = 10 ^ (400 + (-e).toNat) := (Nat.pow_add ..).symm
    _ ≤ 10 ^ (l.length - 1 + e.toNat) := Nat.pow_le_pow_right (by decide) (by omega)
    _ = 10 ^ (l.length - 1) * 10 ^ e.toNat := Nat.pow_add ..
    _ ≤ dval l * 10 ^ e.toNat := Nat.mul_le_mul_right _ h1
theorem places_lo {l : List UInt8} {e : Int} (h : isDigs l) (hp : (l.length : Int) + e < -400) : rN l e * 10 ^ 400 < rD e := by
  have h1 := dval_lt h
  unfold rN rD
  calc dval l * 10 ^ e.toNat * 10 ^ 400 = dval l * 10 ^ (e.toNat + 400) := by rw [Nat.mul_assoc, ← Nat.pow_add]
    _ < 10 ^ l.length * 10 ^ (e.toNat + 400) := Nat.mul_lt_mul_of_pos_right h1 (Nat.pow_pos (by decide))
    _ = 10 ^ (l.length + (e.toNat + 400)) := (Nat.pow_add ..).symm
    _ ≤ 10 ^ (-e).toNat := Nat.pow_le_pow_right (by decide) (by omega)
theorem ten_low : (2 : Nat) ^ 1075 ≤ 10 ^ 400 := by decide +kernel
/-- The test that tells whether a decimal is beyond a middle. -/
def past (b K : Nat) (l : List UInt8) (e : Int) (n : Nat) : Prop := Rung.mid2 b n * rD e < 2 * (rN l e * 2 ^ K) ∨ Rung.mid2 b n * rD e = 2 * (rN l e * 2 ^ K) ∧ n % 2 = 1
/-- What the number of the nearest float meets. -/
theorem near_tests {b K over : Nat} {l : List UInt8} {e : Int} (hb : 1 ≤ b) (hK : K ≤ 1074) (ho0 : 0 < over) (ho : Rung.W b over ≤ 10 ^ 400 * 2 ^ K) (h : Canon l) :
    (refF b K over l e < over → ¬ past b K l e (refF b K over l e)) ∧ (0 < refF b K over l e → past b K l e (refF b K over l e - 1)) := by
  have hQ := rD_pos e
  unfold refF
  by_cases c1 : l = [] ∨ (l.length : Int) + e < -400
  · rw [if_pos c1]
    refine ⟨fun _ hp => ?_, fun h => absurd h (Nat.lt_irrefl 0)⟩
    have hm : Rung.mid2 b 0 = 1 := by
      unfold Rung.mid2
      rw [(Rung.parts_low (Rung.two_pow b)).1, (Rung.parts_low (Rung.two_pow b)).2]
    have hlt : 2 * (rN l e * 2 ^ K) < rD e := by
      rcases c1 with rfl | c1
      · rw [rN_nil, Nat.zero_mul, Nat.mul_zero]; exact hQ
      · refine Nat.lt_of_le_of_lt ?_ (places_lo h.digs c1)
        have h2 : 2 * 2 ^ K ≤ 10 ^ 400 := Nat.le_trans (by rw [← Nat.pow_succ']; exact Nat.pow_le_pow_right (by decide) (by omega)) ten_low
        calc 2 * (rN l e * 2 ^ K) = rN l e * (2 * 2 ^ K) := by grind
          _ ≤ rN l e * 10 ^ 400 := Nat.mul_le_mul_left _ h2
    unfold past at hp
    rw [hm, Nat.one_mul] at hp
    omega
  · rw [if_neg c1]
    have c3 : l ≠ [] := fun h => c1 (.inl h)
    by_cases c2 : 400 < (l.length : Int) + e
    · rw [if_pos c2]
      refine ⟨fun h => absurd h (Nat.lt_irrefl _), fun _ => .inl ?_⟩
      have h1 := places_hi h c3 c2
      have h2 : Rung.mid2 b (over - 1) < 2 * Rung.W b over := Rung.mid2_low (by omega)
      calc Rung.mid2 b (over - 1) * rD e < 2 * Rung.W b over * rD e := Nat.mul_lt_mul_of_pos_right h2 hQ
        _ ≤ 2 * (10 ^ 400 * 2 ^ K) * rD e := Nat.mul_le_mul_right _ (Nat.mul_le_mul_left _ ho)
        _ = 2 * (10 ^ 400 * rD e * 2 ^ K) := by grind
        _ ≤ 2 * (rN l e * 2 ^ K) := Nat.mul_le_mul_left _ (Nat.mul_le_mul_right _ h1)
    · rw [if_neg c2]
      have hn := Rung.rungF_near (K := K) hb (rN_pos h.ok c3 e) (Nat.ne_of_gt hQ)
      generalize Rung.rungF b K (rN l e) (rD e) = R at *
      refine ⟨fun hlt => ?_, fun hlt => ?_⟩
      · have : min R over = R := by omega
        rw [this]
        exact fun hp => Nat.lt_irrefl R ((hn R).2 hp)
      · exact (hn _).1 (by omega)
/-- The number that meets the tests. -/
theorem near_unique {b K over : Nat} {l : List UInt8} {e : Int} (hb : 1 ≤ b) (h : Canon l) (h0 : l ≠ []) (h1 : -400 ≤ (l.length : Int) + e) (h2 : (l.length : Int) + e ≤ 400) {R : Nat} (hR : ∀ n, n < R ↔ past b K l e n) (hle : R ≤ over) : refF b K over l e = R := by
  unfold refF
  rw [if_neg (by rintro (h | h); exact h0 h; omega), if_neg (by omega)]
  have hn := Rung.rungF_near (K := K) hb (rN_pos h.ok h0 e) (Nat.ne_of_gt (rD_pos e))
  have : Rung.rungF b K (rN l e) (rD e) = R := hn.one hR
  rw [this]; omega
theorem over_64 : Rung.W 52 9218868437227405312 ≤ 10 ^ 400 * 2 ^ 1074 := by decide +kernel
theorem over_32 : Rung.W 23 2139095040 ≤ 10 ^ 400 * 2 ^ 149 := by decide +kernel
theorem tests_64 {l : List UInt8} (e : Int) (h : Canon l) : (near64 l e < 9218868437227405312 → ¬ past 52 1074 l e (near64 l e)) ∧ (0 < near64 l e → past 52 1074 l e (near64 l e - 1)) := near_tests (by decide) (by decide) (by decide) over_64 h
theorem tests_32 {l : List UInt8} (e : Int) (h : Canon l) : (near32 l e < 2139095040 → ¬ past 23 149 l e (near32 l e)) ∧ (0 < near32 l e → past 23 149 l e (near32 l e - 1)) := near_tests (by decide) (by decide) (by decide) over_32 h
/-- A lesser decimal has no greater float. -/
theorem near_le {b K over : Nat} {la lb : List UInt8} {ea eb : Int} (hb : 1 ≤ b) (hK : K ≤ 1074) (ho0 : 0 < over) (ho : Rung.W b over ≤ 10 ^ 400 * 2 ^ K) (ha : Canon la) (hbc : Canon lb) (hle : rN la ea * rD eb ≤ rN lb eb * rD ea) : refF b K over la ea ≤ refF b K over lb eb := by
  apply Nat.le_of_not_lt
  intro hlt
  have h1 := (near_tests (e := ea) hb hK ho0 ho ha).2 (by omega)
  have h2 := (near_tests (e := eb) hb hK ho0 ho hbc).1 (Nat.lt_of_lt_of_le hlt (refF_le b K over la ea))
  generalize refF b K over la ea = Ra at *
  generalize refF b K over lb eb = Rb at *
  have hQa := rD_pos ea
  have hQb := rD_pos eb
  unfold past at h1 h2
  have hm : Rung.mid2 b Rb ≤ Rung.mid2 b (Ra - 1) := by
    rcases Nat.lt_or_ge Rb (Ra - 1) with h | h
    · exact Nat.le_of_lt (Rung.mid2_lt h)
    · rw [show Rb = Ra - 1 by omega]; exact Nat.le_refl _
  have hm2 : Rung.mid2 b Rb = Rung.mid2 b (Ra - 1) → Rb = Ra - 1 := by
    intro he
    rcases Nat.lt_or_ge Rb (Ra - 1) with h | h
    · have := Rung.mid2_lt (b := b) h; omega
    · omega
  have g1 : Rung.mid2 b (Ra - 1) * rD ea ≤ 2 * (rN la ea * 2 ^ K) := by omega
  have g2 : 2 * (rN lb eb * 2 ^ K) ≤ Rung.mid2 b Rb * rD eb := by omega
  generalize Rung.mid2 b (Ra - 1) = A at *
  generalize Rung.mid2 b Rb = B at *
  generalize rN la ea = Na at *
  generalize rN lb eb = Nb at *
  generalize rD ea = Qa at *
  generalize rD eb = Qb at *
  have k1 : A * Qa * Qb ≤ 2 * (Na * 2 ^ K) * Qb := Nat.mul_le_mul_right _ g1
  have k2 : 2 * (Nb * 2 ^ K) * Qa ≤ B * Qb * Qa := Nat.mul_le_mul_right _ g2
  have k3 : 2 * (Na * 2 ^ K) * Qb ≤ 2 * (Nb * 2 ^ K) * Qa := by
    have := Nat.mul_le_mul_left (2 * 2 ^ K) hle
    calc 2 * (Na * 2 ^ K) * Qb = 2 * 2 ^ K * (Na * Qb) := by grind
      _ ≤ 2 * 2 ^ K * (Nb * Qa) := this
      _ = 2 * (Nb * 2 ^ K) * Qa := by grind
  have k4 : B * Qb * Qa ≤ A * Qa * Qb := by
    have := Nat.mul_le_mul_right (Qb * Qa) hm
    calc B * Qb * Qa = B * (Qb * Qa) := by grind
      _ ≤ A * (Qb * Qa) := this
      _ = A * Qa * Qb := by grind
  have p : 0 < Qa * Qb := Nat.mul_pos hQa hQb
  have eAB : B = A := by
    have e : B * (Qa * Qb) = A * (Qa * Qb) := by
      have : B * Qb * Qa = A * Qa * Qb := by omega
      grind
    exact Nat.eq_of_mul_eq_mul_right p e
  have e1 : A * Qa = 2 * (Na * 2 ^ K) := by
    have : A * Qa * Qb = 2 * (Na * 2 ^ K) * Qb := by omega
    exact Nat.eq_of_mul_eq_mul_right hQb this
  have e2 : 2 * (Nb * 2 ^ K) = B * Qb := by
    have : 2 * (Nb * 2 ^ K) * Qa = B * Qb * Qa := by omega
    exact Nat.eq_of_mul_eq_mul_right hQa this
  have e3 := hm2 eAB
  have : (Ra - 1) % 2 = 1 := by omega
  exact h2 (.inr ⟨by omega, by rw [e3]; exact this⟩)
/-- How a decimal stands to the middle behind a float. -/
theorem cmp_mid (l : List UInt8) (e : Int) (n : Nat) : dcmp false l e false (btL n) (btE n) = cmpI (2 * (rN l e * 2 ^ 1074)) (Rung.mid2 52 n * rD e) := by
  unfold dcmp
  have h := bt_worth n
  have hq := rD_pos (btE n)
  have hC : (2 : Nat) ^ 1075 = 2 * 2 ^ 1074 := Nat.pow_succ' ..
  have hp : 0 < (2 : Nat) ^ 1074 := Nat.pow_pos (by decide)
  rw [hC] at h
  generalize (2 : Nat) ^ 1074 = C at *
  generalize rN (btL n) (btE n) = A at *
  generalize rD (btE n) = q at *
  show cmpZ ((rN l e * q : Nat) : Int) ((A * rD e : Nat) : Int) = _
  rw [cmpZ_nat, ← cmpI_mul (c := 2 * C) (by omega), ← cmpI_mul (x := 2 * (rN l e * C)) (c := q) hq]
  have e1 : rN l e * q * (2 * C) = 2 * (rN l e * C) * q := by grind
  have e2 : A * rD e * (2 * C) = Rung.mid2 52 n * rD e * q := by
    calc A * rD e * (2 * C) = A * (2 * C) * rD e := by grind
      _ = Rung.mid2 52 n * q * rD e := by rw [h]
      _ = Rung.mid2 52 n * rD e * q := by grind
  rw [e1, e2]
theorem cmpI_past {l : List UInt8} {e : Int} {n : Nat} : past 52 1074 l e n ↔ (cmpI (2 * (rN l e * 2 ^ 1074)) (Rung.mid2 52 n * rD e) = 1 ∨ cmpI (2 * (rN l e * 2 ^ 1074)) (Rung.mid2 52 n * rD e) = 0 ∧ n % 2 = 1) := by
  unfold past
  generalize 2 * (rN l e * 2 ^ 1074) = x
  generalize Rung.mid2 52 n * rD e = y
  rcases Nat.lt_trichotomy x y with h | h | h
  · rw [cmpI_l h]; constructor <;> intro h2 <;> omega
  · rw [cmpI_e h]; constructor
    · intro h2; exact .inr ⟨rfl, by omega⟩
    · intro h2; exact .inr ⟨h.symm, by omega⟩
  · rw [cmpI_g h]; constructor
    · intro _; exact .inl rfl
    · intro _; exact .inl h
theorem W_lt_inf {n : Nat} (h : n < Ieee.double.infRung) : Rung.W 52 n < 2 ^ 2098 := by rw [← W_inf]; exact Rung.W_lt h
theorem big_400 : (2 : Nat) ^ 2099 ≤ 10 ^ 400 * 2 ^ 1074 := by decide +kernel
theorem ten_pos (k : Nat) : 0 < 10 ^ k := Nat.pow_pos (by decide)
/-- The places of a decimal whose worth is known. -/
theorem places_of {l : List UInt8} {e : Int} {K V : Nat} (h : Canon l) (h0 : l ≠ []) (hv : rN l e * 2 ^ K = V * rD e) (hV : 0 < V) (hV2 : V < 2 ^ 2099) (hK : K ≤ 1075) (hK2 : 1074 ≤ K) : -400 ≤ (l.length : Int) + e ∧ (l.length : Int) + e ≤ 400 := by
  have hQ := rD_pos e
  constructor
  · apply Int.le_of_not_gt
    intro hlt
    have h1 := places_lo h.digs hlt
    have h2 : V * rD e * 10 ^ 400 < rD e * 10 ^ 400 := by
      calc V * rD e * 10 ^ 400 = rN l e * 10 ^ 400 * 2 ^ K := by rw [← hv]; generalize (2 : Nat) ^ K = c; generalize (10 : Nat) ^ 400 = d; grind
        _ < rD e * 2 ^ K := Nat.mul_lt_mul_of_pos_right h1 (Nat.pow_pos (by decide))
        _ ≤ rD e * 10 ^ 400 := Nat.mul_le_mul_left _ (Nat.le_trans (Nat.pow_le_pow_right (by decide) hK) ten_low)
    have h3 : rD e * 10 ^ 400 ≤ V * rD e * 10 ^ 400 := Nat.mul_le_mul_right _ (Nat.le_mul_of_pos_left _ hV)
    omega
  · apply Int.le_of_not_gt
    intro hlt
    have h1 := places_hi h h0 hlt
    have h2 : 10 ^ 400 * 2 ^ 1074 * rD e ≤ V * rD e := by
      calc 10 ^ 400 * 2 ^ 1074 * rD e = 10 ^ 400 * rD e * 2 ^ 1074 := by generalize (2 : Nat) ^ 1074 = c; generalize (10 : Nat) ^ 400 = d; grind
        _ ≤ rN l e * 2 ^ 1074 := Nat.mul_le_mul_right _ h1
        _ ≤ rN l e * 2 ^ K := Nat.mul_le_mul_left _ (Nat.pow_le_pow_right (by decide) hK2)
        _ = V * rD e := hv
    have h3 := Nat.le_of_mul_le_mul_right h2 hQ
    have := big_400
    omega
theorem past_mul {b K : Nat} {l : List UInt8} {e : Int} {V n : Nat} (hv : 2 * (rN l e * 2 ^ K) = V * rD e) : past b K l e n ↔ (Rung.mid2 b n < V ∨ Rung.mid2 b n = V ∧ n % 2 = 1) := by
  have hQ := rD_pos e
  unfold past
  rw [hv]
  constructor
  · rintro (h | ⟨h, h2⟩)
    · exact .inl (Nat.lt_of_mul_lt_mul_right h)
    · exact .inr ⟨Nat.eq_of_mul_eq_mul_right hQ h, h2⟩
  · rintro (h | ⟨h, h2⟩)
    · exact .inl (Nat.mul_lt_mul_of_pos_right h hQ)
    · exact .inr ⟨by rw [h], h2⟩
theorem mid2_iff {b k n : Nat} : k < n ↔ (Rung.mid2 b k < 2 * Rung.W b n ∨ Rung.mid2 b k = 2 * Rung.W b n ∧ k % 2 = 1) := by
  constructor
  · intro h; exact .inl (Rung.mid2_low h)
  · intro h
    apply Nat.lt_of_not_le
    intro hle
    have h1 := Rung.mid2_eq b k
    have h2 := Rung.W_le (b := b) hle
    have h3 := Rung.W_lt_succ b k
    omega
theorem W_pos_of {n : Nat} (h : 0 < n) : 0 < Rung.W 52 n := Rung.W_pos h
theorem ex_nil {n : Nat} : exL n = [] ↔ n = 0 := by
  constructor
  · intro h
    have h1 := ex_worth n
    rw [h, rN_nil, Nat.zero_mul] at h1
    rcases Nat.eq_zero_or_pos n with h2 | h2
    · exact h2
    · have := Nat.mul_pos (W_pos_of h2) (rD_pos (exE n)); omega
  · intro h
    subst h
    have h1 := ex_worth 0
    rw [Rung.W_zero, Nat.zero_mul] at h1
    apply Classical.byContradiction
    intro h2
    have := rN_pos (told_canon _).ok h2 (exE 0)
    have h3 : 0 < rN (exL 0) (exE 0) * 2 ^ 1074 := Nat.mul_pos (Nat.pos_of_ne_zero this) (Nat.pow_pos (by decide))
    rw [h1] at h3
    exact Nat.lt_irrefl 0 h3
/-- What a float is comes to that float. -/
theorem near_ex {n : Nat} (h : n < Ieee.double.infRung) : near64 (exL n) (exE n) = n := by
  have hw := ex_worth n
  rcases Nat.eq_zero_or_pos n with h0 | h0
  · have h1 := ex_nil.2 h0
    unfold near64 refF
    rw [if_pos (.inl h1), h0]
  · have hne : exL n ≠ [] := fun e => by have := ex_nil.1 e; omega
    have hlt := W_lt_inf h
    obtain ⟨p1, p2⟩ := places_of (told_canon _) hne hw (W_pos_of h0) (Nat.lt_of_lt_of_le hlt (Nat.pow_le_pow_right (by decide) (by decide))) (by decide) (by decide)
    have hv : 2 * (rN (exL n) (exE n) * 2 ^ 1074) = 2 * Rung.W 52 n * rD (exE n) := by rw [hw, Nat.mul_assoc]
    refine near_unique (by decide) (told_canon _) hne p1 p2 (fun k => ?_) (by rw [inf_num] at h; omega)
    rw [past_mul hv]
    exact mid2_iff
/-- A short float's decimal comes to that short float. -/
theorem near_ex32 {n n' : Nat} (h : n < Ieee.single.infRung) (h' : n' < Ieee.double.infRung) (hW : Rung.W 52 n' = Rung.W 23 n * 2 ^ 925) : near32 (exL n') (exE n') = n := by
  have hw := ex_worth n'
  rcases Nat.eq_zero_or_pos n' with h0 | h0
  · have h1 := ex_nil.2 h0
    have hn : n = 0 := by
      rcases Nat.eq_zero_or_pos n with h2 | h2
      · exact h2
      · rw [h0, Rung.W_zero] at hW
        have := Nat.mul_pos (Rung.W_pos (b := 23) h2) (Nat.pow_pos (n := 925) (show 0 < 2 by decide))
        omega
    unfold near32 refF
    rw [if_pos (.inl h1), hn]
  · have hne : exL n' ≠ [] := fun e => by have := ex_nil.1 e; omega
    have hlt := W_lt_inf h'
    obtain ⟨p1, p2⟩ := places_of (told_canon _) hne hw (W_pos_of h0) (Nat.lt_of_lt_of_le hlt (Nat.pow_le_pow_right (by decide) (by decide))) (by decide) (by decide)
    have hw2 : rN (exL n') (exE n') * 2 ^ 149 = Rung.W 23 n * rD (exE n') := by
      apply Nat.eq_of_mul_eq_mul_right (Nat.pow_pos (n := 925) (show 0 < 2 by decide))
      calc rN (exL n') (exE n') * 2 ^ 149 * 2 ^ 925 = rN (exL n') (exE n') * 2 ^ 1074 := by rw [Nat.mul_assoc, ← Nat.pow_add]
        _ = Rung.W 23 n * 2 ^ 925 * rD (exE n') := by rw [hw, hW]
        _ = Rung.W 23 n * rD (exE n') * 2 ^ 925 := by generalize (2 : Nat) ^ 925 = c; grind
    have hv : 2 * (rN (exL n') (exE n') * 2 ^ 149) = 2 * Rung.W 23 n * rD (exE n') := by rw [hw2, Nat.mul_assoc]
    refine near_unique (by decide) (told_canon _) hne p1 p2 (fun k => ?_) (by rw [sgl_inf'] at h; omega)
    rw [past_mul hv]
    exact mid2_iff
theorem bt_ne {n : Nat} : btL n ≠ [] := by
  intro h
  have h1 := bt_worth n
  rw [h, rN_nil, Nat.zero_mul] at h1
  have h2 : 0 < Rung.mid2 52 n := by
    unfold Rung.mid2
    exact Nat.mul_pos (by omega) (Nat.pow_pos (by decide))
  have := Nat.mul_pos h2 (rD_pos (btE n))
  omega
theorem mid2_small {n : Nat} (h : n < Ieee.double.infRung) : 0 < Rung.mid2 52 n ∧ Rung.mid2 52 n < 2 ^ 2099 := by
  constructor
  · unfold Rung.mid2
    exact Nat.mul_pos (by omega) (Nat.pow_pos (by decide))
  · have h1 := Rung.mid2_low (b := 52) h
    rw [W_inf] at h1
    have : (2 : Nat) ^ 2099 = 2 * 2 ^ 2098 := Nat.pow_succ' ..
    omega
/-- Half way comes to the even one. -/
theorem near_bt {n : Nat} (h : n < Ieee.double.infRung) : near64 (btL n) (btE n) = if n % 2 = 1 then n + 1 else n := by
  have hw := bt_worth n
  obtain ⟨m1, m2⟩ := mid2_small h
  obtain ⟨p1, p2⟩ := places_of (told_canon _) bt_ne hw m1 m2 (by decide) (by decide)
  have hv : 2 * (rN (btL n) (btE n) * 2 ^ 1074) = Rung.mid2 52 n * rD (btE n) := by
    rw [← hw, Nat.pow_succ 2 1074]
    generalize (2 : Nat) ^ 1074 = c
    grind
  refine near_unique (by decide) (told_canon _) bt_ne p1 p2 (fun k => ?_) (by rw [inf_num] at h; split <;> omega)
  rw [past_mul hv]
  have hk : Rung.mid2 52 k < Rung.mid2 52 n ↔ k < n := by
    constructor
    · intro hlt
      apply Nat.lt_of_not_le
      intro hle
      rcases Nat.eq_or_lt_of_le hle with e | e
      · rw [e] at hlt; omega
      · have := Rung.mid2_lt (b := 52) e; omega
    · exact Rung.mid2_lt
  have hk2 : Rung.mid2 52 k = Rung.mid2 52 n ↔ k = n := by
    constructor
    · intro he
      rcases Nat.lt_trichotomy k n with e | e | e
      · have := Rung.mid2_lt (b := 52) e; omega
      · exact e
      · have := Rung.mid2_lt (b := 52) e; omega
    · intro e; rw [e]
  rw [hk, hk2]
  split <;> omega
end Go.Proofs.YtncglbnnpdppjaaDoor.Num
namespace Go.Proofs.YtncglbnnpdppjaaDoor.Num
set_option exponentiation.threshold 3000
set_option linter.unusedVariables false
set_option linter.unusedSimpArgs false
set_option exponentiation.threshold 3000
open Go.RowKit Go.Proofs.YtncglbnnpdppjaaDoor.Mem Go.Proofs.YtncglbnnpdppjaaDoor.Own Go.Proofs.YtncglbnnpdppjaaDoor.Big
open Ieee (double single)
theorem cmpZ_le {x y : Int} : cmpZ x y ≤ 0 ↔ x ≤ y := by unfold cmpZ; split <;> (try split) <;> omega
theorem cmpZ_ge {x y : Int} : 0 ≤ cmpZ x y ↔ y ≤ x := by unfold cmpZ; split <;> (try split) <;> omega
theorem cmpZ_three (x y : Int) : cmpZ x y = -1 ∨ cmpZ x y = 0 ∨ cmpZ x y = 1 := by unfold cmpZ; split <;> (try split) <;> omega
theorem ref_nil {b K over : Nat} {l : List UInt8} {e : Int} (h : l = []) : refF b K over l e = 0 := by unfold refF; rw [if_pos (.inl h)]
theorem rise {b K over : Nat} {la lb : List UInt8} {ea eb : Int} {na nb : Bool} (hb : 1 ≤ b) (hK : K ≤ 1074) (ho0 : 0 < over) (ho : Rung.W b over ≤ 10 ^ 400 * 2 ^ K) (ha : Canon la) (hbc : Canon lb)
    (h : dcmp na la ea nb lb eb ≤ 0) : Rung.sgn na (refF b K over la ea) ≤ Rung.sgn nb (refF b K over lb eb) := by
  unfold dcmp at h
  rw [cmpZ_le] at h
  have hqa := rD_pos ea
  have hqb := rD_pos eb
  cases na <;> cases nb
  · have h1 : rN la ea * rD eb ≤ rN lb eb * rD ea := Int.ofNat_le.1 h
    have := near_le hb hK ho0 ho ha hbc h1
    unfold Rung.sgn; simp; exact this
  · have z : rN la ea * rD eb = 0 ∧ rN lb eb * rD ea = 0 := by
      unfold Rung.sgn at h
      simp only [Bool.false_eq_true, if_false, if_true] at h
      omega
    have ga : la = [] := by
      apply Classical.byContradiction
      intro hne
      have := Nat.mul_pos (Nat.pos_of_ne_zero (rN_pos ha.ok hne ea)) hqb
      omega
    have gb : lb = [] := by
      apply Classical.byContradiction
      intro hne
      have := Nat.mul_pos (Nat.pos_of_ne_zero (rN_pos hbc.ok hne eb)) hqa
      omega
    rw [ref_nil ga, ref_nil gb]
    decide
  · unfold Rung.sgn
    simp only [Bool.false_eq_true, if_false, if_true]
    omega
  · have h1 : rN lb eb * rD ea ≤ rN la ea * rD eb := by
      unfold Rung.sgn at h
      simp only [if_true] at h
      omega
    have := near_le hb hK ho0 ho hbc ha h1
    unfold Rung.sgn
    simp only [if_true]
    omega
theorem dcmp_swap {na nb : Bool} {la lb : List UInt8} {ea eb : Int} (h : 0 ≤ dcmp na la ea nb lb eb) : dcmp nb lb eb na la ea ≤ 0 := by
  unfold dcmp at h ⊢
  rw [cmpZ_ge] at h
  rw [cmpZ_le]
  exact h
/-- What two decimals' floats meet. -/
structure RiseI (c : Int) (na : Bool) (ra : Nat) (nb : Bool) (rb over : Nat) : Prop where
  le : c ≤ 0 → Rung.sgn na ra ≤ Rung.sgn nb rb
  ge : 0 ≤ c → Rung.sgn nb rb ≤ Rung.sgn na ra
  la : ra ≤ over
  lb : rb ≤ over
theorem RiseI.over_ {c : Int} {na nb : Bool} {ra rb over : Nat} (h : RiseI c na ra nb rb over) (h1 : ra = over) (h2 : rb ≠ over) (h0 : 0 < over) : (c < 0 ∧ na = true) ∨ (0 < c ∧ na = false) := by
  have hb := h.lb
  cases na
  · right
    refine ⟨?_, rfl⟩
    apply Int.lt_of_not_ge
    intro hc
    have := h.le hc
    unfold Rung.sgn at this
    cases nb <;> simp at this <;> omega
  · left
    refine ⟨?_, rfl⟩
    apply Int.lt_of_not_ge
    intro hc
    have := h.ge hc
    unfold Rung.sgn at this
    cases nb <;> simp at this <;> omega
theorem riseI_64 {la lb : List UInt8} (ea eb : Int) (na nb : Bool) (ha : Canon la) (hb : Canon lb) : RiseI (dcmp na la ea nb lb eb) na (near64 la ea) nb (near64 lb eb) 9218868437227405312 :=
  ⟨rise (by decide) (by decide) (by decide) over_64 ha hb, fun h => rise (by decide) (by decide) (by decide) over_64 hb ha (dcmp_swap h), refF_le _ _ _ _ _, refF_le _ _ _ _ _⟩
theorem riseI_32 {la lb : List UInt8} (ea eb : Int) (na nb : Bool) (ha : Canon la) (hb : Canon lb) : RiseI (dcmp na la ea nb lb eb) na (near32 la ea) nb (near32 lb eb) 2139095040 :=
  ⟨rise (by decide) (by decide) (by decide) over_32 ha hb, fun h => rise (by decide) (by decide) (by decide) over_32 hb ha (dcmp_swap h), refF_le _ _ _ _ _, refF_le _ _ _ _ _⟩
theorem cmp_ne_gt {a b : Int} (h : a ≤ b) : (some (compare a b) == some Ordering.gt) = false := by
  rcases Int.lt_or_eq_of_le h with h | h
  · rw [cmp_lt h]; rfl
  · rw [cmp_eq h]; rfl
theorem cmp_ne_lt {a b : Int} (h : b ≤ a) : (some (compare a b) == some Ordering.lt) = false := by
  rcases Int.lt_or_eq_of_le h with h | h
  · rw [cmp_gt h]; rfl
  · rw [cmp_eq h.symm]; rfl
theorem not_gt64 {s t : Bool} {n m : Nat} (hn : n < double.infRung) (hm : m < double.infRung) (h : Rung.sgn s n ≤ Rung.sgn t m) : (FloatKind.f64.format.order (double.word s n) (double.word t m) == some .gt) = false := by
  rw [show FloatKind.f64.format = double from rfl, Rung.order_word hn hm]; exact cmp_ne_gt h
theorem not_lt64 {s t : Bool} {n m : Nat} (hn : n < double.infRung) (hm : m < double.infRung) (h : Rung.sgn t m ≤ Rung.sgn s n) : (FloatKind.f64.format.order (double.word s n) (double.word t m) == some .lt) = false := by
  rw [show FloatKind.f64.format = double from rfl, Rung.order_word hn hm]; exact cmp_ne_lt h
theorem not_gt32 {s t : Bool} {n m : Nat} (hn : n < single.infRung) (hm : m < single.infRung) (h : Rung.sgn s n ≤ Rung.sgn t m) : (FloatKind.f32.format.order (single.word s n) (single.word t m) == some .gt) = false := by
  rw [show FloatKind.f32.format = single from rfl, Rung.order_word hn hm]; exact cmp_ne_gt h
theorem not_lt32 {s t : Bool} {n m : Nat} (hn : n < single.infRung) (hm : m < single.infRung) (h : Rung.sgn t m ≤ Rung.sgn s n) : (FloatKind.f32.format.order (single.word s n) (single.word t m) == some .lt) = false := by
  rw [show FloatKind.f32.format = single from rfl, Rung.order_word hn hm]; exact cmp_ne_lt h
end Go.Proofs.YtncglbnnpdppjaaDoor.Num
namespace Go.Proofs.YtncglbnnpdppjaaDoor.Num
set_option exponentiation.threshold 3000
set_option linter.unusedVariables false
set_option linter.unusedSimpArgs false
set_option exponentiation.threshold 3000
open Go.RowKit Go.Proofs.YtncglbnnpdppjaaDoor.Mem Go.Proofs.YtncglbnnpdppjaaDoor.Own Go.Proofs.YtncglbnnpdppjaaDoor.Big
open Ieee (double single)
theorem ofV_over (neg : Bool) : ofV neg 9218868437227405312 = .tuple #[.float .f64 0, .int .i64 121] := if_pos rfl
theorem ofV_ok {neg : Bool} {n : Nat} (h : n ≠ 9218868437227405312) : ofV neg n = .tuple #[.float .f64 (double.word neg n), .int .i64 0] := if_neg h
theorem ofV32_over (neg : Bool) : ofV32 neg 2139095040 = .tuple #[.float .f32 0, .int .i64 121] := if_pos rfl
theorem ofV32_ok {neg : Bool} {n : Nat} (h : n ≠ 2139095040) : ofV32 neg n = .tuple #[.float .f32 (single.word neg n), .int .i64 0] := if_neg h
set_option maxHeartbeats 40000000 in
set_option maxRecDepth 100000 in
theorem floatsRise_no (na : Bool) (sa : ByteArray) (ea : Int) (nb : Bool) (sb : ByteArray) (eb : Int) (w : World) (hza : sa.size < 140737488355328) (hzb : sb.size < 140737488355328) (h : ¬ (Form sa.data.toList ea ∧ Form sb.data.toList eb)) :
    Calls Tryd.prog 8 #[.agg #[.bool na, .string sa, .int .i64 ea], .agg #[.bool nb, .string sb, .int .i64 eb]] w (TruePost w) := by
  have HC := Lib.hid (fun W => dcmp_no na sa ea nb sb eb W h hza hzb)
  clear h
  go_enter Tryd.func8, Tryd.ntmps8
  go_wp2_with fail
  refine (awake_w _).mono ?_
  rintro en w1 ⟨rfl, b1⟩
  have hx := ((Blk.new w 23 #[.bool na, .string sa, .int .i64 ea]).alloc (.cells #[.bool nb, .string sb, .int .i64 eb] 23))
  have HA1 := Lib.hid (hx.below b1 hx.lt)
  clear hx
  have hx := (Blk.new (w.alloc (.cells #[.bool na, .string sa, .int .i64 ea] 23)) 23 #[.bool nb, .string sb, .int .i64 eb])
  simp at hx
  have HC1 := Lib.hid (hx.below b1 hx.lt)
  clear hx
  have B1 := Lib.hid (bthen (((Below.refl _ w).alloc (Nat.le_refl _) (.cells #[.bool na, .string sa, .int .i64 ea] 23)).alloc (by simp) (.cells #[.bool nb, .string sb, .int .i64 eb] 23)) b1)
  have A_0 : w1.cell? ⟨w.heap.size, 0, none⟩ = some (.bool na) := HA1.out.cell 0
  have A_1 : w1.cell? ⟨w.heap.size, 1, none⟩ = some (.string sa) := HA1.out.cell 1
  have A_2 : w1.cell? ⟨w.heap.size, 2, none⟩ = some (.int .i64 ea) := HA1.out.cell 2
  have A_z : w.heap.size < w1.heap.size := HA1.out.lt
  have C_0 : w1.cell? ⟨(w.heap.size + 1), 0, none⟩ = some (.bool nb) := HC1.out.cell 0
  have C_1 : w1.cell? ⟨(w.heap.size + 1), 1, none⟩ = some (.string sb) := HC1.out.cell 1
  have C_2 : w1.cell? ⟨(w.heap.size + 1), 2, none⟩ = some (.int .i64 eb) := HC1.out.cell 2
  have C_z : (w.heap.size + 1) < w1.heap.size := HC1.out.lt
  clear b1
  go_wp2_with fail
  refine (HC.out _).mono ?_
  rintro en w2 ⟨rfl, b2⟩
  have hx := HA1.out
  have HA2 := Lib.hid (hx.below b2 hx.lt)
  clear hx
  have hx := HC1.out
  have HC2 := Lib.hid (hx.below b2 hx.lt)
  clear hx
  have B2 := Lib.hid (bthen B1.out b2)
  clear A_0 A_1 A_2 C_0 C_1 C_2 A_z C_z
  have A_0 : w2.cell? ⟨w.heap.size, 0, none⟩ = some (.bool na) := HA2.out.cell 0
  have A_1 : w2.cell? ⟨w.heap.size, 1, none⟩ = some (.string sa) := HA2.out.cell 1
  have A_2 : w2.cell? ⟨w.heap.size, 2, none⟩ = some (.int .i64 ea) := HA2.out.cell 2
  have A_z : w.heap.size < w2.heap.size := HA2.out.lt
  have C_0 : w2.cell? ⟨(w.heap.size + 1), 0, none⟩ = some (.bool nb) := HC2.out.cell 0
  have C_1 : w2.cell? ⟨(w.heap.size + 1), 1, none⟩ = some (.string sb) := HC2.out.cell 1
  have C_2 : w2.cell? ⟨(w.heap.size + 1), 2, none⟩ = some (.int .i64 eb) := HC2.out.cell 2
  have C_z : (w.heap.size + 1) < w2.heap.size := HC2.out.lt
  clear b2
  go_wp2_with fail
  go_ret
  exact ⟨rfl, B2.out⟩
set_option maxHeartbeats 40000000 in
set_option maxRecDepth 100000 in
theorem floatsRise_yes (na : Bool) (sa : ByteArray) (ea : Int) (nb : Bool) (sb : ByteArray) (eb : Int) (w : World) (hza : sa.size < 140737488355328) (hzb : sb.size < 140737488355328) (ha : Form sa.data.toList ea) (hb : Form sb.data.toList eb) :
    Calls Tryd.prog 8 #[.agg #[.bool na, .string sa, .int .i64 ea], .agg #[.bool nb, .string sb, .int .i64 eb]] w (TruePost w) := by
  have HC := Lib.hid (fun W => dcmp_w na sa ea nb sb eb W ha hb hza hzb)
  have HOA := Lib.hid (fun W => of_yes na sa ea W ha hza)
  have HOB := Lib.hid (fun W => of_yes nb sb eb W hb hzb)
  have HSA := Lib.hid (fun W => of32_yes na sa ea W ha hza)
  have HSB := Lib.hid (fun W => of32_yes nb sb eb W hb hzb)
  have HR := Lib.hid (riseI_64 ea eb na nb ha.canon.1 hb.canon.1)
  have HS := Lib.hid (riseI_32 ea eb na nb ha.canon.1 hb.canon.1)
  have hc3 : dcmp na sa.data.toList ea nb sb.data.toList eb = -1 ∨ dcmp na sa.data.toList ea nb sb.data.toList eb = 0 ∨ dcmp na sa.data.toList ea nb sb.data.toList eb = 1 := cmpZ_three _ _
  generalize dcmp na sa.data.toList ea nb sb.data.toList eb = c at *
  generalize near64 sa.data.toList ea = ra at *
  generalize near64 sb.data.toList eb = rb at *
  generalize near32 sa.data.toList ea = ua at *
  generalize near32 sb.data.toList eb = ub at *
  clear ha hb
  go_enter Tryd.func8, Tryd.ntmps8
  go_wp2_with fail
  refine (awake_w _).mono ?_
  rintro en w1 ⟨rfl, b1⟩
  have hx := ((Blk.new w 23 #[.bool na, .string sa, .int .i64 ea]).alloc (.cells #[.bool nb, .string sb, .int .i64 eb] 23))
  have HA1 := Lib.hid (hx.below b1 hx.lt)
  clear hx
  have hx := (Blk.new (w.alloc (.cells #[.bool na, .string sa, .int .i64 ea] 23)) 23 #[.bool nb, .string sb, .int .i64 eb])
  simp at hx
  have HC1 := Lib.hid (hx.below b1 hx.lt)
  clear hx
  have B1 := Lib.hid (bthen (((Below.refl _ w).alloc (Nat.le_refl _) (.cells #[.bool na, .string sa, .int .i64 ea] 23)).alloc (by simp) (.cells #[.bool nb, .string sb, .int .i64 eb] 23)) b1)
  have A_0 : w1.cell? ⟨w.heap.size, 0, none⟩ = some (.bool na) := HA1.out.cell 0
  have A_1 : w1.cell? ⟨w.heap.size, 1, none⟩ = some (.string sa) := HA1.out.cell 1
  have A_2 : w1.cell? ⟨w.heap.size, 2, none⟩ = some (.int .i64 ea) := HA1.out.cell 2
  have A_z : w.heap.size < w1.heap.size := HA1.out.lt
  have C_0 : w1.cell? ⟨(w.heap.size + 1), 0, none⟩ = some (.bool nb) := HC1.out.cell 0
  have C_1 : w1.cell? ⟨(w.heap.size + 1), 1, none⟩ = some (.string sb) := HC1.out.cell 1
  have C_2 : w1.cell? ⟨(w.heap.size + 1), 2, none⟩ = some (.int .i64 eb) := HC1.out.cell 2
  have C_z : (w.heap.size + 1) < w1.heap.size := HC1.out.lt
  clear b1
  go_wp2_with fail
  refine (HC.out _).mono ?_
  rintro en w2 ⟨rfl, b2⟩
  have hx := HA1.out
  have HA2 := Lib.hid (hx.below b2 hx.lt)
  clear hx
  have hx := HC1.out
  have HC2 := Lib.hid (hx.below b2 hx.lt)
  clear hx
  have B2 := Lib.hid (bthen B1.out b2)
  clear A_0 A_1 A_2 C_0 C_1 C_2 A_z C_z
  have A_0 : w2.cell? ⟨w.heap.size, 0, none⟩ = some (.bool na) := HA2.out.cell 0
  have A_1 : w2.cell? ⟨w.heap.size, 1, none⟩ = some (.string sa) := HA2.out.cell 1
  have A_2 : w2.cell? ⟨w.heap.size, 2, none⟩ = some (.int .i64 ea) := HA2.out.cell 2
  have A_z : w.heap.size < w2.heap.size := HA2.out.lt
  have C_0 : w2.cell? ⟨(w.heap.size + 1), 0, none⟩ = some (.bool nb) := HC2.out.cell 0
  have C_1 : w2.cell? ⟨(w.heap.size + 1), 1, none⟩ = some (.string sb) := HC2.out.cell 1
  have C_2 : w2.cell? ⟨(w.heap.size + 1), 2, none⟩ = some (.int .i64 eb) := HC2.out.cell 2
  have C_z : (w.heap.size + 1) < w2.heap.size := HC2.out.lt
  clear b2
  by_cases hA : ra = 9218868437227405312
  · subst hA
    go_wp2_with fail
    refine (HOA.out _).mono ?_
    rintro en w3 ⟨rfl, b3⟩
    have hx := HA2.out
    have HA3 := Lib.hid (hx.below b3 hx.lt)
    clear hx
    have hx := HC2.out
    have HC3 := Lib.hid (hx.below b3 hx.lt)
    clear hx
    have B3 := Lib.hid (bthen B2.out b3)
    clear A_0 A_1 A_2 C_0 C_1 C_2 A_z C_z
    have A_0 : w3.cell? ⟨w.heap.size, 0, none⟩ = some (.bool na) := HA3.out.cell 0
    have A_1 : w3.cell? ⟨w.heap.size, 1, none⟩ = some (.string sa) := HA3.out.cell 1
    have A_2 : w3.cell? ⟨w.heap.size, 2, none⟩ = some (.int .i64 ea) := HA3.out.cell 2
    have A_z : w.heap.size < w3.heap.size := HA3.out.lt
    have C_0 : w3.cell? ⟨(w.heap.size + 1), 0, none⟩ = some (.bool nb) := HC3.out.cell 0
    have C_1 : w3.cell? ⟨(w.heap.size + 1), 1, none⟩ = some (.string sb) := HC3.out.cell 1
    have C_2 : w3.cell? ⟨(w.heap.size + 1), 2, none⟩ = some (.int .i64 eb) := HC3.out.cell 2
    have C_z : (w.heap.size + 1) < w3.heap.size := HC3.out.lt
    clear b3
    rw [ofV_over]
    by_cases hB : rb = 9218868437227405312
    · subst hB
      go_wp2_with fail
      refine (HOB.out _).mono ?_
      rintro en w4 ⟨rfl, b4⟩
      have hx := HA3.out
      have HA4 := Lib.hid (hx.below b4 hx.lt)
      clear hx
      have hx := HC3.out
      have HC4 := Lib.hid (hx.below b4 hx.lt)
      clear hx
      have B4 := Lib.hid (bthen B3.out b4)
      clear A_0 A_1 A_2 C_0 C_1 C_2 A_z C_z
      have A_0 : w4.cell? ⟨w.heap.size, 0, none⟩ = some (.bool na) := HA4.out.cell 0
      have A_1 : w4.cell? ⟨w.heap.size, 1, none⟩ = some (.string sa) := HA4.out.cell 1
      have A_2 : w4.cell? ⟨w.heap.size, 2, none⟩ = some (.int .i64 ea) := HA4.out.cell 2
      have A_z : w.heap.size < w4.heap.size := HA4.out.lt
      have C_0 : w4.cell? ⟨(w.heap.size + 1), 0, none⟩ = some (.bool nb) := HC4.out.cell 0
      have C_1 : w4.cell? ⟨(w.heap.size + 1), 1, none⟩ = some (.string sb) := HC4.out.cell 1
      have C_2 : w4.cell? ⟨(w.heap.size + 1), 2, none⟩ = some (.int .i64 eb) := HC4.out.cell 2
      have C_z : (w.heap.size + 1) < w4.heap.size := HC4.out.lt
      clear b4
      rw [ofV_over]
      rcases hc3 with rfl | rfl | rfl
      · by_cases hUA : ua = 2139095040
        · subst hUA
          go_wp2_with fail
          refine (HSA.out _).mono ?_
          rintro en w5 ⟨rfl, b5⟩
          have hx := HA4.out
          have HA5 := Lib.hid (hx.below b5 hx.lt)
          clear hx
          have hx := HC4.out
          have HC5 := Lib.hid (hx.below b5 hx.lt)
          clear hx
          have B5 := Lib.hid (bthen B4.out b5)
          clear A_0 A_1 A_2 C_0 C_1 C_2 A_z C_z
          have A_0 : w5.cell? ⟨w.heap.size, 0, none⟩ = some (.bool na) := HA5.out.cell 0
          have A_1 : w5.cell? ⟨w.heap.size, 1, none⟩ = some (.string sa) := HA5.out.cell 1
          have A_2 : w5.cell? ⟨w.heap.size, 2, none⟩ = some (.int .i64 ea) := HA5.out.cell 2
          have A_z : w.heap.size < w5.heap.size := HA5.out.lt
          have C_0 : w5.cell? ⟨(w.heap.size + 1), 0, none⟩ = some (.bool nb) := HC5.out.cell 0
          have C_1 : w5.cell? ⟨(w.heap.size + 1), 1, none⟩ = some (.string sb) := HC5.out.cell 1
          have C_2 : w5.cell? ⟨(w.heap.size + 1), 2, none⟩ = some (.int .i64 eb) := HC5.out.cell 2
          have C_z : (w.heap.size + 1) < w5.heap.size := HC5.out.lt
          clear b5
          rw [ofV32_over]
          by_cases hUB : ub = 2139095040
          · subst hUB
            go_wp2_with fail
            refine (HSB.out _).mono ?_
            rintro en w6 ⟨rfl, b6⟩
            have hx := HA5.out
            have HA6 := Lib.hid (hx.below b6 hx.lt)
            clear hx
            have hx := HC5.out
            have HC6 := Lib.hid (hx.below b6 hx.lt)
            clear hx
            have B6 := Lib.hid (bthen B5.out b6)
            clear A_0 A_1 A_2 C_0 C_1 C_2 A_z C_z
            have A_0 : w6.cell? ⟨w.heap.size, 0, none⟩ = some (.bool na) := HA6.out.cell 0
            have A_1 : w6.cell? ⟨w.heap.size, 1, none⟩ = some (.string sa) := HA6.out.cell 1
            have A_2 : w6.cell? ⟨w.heap.size, 2, none⟩ = some (.int .i64 ea) := HA6.out.cell 2
            have A_z : w.heap.size < w6.heap.size := HA6.out.lt
            have C_0 : w6.cell? ⟨(w.heap.size + 1), 0, none⟩ = some (.bool nb) := HC6.out.cell 0
            have C_1 : w6.cell? ⟨(w.heap.size + 1), 1, none⟩ = some (.string sb) := HC6.out.cell 1
            have C_2 : w6.cell? ⟨(w.heap.size + 1), 2, none⟩ = some (.int .i64 eb) := HC6.out.cell 2
            have C_z : (w.heap.size + 1) < w6.heap.size := HC6.out.lt
            clear b6
            rw [ofV32_over]
            go_wp2_with fail
            go_ret
            exact ⟨rfl, B6.out⟩
          · go_wp2_with fail
            refine (HSB.out _).mono ?_
            rintro en w6 ⟨rfl, b6⟩
            have hx := HA5.out
            have HA6 := Lib.hid (hx.below b6 hx.lt)
            clear hx
            have hx := HC5.out
            have HC6 := Lib.hid (hx.below b6 hx.lt)
            clear hx
            have B6 := Lib.hid (bthen B5.out b6)
            clear A_0 A_1 A_2 C_0 C_1 C_2 A_z C_z
            have A_0 : w6.cell? ⟨w.heap.size, 0, none⟩ = some (.bool na) := HA6.out.cell 0
            have A_1 : w6.cell? ⟨w.heap.size, 1, none⟩ = some (.string sa) := HA6.out.cell 1
            have A_2 : w6.cell? ⟨w.heap.size, 2, none⟩ = some (.int .i64 ea) := HA6.out.cell 2
            have A_z : w.heap.size < w6.heap.size := HA6.out.lt
            have C_0 : w6.cell? ⟨(w.heap.size + 1), 0, none⟩ = some (.bool nb) := HC6.out.cell 0
            have C_1 : w6.cell? ⟨(w.heap.size + 1), 1, none⟩ = some (.string sb) := HC6.out.cell 1
            have C_2 : w6.cell? ⟨(w.heap.size + 1), 2, none⟩ = some (.int .i64 eb) := HC6.out.cell 2
            have C_z : (w.heap.size + 1) < w6.heap.size := HC6.out.lt
            clear b6
            rw [ofV32_ok hUB]
            clear hUB
            go_wp2_with fail
            go_ret
            exact ⟨rfl, B6.out⟩
        · go_wp2_with fail
          refine (HSA.out _).mono ?_
          rintro en w5 ⟨rfl, b5⟩
          have hx := HA4.out
          have HA5 := Lib.hid (hx.below b5 hx.lt)
          clear hx
          have hx := HC4.out
          have HC5 := Lib.hid (hx.below b5 hx.lt)
          clear hx
          have B5 := Lib.hid (bthen B4.out b5)
          clear A_0 A_1 A_2 C_0 C_1 C_2 A_z C_z
          have A_0 : w5.cell? ⟨w.heap.size, 0, none⟩ = some (.bool na) := HA5.out.cell 0
          have A_1 : w5.cell? ⟨w.heap.size, 1, none⟩ = some (.string sa) := HA5.out.cell 1
          have A_2 : w5.cell? ⟨w.heap.size, 2, none⟩ = some (.int .i64 ea) := HA5.out.cell 2
          have A_z : w.heap.size < w5.heap.size := HA5.out.lt
          have C_0 : w5.cell? ⟨(w.heap.size + 1), 0, none⟩ = some (.bool nb) := HC5.out.cell 0
          have C_1 : w5.cell? ⟨(w.heap.size + 1), 1, none⟩ = some (.string sb) := HC5.out.cell 1
          have C_2 : w5.cell? ⟨(w.heap.size + 1), 2, none⟩ = some (.int .i64 eb) := HC5.out.cell 2
          have C_z : (w.heap.size + 1) < w5.heap.size := HC5.out.lt
          clear b5
          rw [ofV32_ok hUA]
          have HUA := Lib.hid hUA
          clear hUA
          by_cases hUB : ub = 2139095040
          · subst hUB
            go_wp2_with fail
            refine (HSB.out _).mono ?_
            rintro en w6 ⟨rfl, b6⟩
            have hx := HA5.out
            have HA6 := Lib.hid (hx.below b6 hx.lt)
            clear hx
            have hx := HC5.out
            have HC6 := Lib.hid (hx.below b6 hx.lt)
            clear hx
            have B6 := Lib.hid (bthen B5.out b6)
            clear A_0 A_1 A_2 C_0 C_1 C_2 A_z C_z
            have A_0 : w6.cell? ⟨w.heap.size, 0, none⟩ = some (.bool na) := HA6.out.cell 0
            have A_1 : w6.cell? ⟨w.heap.size, 1, none⟩ = some (.string sa) := HA6.out.cell 1
            have A_2 : w6.cell? ⟨w.heap.size, 2, none⟩ = some (.int .i64 ea) := HA6.out.cell 2
            have A_z : w.heap.size < w6.heap.size := HA6.out.lt
            have C_0 : w6.cell? ⟨(w.heap.size + 1), 0, none⟩ = some (.bool nb) := HC6.out.cell 0
            have C_1 : w6.cell? ⟨(w.heap.size + 1), 1, none⟩ = some (.string sb) := HC6.out.cell 1
            have C_2 : w6.cell? ⟨(w.heap.size + 1), 2, none⟩ = some (.int .i64 eb) := HC6.out.cell 2
            have C_z : (w.heap.size + 1) < w6.heap.size := HC6.out.lt
            clear b6
            rw [ofV32_over]
            go_wp2_with fail
            go_ret
            exact ⟨rfl, B6.out⟩
          · go_wp2_with fail
            refine (HSB.out _).mono ?_
            rintro en w6 ⟨rfl, b6⟩
            have hx := HA5.out
            have HA6 := Lib.hid (hx.below b6 hx.lt)
            clear hx
            have hx := HC5.out
            have HC6 := Lib.hid (hx.below b6 hx.lt)
            clear hx
            have B6 := Lib.hid (bthen B5.out b6)
            clear A_0 A_1 A_2 C_0 C_1 C_2 A_z C_z
            have A_0 : w6.cell? ⟨w.heap.size, 0, none⟩ = some (.bool na) := HA6.out.cell 0
            have A_1 : w6.cell? ⟨w.heap.size, 1, none⟩ = some (.string sa) := HA6.out.cell 1
            have A_2 : w6.cell? ⟨w.heap.size, 2, none⟩ = some (.int .i64 ea) := HA6.out.cell 2
            have A_z : w.heap.size < w6.heap.size := HA6.out.lt
            have C_0 : w6.cell? ⟨(w.heap.size + 1), 0, none⟩ = some (.bool nb) := HC6.out.cell 0
            have C_1 : w6.cell? ⟨(w.heap.size + 1), 1, none⟩ = some (.string sb) := HC6.out.cell 1
            have C_2 : w6.cell? ⟨(w.heap.size + 1), 2, none⟩ = some (.int .i64 eb) := HC6.out.cell 2
            have C_z : (w.heap.size + 1) < w6.heap.size := HC6.out.lt
            clear b6
            rw [ofV32_ok hUB]
            have hua : ua < single.infRung := by rw [sgl_inf]; have := HS.out.la; have := HUA.out; omega
            have hub : ub < single.infRung := by rw [sgl_inf]; have := HS.out.lb; omega
            have og := not_gt32 hua hub (HS.out.le (by decide))
            clear hUB
            go_wp2_with fail
            go_ret
            exact ⟨rfl, B6.out⟩
      · by_cases hUA : ua = 2139095040
        · subst hUA
          go_wp2_with fail
          refine (HSA.out _).mono ?_
          rintro en w5 ⟨rfl, b5⟩
          have hx := HA4.out
          have HA5 := Lib.hid (hx.below b5 hx.lt)
          clear hx
          have hx := HC4.out
          have HC5 := Lib.hid (hx.below b5 hx.lt)
          clear hx
          have B5 := Lib.hid (bthen B4.out b5)
          clear A_0 A_1 A_2 C_0 C_1 C_2 A_z C_z
          have A_0 : w5.cell? ⟨w.heap.size, 0, none⟩ = some (.bool na) := HA5.out.cell 0
          have A_1 : w5.cell? ⟨w.heap.size, 1, none⟩ = some (.string sa) := HA5.out.cell 1
          have A_2 : w5.cell? ⟨w.heap.size, 2, none⟩ = some (.int .i64 ea) := HA5.out.cell 2
          have A_z : w.heap.size < w5.heap.size := HA5.out.lt
          have C_0 : w5.cell? ⟨(w.heap.size + 1), 0, none⟩ = some (.bool nb) := HC5.out.cell 0
          have C_1 : w5.cell? ⟨(w.heap.size + 1), 1, none⟩ = some (.string sb) := HC5.out.cell 1
          have C_2 : w5.cell? ⟨(w.heap.size + 1), 2, none⟩ = some (.int .i64 eb) := HC5.out.cell 2
          have C_z : (w.heap.size + 1) < w5.heap.size := HC5.out.lt
          clear b5
          rw [ofV32_over]
          by_cases hUB : ub = 2139095040
          · subst hUB
            go_wp2_with fail
            refine (HSB.out _).mono ?_
            rintro en w6 ⟨rfl, b6⟩
            have hx := HA5.out
            have HA6 := Lib.hid (hx.below b6 hx.lt)
            clear hx
            have hx := HC5.out
            have HC6 := Lib.hid (hx.below b6 hx.lt)
            clear hx
            have B6 := Lib.hid (bthen B5.out b6)
            clear A_0 A_1 A_2 C_0 C_1 C_2 A_z C_z
            have A_0 : w6.cell? ⟨w.heap.size, 0, none⟩ = some (.bool na) := HA6.out.cell 0
            have A_1 : w6.cell? ⟨w.heap.size, 1, none⟩ = some (.string sa) := HA6.out.cell 1
            have A_2 : w6.cell? ⟨w.heap.size, 2, none⟩ = some (.int .i64 ea) := HA6.out.cell 2
            have A_z : w.heap.size < w6.heap.size := HA6.out.lt
            have C_0 : w6.cell? ⟨(w.heap.size + 1), 0, none⟩ = some (.bool nb) := HC6.out.cell 0
            have C_1 : w6.cell? ⟨(w.heap.size + 1), 1, none⟩ = some (.string sb) := HC6.out.cell 1
            have C_2 : w6.cell? ⟨(w.heap.size + 1), 2, none⟩ = some (.int .i64 eb) := HC6.out.cell 2
            have C_z : (w.heap.size + 1) < w6.heap.size := HC6.out.lt
            clear b6
            rw [ofV32_over]
            go_wp2_with fail
            go_ret
            exact ⟨rfl, B6.out⟩
          · go_wp2_with fail
            refine (HSB.out _).mono ?_
            rintro en w6 ⟨rfl, b6⟩
            have hx := HA5.out
            have HA6 := Lib.hid (hx.below b6 hx.lt)
            clear hx
            have hx := HC5.out
            have HC6 := Lib.hid (hx.below b6 hx.lt)
            clear hx
            have B6 := Lib.hid (bthen B5.out b6)
            clear A_0 A_1 A_2 C_0 C_1 C_2 A_z C_z
            have A_0 : w6.cell? ⟨w.heap.size, 0, none⟩ = some (.bool na) := HA6.out.cell 0
            have A_1 : w6.cell? ⟨w.heap.size, 1, none⟩ = some (.string sa) := HA6.out.cell 1
            have A_2 : w6.cell? ⟨w.heap.size, 2, none⟩ = some (.int .i64 ea) := HA6.out.cell 2
            have A_z : w.heap.size < w6.heap.size := HA6.out.lt
            have C_0 : w6.cell? ⟨(w.heap.size + 1), 0, none⟩ = some (.bool nb) := HC6.out.cell 0
            have C_1 : w6.cell? ⟨(w.heap.size + 1), 1, none⟩ = some (.string sb) := HC6.out.cell 1
            have C_2 : w6.cell? ⟨(w.heap.size + 1), 2, none⟩ = some (.int .i64 eb) := HC6.out.cell 2
            have C_z : (w.heap.size + 1) < w6.heap.size := HC6.out.lt
            clear b6
            rw [ofV32_ok hUB]
            clear hUB
            go_wp2_with fail
            go_ret
            exact ⟨rfl, B6.out⟩
        · go_wp2_with fail
          refine (HSA.out _).mono ?_
          rintro en w5 ⟨rfl, b5⟩
          have hx := HA4.out
          have HA5 := Lib.hid (hx.below b5 hx.lt)
          clear hx
          have hx := HC4.out
          have HC5 := Lib.hid (hx.below b5 hx.lt)
          clear hx
          have B5 := Lib.hid (bthen B4.out b5)
          clear A_0 A_1 A_2 C_0 C_1 C_2 A_z C_z
          have A_0 : w5.cell? ⟨w.heap.size, 0, none⟩ = some (.bool na) := HA5.out.cell 0
          have A_1 : w5.cell? ⟨w.heap.size, 1, none⟩ = some (.string sa) := HA5.out.cell 1
          have A_2 : w5.cell? ⟨w.heap.size, 2, none⟩ = some (.int .i64 ea) := HA5.out.cell 2
          have A_z : w.heap.size < w5.heap.size := HA5.out.lt
          have C_0 : w5.cell? ⟨(w.heap.size + 1), 0, none⟩ = some (.bool nb) := HC5.out.cell 0
          have C_1 : w5.cell? ⟨(w.heap.size + 1), 1, none⟩ = some (.string sb) := HC5.out.cell 1
          have C_2 : w5.cell? ⟨(w.heap.size + 1), 2, none⟩ = some (.int .i64 eb) := HC5.out.cell 2
          have C_z : (w.heap.size + 1) < w5.heap.size := HC5.out.lt
          clear b5
          rw [ofV32_ok hUA]
          have HUA := Lib.hid hUA
          clear hUA
          by_cases hUB : ub = 2139095040
          · subst hUB
            go_wp2_with fail
            refine (HSB.out _).mono ?_
            rintro en w6 ⟨rfl, b6⟩
            have hx := HA5.out
            have HA6 := Lib.hid (hx.below b6 hx.lt)
            clear hx
            have hx := HC5.out
            have HC6 := Lib.hid (hx.below b6 hx.lt)
            clear hx
            have B6 := Lib.hid (bthen B5.out b6)
            clear A_0 A_1 A_2 C_0 C_1 C_2 A_z C_z
            have A_0 : w6.cell? ⟨w.heap.size, 0, none⟩ = some (.bool na) := HA6.out.cell 0
            have A_1 : w6.cell? ⟨w.heap.size, 1, none⟩ = some (.string sa) := HA6.out.cell 1
            have A_2 : w6.cell? ⟨w.heap.size, 2, none⟩ = some (.int .i64 ea) := HA6.out.cell 2
            have A_z : w.heap.size < w6.heap.size := HA6.out.lt
            have C_0 : w6.cell? ⟨(w.heap.size + 1), 0, none⟩ = some (.bool nb) := HC6.out.cell 0
            have C_1 : w6.cell? ⟨(w.heap.size + 1), 1, none⟩ = some (.string sb) := HC6.out.cell 1
            have C_2 : w6.cell? ⟨(w.heap.size + 1), 2, none⟩ = some (.int .i64 eb) := HC6.out.cell 2
            have C_z : (w.heap.size + 1) < w6.heap.size := HC6.out.lt
            clear b6
            rw [ofV32_over]
            go_wp2_with fail
            go_ret
            exact ⟨rfl, B6.out⟩
          · go_wp2_with fail
            refine (HSB.out _).mono ?_
            rintro en w6 ⟨rfl, b6⟩
            have hx := HA5.out
            have HA6 := Lib.hid (hx.below b6 hx.lt)
            clear hx
            have hx := HC5.out
            have HC6 := Lib.hid (hx.below b6 hx.lt)
            clear hx
            have B6 := Lib.hid (bthen B5.out b6)
            clear A_0 A_1 A_2 C_0 C_1 C_2 A_z C_z
            have A_0 : w6.cell? ⟨w.heap.size, 0, none⟩ = some (.bool na) := HA6.out.cell 0
            have A_1 : w6.cell? ⟨w.heap.size, 1, none⟩ = some (.string sa) := HA6.out.cell 1
            have A_2 : w6.cell? ⟨w.heap.size, 2, none⟩ = some (.int .i64 ea) := HA6.out.cell 2
            have A_z : w.heap.size < w6.heap.size := HA6.out.lt
            have C_0 : w6.cell? ⟨(w.heap.size + 1), 0, none⟩ = some (.bool nb) := HC6.out.cell 0
            have C_1 : w6.cell? ⟨(w.heap.size + 1), 1, none⟩ = some (.string sb) := HC6.out.cell 1
            have C_2 : w6.cell? ⟨(w.heap.size + 1), 2, none⟩ = some (.int .i64 eb) := HC6.out.cell 2
            have C_z : (w.heap.size + 1) < w6.heap.size := HC6.out.lt
            clear b6
            rw [ofV32_ok hUB]
            have hua : ua < single.infRung := by rw [sgl_inf]; have := HS.out.la; have := HUA.out; omega
            have hub : ub < single.infRung := by rw [sgl_inf]; have := HS.out.lb; omega
            have og := not_gt32 hua hub (HS.out.le (by decide))
            have ol := not_lt32 hua hub (HS.out.ge (by decide))
            clear hUB
            go_wp2_with fail
            go_ret
            exact ⟨rfl, B6.out⟩
      · by_cases hUA : ua = 2139095040
        · subst hUA
          go_wp2_with fail
          refine (HSA.out _).mono ?_
          rintro en w5 ⟨rfl, b5⟩
          have hx := HA4.out
          have HA5 := Lib.hid (hx.below b5 hx.lt)
          clear hx
          have hx := HC4.out
          have HC5 := Lib.hid (hx.below b5 hx.lt)
          clear hx
          have B5 := Lib.hid (bthen B4.out b5)
          clear A_0 A_1 A_2 C_0 C_1 C_2 A_z C_z
          have A_0 : w5.cell? ⟨w.heap.size, 0, none⟩ = some (.bool na) := HA5.out.cell 0
          have A_1 : w5.cell? ⟨w.heap.size, 1, none⟩ = some (.string sa) := HA5.out.cell 1
          have A_2 : w5.cell? ⟨w.heap.size, 2, none⟩ = some (.int .i64 ea) := HA5.out.cell 2
          have A_z : w.heap.size < w5.heap.size := HA5.out.lt
          have C_0 : w5.cell? ⟨(w.heap.size + 1), 0, none⟩ = some (.bool nb) := HC5.out.cell 0
          have C_1 : w5.cell? ⟨(w.heap.size + 1), 1, none⟩ = some (.string sb) := HC5.out.cell 1
          have C_2 : w5.cell? ⟨(w.heap.size + 1), 2, none⟩ = some (.int .i64 eb) := HC5.out.cell 2
          have C_z : (w.heap.size + 1) < w5.heap.size := HC5.out.lt
          clear b5
          rw [ofV32_over]
          by_cases hUB : ub = 2139095040
          · subst hUB
            go_wp2_with fail
            refine (HSB.out _).mono ?_
            rintro en w6 ⟨rfl, b6⟩
            have hx := HA5.out
            have HA6 := Lib.hid (hx.below b6 hx.lt)
            clear hx
            have hx := HC5.out
            have HC6 := Lib.hid (hx.below b6 hx.lt)
            clear hx
            have B6 := Lib.hid (bthen B5.out b6)
            clear A_0 A_1 A_2 C_0 C_1 C_2 A_z C_z
            have A_0 : w6.cell? ⟨w.heap.size, 0, none⟩ = some (.bool na) := HA6.out.cell 0
            have A_1 : w6.cell? ⟨w.heap.size, 1, none⟩ = some (.string sa) := HA6.out.cell 1
            have A_2 : w6.cell? ⟨w.heap.size, 2, none⟩ = some (.int .i64 ea) := HA6.out.cell 2
            have A_z : w.heap.size < w6.heap.size := HA6.out.lt
            have C_0 : w6.cell? ⟨(w.heap.size + 1), 0, none⟩ = some (.bool nb) := HC6.out.cell 0
            have C_1 : w6.cell? ⟨(w.heap.size + 1), 1, none⟩ = some (.string sb) := HC6.out.cell 1
            have C_2 : w6.cell? ⟨(w.heap.size + 1), 2, none⟩ = some (.int .i64 eb) := HC6.out.cell 2
            have C_z : (w.heap.size + 1) < w6.heap.size := HC6.out.lt
            clear b6
            rw [ofV32_over]
            go_wp2_with fail
            go_ret
            exact ⟨rfl, B6.out⟩
          · go_wp2_with fail
            refine (HSB.out _).mono ?_
            rintro en w6 ⟨rfl, b6⟩
            have hx := HA5.out
            have HA6 := Lib.hid (hx.below b6 hx.lt)
            clear hx
            have hx := HC5.out
            have HC6 := Lib.hid (hx.below b6 hx.lt)
            clear hx
            have B6 := Lib.hid (bthen B5.out b6)
            clear A_0 A_1 A_2 C_0 C_1 C_2 A_z C_z
            have A_0 : w6.cell? ⟨w.heap.size, 0, none⟩ = some (.bool na) := HA6.out.cell 0
            have A_1 : w6.cell? ⟨w.heap.size, 1, none⟩ = some (.string sa) := HA6.out.cell 1
            have A_2 : w6.cell? ⟨w.heap.size, 2, none⟩ = some (.int .i64 ea) := HA6.out.cell 2
            have A_z : w.heap.size < w6.heap.size := HA6.out.lt
            have C_0 : w6.cell? ⟨(w.heap.size + 1), 0, none⟩ = some (.bool nb) := HC6.out.cell 0
            have C_1 : w6.cell? ⟨(w.heap.size + 1), 1, none⟩ = some (.string sb) := HC6.out.cell 1
            have C_2 : w6.cell? ⟨(w.heap.size + 1), 2, none⟩ = some (.int .i64 eb) := HC6.out.cell 2
            have C_z : (w.heap.size + 1) < w6.heap.size := HC6.out.lt
            clear b6
            rw [ofV32_ok hUB]
            clear hUB
            go_wp2_with fail
            go_ret
            exact ⟨rfl, B6.out⟩
        · go_wp2_with fail
          refine (HSA.out _).mono ?_
          rintro en w5 ⟨rfl, b5⟩
          have hx := HA4.out
          have HA5 := Lib.hid (hx.below b5 hx.lt)
          clear hx
          have hx := HC4.out
          have HC5 := Lib.hid (hx.below b5 hx.lt)
          clear hx
          have B5 := Lib.hid (bthen B4.out b5)
          clear A_0 A_1 A_2 C_0 C_1 C_2 A_z C_z
          have A_0 : w5.cell? ⟨w.heap.size, 0, none⟩ = some (.bool na) := HA5.out.cell 0
          have A_1 : w5.cell? ⟨w.heap.size, 1, none⟩ = some (.string sa) := HA5.out.cell 1
          have A_2 : w5.cell? ⟨w.heap.size, 2, none⟩ = some (.int .i64 ea) := HA5.out.cell 2
          have A_z : w.heap.size < w5.heap.size := HA5.out.lt
          have C_0 : w5.cell? ⟨(w.heap.size + 1), 0, none⟩ = some (.bool nb) := HC5.out.cell 0
          have C_1 : w5.cell? ⟨(w.heap.size + 1), 1, none⟩ = some (.string sb) := HC5.out.cell 1
          have C_2 : w5.cell? ⟨(w.heap.size + 1), 2, none⟩ = some (.int .i64 eb) := HC5.out.cell 2
          have C_z : (w.heap.size + 1) < w5.heap.size := HC5.out.lt
          clear b5
          rw [ofV32_ok hUA]
          have HUA := Lib.hid hUA
          clear hUA
          by_cases hUB : ub = 2139095040
          · subst hUB
            go_wp2_with fail
            refine (HSB.out _).mono ?_
            rintro en w6 ⟨rfl, b6⟩
            have hx := HA5.out
            have HA6 := Lib.hid (hx.below b6 hx.lt)
            clear hx
            have hx := HC5.out
            have HC6 := Lib.hid (hx.below b6 hx.lt)
            clear hx
            have B6 := Lib.hid (bthen B5.out b6)
            clear A_0 A_1 A_2 C_0 C_1 C_2 A_z C_z
            have A_0 : w6.cell? ⟨w.heap.size, 0, none⟩ = some (.bool na) := HA6.out.cell 0
            have A_1 : w6.cell? ⟨w.heap.size, 1, none⟩ = some (.string sa) := HA6.out.cell 1
            have A_2 : w6.cell? ⟨w.heap.size, 2, none⟩ = some (.int .i64 ea) := HA6.out.cell 2
            have A_z : w.heap.size < w6.heap.size := HA6.out.lt
            have C_0 : w6.cell? ⟨(w.heap.size + 1), 0, none⟩ = some (.bool nb) := HC6.out.cell 0
            have C_1 : w6.cell? ⟨(w.heap.size + 1), 1, none⟩ = some (.string sb) := HC6.out.cell 1
            have C_2 : w6.cell? ⟨(w.heap.size + 1), 2, none⟩ = some (.int .i64 eb) := HC6.out.cell 2
            have C_z : (w.heap.size + 1) < w6.heap.size := HC6.out.lt
            clear b6
            rw [ofV32_over]
            go_wp2_with fail
            go_ret
            exact ⟨rfl, B6.out⟩
          · go_wp2_with fail
            refine (HSB.out _).mono ?_
            rintro en w6 ⟨rfl, b6⟩
            have hx := HA5.out
            have HA6 := Lib.hid (hx.below b6 hx.lt)
            clear hx
            have hx := HC5.out
            have HC6 := Lib.hid (hx.below b6 hx.lt)
            clear hx
            have B6 := Lib.hid (bthen B5.out b6)
            clear A_0 A_1 A_2 C_0 C_1 C_2 A_z C_z
            have A_0 : w6.cell? ⟨w.heap.size, 0, none⟩ = some (.bool na) := HA6.out.cell 0
            have A_1 : w6.cell? ⟨w.heap.size, 1, none⟩ = some (.string sa) := HA6.out.cell 1
            have A_2 : w6.cell? ⟨w.heap.size, 2, none⟩ = some (.int .i64 ea) := HA6.out.cell 2
            have A_z : w.heap.size < w6.heap.size := HA6.out.lt
            have C_0 : w6.cell? ⟨(w.heap.size + 1), 0, none⟩ = some (.bool nb) := HC6.out.cell 0
            have C_1 : w6.cell? ⟨(w.heap.size + 1), 1, none⟩ = some (.string sb) := HC6.out.cell 1
            have C_2 : w6.cell? ⟨(w.heap.size + 1), 2, none⟩ = some (.int .i64 eb) := HC6.out.cell 2
            have C_z : (w.heap.size + 1) < w6.heap.size := HC6.out.lt
            clear b6
            rw [ofV32_ok hUB]
            have hua : ua < single.infRung := by rw [sgl_inf]; have := HS.out.la; have := HUA.out; omega
            have hub : ub < single.infRung := by rw [sgl_inf]; have := HS.out.lb; omega
            have ol := not_lt32 hua hub (HS.out.ge (by decide))
            clear hUB
            go_wp2_with fail
            go_ret
            exact ⟨rfl, B6.out⟩
    · go_wp2_with fail
      refine (HOB.out _).mono ?_
      rintro en w4 ⟨rfl, b4⟩
      have hx := HA3.out
      have HA4 := Lib.hid (hx.below b4 hx.lt)
      clear hx
      have hx := HC3.out
      have HC4 := Lib.hid (hx.below b4 hx.lt)
      clear hx
      have B4 := Lib.hid (bthen B3.out b4)
      clear A_0 A_1 A_2 C_0 C_1 C_2 A_z C_z
      have A_0 : w4.cell? ⟨w.heap.size, 0, none⟩ = some (.bool na) := HA4.out.cell 0
      have A_1 : w4.cell? ⟨w.heap.size, 1, none⟩ = some (.string sa) := HA4.out.cell 1
      have A_2 : w4.cell? ⟨w.heap.size, 2, none⟩ = some (.int .i64 ea) := HA4.out.cell 2
      have A_z : w.heap.size < w4.heap.size := HA4.out.lt
      have C_0 : w4.cell? ⟨(w.heap.size + 1), 0, none⟩ = some (.bool nb) := HC4.out.cell 0
      have C_1 : w4.cell? ⟨(w.heap.size + 1), 1, none⟩ = some (.string sb) := HC4.out.cell 1
      have C_2 : w4.cell? ⟨(w.heap.size + 1), 2, none⟩ = some (.int .i64 eb) := HC4.out.cell 2
      have C_z : (w.heap.size + 1) < w4.heap.size := HC4.out.lt
      clear b4
      rw [ofV_ok hB]
      have hov := HR.out.over_ rfl hB (by decide)
      clear hB
      rcases hov with ⟨hc, rfl⟩ | ⟨hc, rfl⟩
      · obtain rfl : c = -1 := by omega
        clear hc hc3
        by_cases hUA : ua = 2139095040
        · subst hUA
          go_wp2_with fail
          refine (HSA.out _).mono ?_
          rintro en w5 ⟨rfl, b5⟩
          have hx := HA4.out
          have HA5 := Lib.hid (hx.below b5 hx.lt)
          clear hx
          have hx := HC4.out
          have HC5 := Lib.hid (hx.below b5 hx.lt)
          clear hx
          have B5 := Lib.hid (bthen B4.out b5)
          clear A_0 A_1 A_2 C_0 C_1 C_2 A_z C_z
          have A_0 : w5.cell? ⟨w.heap.size, 0, none⟩ = some (.bool true) := HA5.out.cell 0
          have A_1 : w5.cell? ⟨w.heap.size, 1, none⟩ = some (.string sa) := HA5.out.cell 1
          have A_2 : w5.cell? ⟨w.heap.size, 2, none⟩ = some (.int .i64 ea) := HA5.out.cell 2
          have A_z : w.heap.size < w5.heap.size := HA5.out.lt
          have C_0 : w5.cell? ⟨(w.heap.size + 1), 0, none⟩ = some (.bool nb) := HC5.out.cell 0
          have C_1 : w5.cell? ⟨(w.heap.size + 1), 1, none⟩ = some (.string sb) := HC5.out.cell 1
          have C_2 : w5.cell? ⟨(w.heap.size + 1), 2, none⟩ = some (.int .i64 eb) := HC5.out.cell 2
          have C_z : (w.heap.size + 1) < w5.heap.size := HC5.out.lt
          clear b5
          rw [ofV32_over]
          by_cases hUB : ub = 2139095040
          · subst hUB
            go_wp2_with fail
            refine (HSB.out _).mono ?_
            rintro en w6 ⟨rfl, b6⟩
            have hx := HA5.out
            have HA6 := Lib.hid (hx.below b6 hx.lt)
            clear hx
            have hx := HC5.out
            have HC6 := Lib.hid (hx.below b6 hx.lt)
            clear hx
            have B6 := Lib.hid (bthen B5.out b6)
            clear A_0 A_1 A_2 C_0 C_1 C_2 A_z C_z
            have A_0 : w6.cell? ⟨w.heap.size, 0, none⟩ = some (.bool true) := HA6.out.cell 0
            have A_1 : w6.cell? ⟨w.heap.size, 1, none⟩ = some (.string sa) := HA6.out.cell 1
            have A_2 : w6.cell? ⟨w.heap.size, 2, none⟩ = some (.int .i64 ea) := HA6.out.cell 2
            have A_z : w.heap.size < w6.heap.size := HA6.out.lt
            have C_0 : w6.cell? ⟨(w.heap.size + 1), 0, none⟩ = some (.bool nb) := HC6.out.cell 0
            have C_1 : w6.cell? ⟨(w.heap.size + 1), 1, none⟩ = some (.string sb) := HC6.out.cell 1
            have C_2 : w6.cell? ⟨(w.heap.size + 1), 2, none⟩ = some (.int .i64 eb) := HC6.out.cell 2
            have C_z : (w.heap.size + 1) < w6.heap.size := HC6.out.lt
            clear b6
            rw [ofV32_over]
            go_wp2_with fail
            go_ret
            exact ⟨rfl, B6.out⟩
          · go_wp2_with fail
            refine (HSB.out _).mono ?_
            rintro en w6 ⟨rfl, b6⟩
            have hx := HA5.out
            have HA6 := Lib.hid (hx.below b6 hx.lt)
            clear hx
            have hx := HC5.out
            have HC6 := Lib.hid (hx.below b6 hx.lt)
            clear hx
            have B6 := Lib.hid (bthen B5.out b6)
            clear A_0 A_1 A_2 C_0 C_1 C_2 A_z C_z
            have A_0 : w6.cell? ⟨w.heap.size, 0, none⟩ = some (.bool true) := HA6.out.cell 0
            have A_1 : w6.cell? ⟨w.heap.size, 1, none⟩ = some (.string sa) := HA6.out.cell 1
            have A_2 : w6.cell? ⟨w.heap.size, 2, none⟩ = some (.int .i64 ea) := HA6.out.cell 2
            have A_z : w.heap.size < w6.heap.size := HA6.out.lt
            have C_0 : w6.cell? ⟨(w.heap.size + 1), 0, none⟩ = some (.bool nb) := HC6.out.cell 0
            have C_1 : w6.cell? ⟨(w.heap.size + 1), 1, none⟩ = some (.string sb) := HC6.out.cell 1
            have C_2 : w6.cell? ⟨(w.heap.size + 1), 2, none⟩ = some (.int .i64 eb) := HC6.out.cell 2
            have C_z : (w.heap.size + 1) < w6.heap.size := HC6.out.lt
            clear b6
            rw [ofV32_ok hUB]
            clear hUB
            go_wp2_with fail
            go_ret
            exact ⟨rfl, B6.out⟩
        · go_wp2_with fail
          refine (HSA.out _).mono ?_
          rintro en w5 ⟨rfl, b5⟩
          have hx := HA4.out
          have HA5 := Lib.hid (hx.below b5 hx.lt)
          clear hx
          have hx := HC4.out
          have HC5 := Lib.hid (hx.below b5 hx.lt)
          clear hx
          have B5 := Lib.hid (bthen B4.out b5)
          clear A_0 A_1 A_2 C_0 C_1 C_2 A_z C_z
          have A_0 : w5.cell? ⟨w.heap.size, 0, none⟩ = some (.bool true) := HA5.out.cell 0
          have A_1 : w5.cell? ⟨w.heap.size, 1, none⟩ = some (.string sa) := HA5.out.cell 1
          have A_2 : w5.cell? ⟨w.heap.size, 2, none⟩ = some (.int .i64 ea) := HA5.out.cell 2
          have A_z : w.heap.size < w5.heap.size := HA5.out.lt
          have C_0 : w5.cell? ⟨(w.heap.size + 1), 0, none⟩ = some (.bool nb) := HC5.out.cell 0
          have C_1 : w5.cell? ⟨(w.heap.size + 1), 1, none⟩ = some (.string sb) := HC5.out.cell 1
          have C_2 : w5.cell? ⟨(w.heap.size + 1), 2, none⟩ = some (.int .i64 eb) := HC5.out.cell 2
          have C_z : (w.heap.size + 1) < w5.heap.size := HC5.out.lt
          clear b5
          rw [ofV32_ok hUA]
          have HUA := Lib.hid hUA
          clear hUA
          by_cases hUB : ub = 2139095040
          · subst hUB
            go_wp2_with fail
            refine (HSB.out _).mono ?_
            rintro en w6 ⟨rfl, b6⟩
            have hx := HA5.out
            have HA6 := Lib.hid (hx.below b6 hx.lt)
            clear hx
            have hx := HC5.out
            have HC6 := Lib.hid (hx.below b6 hx.lt)
            clear hx
            have B6 := Lib.hid (bthen B5.out b6)
            clear A_0 A_1 A_2 C_0 C_1 C_2 A_z C_z
            have A_0 : w6.cell? ⟨w.heap.size, 0, none⟩ = some (.bool true) := HA6.out.cell 0
            have A_1 : w6.cell? ⟨w.heap.size, 1, none⟩ = some (.string sa) := HA6.out.cell 1
            have A_2 : w6.cell? ⟨w.heap.size, 2, none⟩ = some (.int .i64 ea) := HA6.out.cell 2
            have A_z : w.heap.size < w6.heap.size := HA6.out.lt
            have C_0 : w6.cell? ⟨(w.heap.size + 1), 0, none⟩ = some (.bool nb) := HC6.out.cell 0
            have C_1 : w6.cell? ⟨(w.heap.size + 1), 1, none⟩ = some (.string sb) := HC6.out.cell 1
            have C_2 : w6.cell? ⟨(w.heap.size + 1), 2, none⟩ = some (.int .i64 eb) := HC6.out.cell 2
            have C_z : (w.heap.size + 1) < w6.heap.size := HC6.out.lt
            clear b6
            rw [ofV32_over]
            go_wp2_with fail
            go_ret
            exact ⟨rfl, B6.out⟩
          · go_wp2_with fail
            refine (HSB.out _).mono ?_
            rintro en w6 ⟨rfl, b6⟩
            have hx := HA5.out
            have HA6 := Lib.hid (hx.below b6 hx.lt)
            clear hx
            have hx := HC5.out
            have HC6 := Lib.hid (hx.below b6 hx.lt)
            clear hx
            have B6 := Lib.hid (bthen B5.out b6)
            clear A_0 A_1 A_2 C_0 C_1 C_2 A_z C_z
            have A_0 : w6.cell? ⟨w.heap.size, 0, none⟩ = some (.bool true) := HA6.out.cell 0
            have A_1 : w6.cell? ⟨w.heap.size, 1, none⟩ = some (.string sa) := HA6.out.cell 1
            have A_2 : w6.cell? ⟨w.heap.size, 2, none⟩ = some (.int .i64 ea) := HA6.out.cell 2
            have A_z : w.heap.size < w6.heap.size := HA6.out.lt
            have C_0 : w6.cell? ⟨(w.heap.size + 1), 0, none⟩ = some (.bool nb) := HC6.out.cell 0
            have C_1 : w6.cell? ⟨(w.heap.size + 1), 1, none⟩ = some (.string sb) := HC6.out.cell 1
            have C_2 : w6.cell? ⟨(w.heap.size + 1), 2, none⟩ = some (.int .i64 eb) := HC6.out.cell 2
            have C_z : (w.heap.size + 1) < w6.heap.size := HC6.out.lt
            clear b6
            rw [ofV32_ok hUB]
            have hua : ua < single.infRung := by rw [sgl_inf]; have := HS.out.la; have := HUA.out; omega
            have hub : ub < single.infRung := by rw [sgl_inf]; have := HS.out.lb; omega
            have og := not_gt32 hua hub (HS.out.le (by decide))
            clear hUB
            go_wp2_with fail
            go_ret
            exact ⟨rfl, B6.out⟩
      · obtain rfl : c = 1 := by omega
        clear hc hc3
        by_cases hUA : ua = 2139095040
        · subst hUA
          go_wp2_with fail
          refine (HSA.out _).mono ?_
          rintro en w5 ⟨rfl, b5⟩
          have hx := HA4.out
          have HA5 := Lib.hid (hx.below b5 hx.lt)
          clear hx
          have hx := HC4.out
          have HC5 := Lib.hid (hx.below b5 hx.lt)
          clear hx
          have B5 := Lib.hid (bthen B4.out b5)
          clear A_0 A_1 A_2 C_0 C_1 C_2 A_z C_z
          have A_0 : w5.cell? ⟨w.heap.size, 0, none⟩ = some (.bool false) := HA5.out.cell 0
          have A_1 : w5.cell? ⟨w.heap.size, 1, none⟩ = some (.string sa) := HA5.out.cell 1
          have A_2 : w5.cell? ⟨w.heap.size, 2, none⟩ = some (.int .i64 ea) := HA5.out.cell 2
          have A_z : w.heap.size < w5.heap.size := HA5.out.lt
          have C_0 : w5.cell? ⟨(w.heap.size + 1), 0, none⟩ = some (.bool nb) := HC5.out.cell 0
          have C_1 : w5.cell? ⟨(w.heap.size + 1), 1, none⟩ = some (.string sb) := HC5.out.cell 1
          have C_2 : w5.cell? ⟨(w.heap.size + 1), 2, none⟩ = some (.int .i64 eb) := HC5.out.cell 2
          have C_z : (w.heap.size + 1) < w5.heap.size := HC5.out.lt
          clear b5
          rw [ofV32_over]
          by_cases hUB : ub = 2139095040
          · subst hUB
            go_wp2_with fail
            refine (HSB.out _).mono ?_
            rintro en w6 ⟨rfl, b6⟩
            have hx := HA5.out
            have HA6 := Lib.hid (hx.below b6 hx.lt)
            clear hx
            have hx := HC5.out
            have HC6 := Lib.hid (hx.below b6 hx.lt)
            clear hx
            have B6 := Lib.hid (bthen B5.out b6)
            clear A_0 A_1 A_2 C_0 C_1 C_2 A_z C_z
            have A_0 : w6.cell? ⟨w.heap.size, 0, none⟩ = some (.bool false) := HA6.out.cell 0
            have A_1 : w6.cell? ⟨w.heap.size, 1, none⟩ = some (.string sa) := HA6.out.cell 1
            have A_2 : w6.cell? ⟨w.heap.size, 2, none⟩ = some (.int .i64 ea) := HA6.out.cell 2
            have A_z : w.heap.size < w6.heap.size := HA6.out.lt
            have C_0 : w6.cell? ⟨(w.heap.size + 1), 0, none⟩ = some (.bool nb) := HC6.out.cell 0
            have C_1 : w6.cell? ⟨(w.heap.size + 1), 1, none⟩ = some (.string sb) := HC6.out.cell 1
            have C_2 : w6.cell? ⟨(w.heap.size + 1), 2, none⟩ = some (.int .i64 eb) := HC6.out.cell 2
            have C_z : (w.heap.size + 1) < w6.heap.size := HC6.out.lt
            clear b6
            rw [ofV32_over]
            go_wp2_with fail
            go_ret
            exact ⟨rfl, B6.out⟩
          · go_wp2_with fail
            refine (HSB.out _).mono ?_
            rintro en w6 ⟨rfl, b6⟩
            have hx := HA5.out
            have HA6 := Lib.hid (hx.below b6 hx.lt)
            clear hx
            have hx := HC5.out
            have HC6 := Lib.hid (hx.below b6 hx.lt)
            clear hx
            have B6 := Lib.hid (bthen B5.out b6)
            clear A_0 A_1 A_2 C_0 C_1 C_2 A_z C_z
            have A_0 : w6.cell? ⟨w.heap.size, 0, none⟩ = some (.bool false) := HA6.out.cell 0
            have A_1 : w6.cell? ⟨w.heap.size, 1, none⟩ = some (.string sa) := HA6.out.cell 1
            have A_2 : w6.cell? ⟨w.heap.size, 2, none⟩ = some (.int .i64 ea) := HA6.out.cell 2
            have A_z : w.heap.size < w6.heap.size := HA6.out.lt
            have C_0 : w6.cell? ⟨(w.heap.size + 1), 0, none⟩ = some (.bool nb) := HC6.out.cell 0
            have C_1 : w6.cell? ⟨(w.heap.size + 1), 1, none⟩ = some (.string sb) := HC6.out.cell 1
            have C_2 : w6.cell? ⟨(w.heap.size + 1), 2, none⟩ = some (.int .i64 eb) := HC6.out.cell 2
            have C_z : (w.heap.size + 1) < w6.heap.size := HC6.out.lt
            clear b6
            rw [ofV32_ok hUB]
            clear hUB
            go_wp2_with fail
            go_ret
            exact ⟨rfl, B6.out⟩
        · go_wp2_with fail
          refine (HSA.out _).mono ?_
          rintro en w5 ⟨rfl, b5⟩
          have hx := HA4.out
          have HA5 := Lib.hid (hx.below b5 hx.lt)
          clear hx
          have hx := HC4.out
          have HC5 := Lib.hid (hx.below b5 hx.lt)
          clear hx
          have B5 := Lib.hid (bthen B4.out b5)
          clear A_0 A_1 A_2 C_0 C_1 C_2 A_z C_z
          have A_0 : w5.cell? ⟨w.heap.size, 0, none⟩ = some (.bool false) := HA5.out.cell 0
          have A_1 : w5.cell? ⟨w.heap.size, 1, none⟩ = some (.string sa) := HA5.out.cell 1
          have A_2 : w5.cell? ⟨w.heap.size, 2, none⟩ = some (.int .i64 ea) := HA5.out.cell 2
          have A_z : w.heap.size < w5.heap.size := HA5.out.lt
          have C_0 : w5.cell? ⟨(w.heap.size + 1), 0, none⟩ = some (.bool nb) := HC5.out.cell 0
          have C_1 : w5.cell? ⟨(w.heap.size + 1), 1, none⟩ = some (.string sb) := HC5.out.cell 1
          have C_2 : w5.cell? ⟨(w.heap.size + 1), 2, none⟩ = some (.int .i64 eb) := HC5.out.cell 2
          have C_z : (w.heap.size + 1) < w5.heap.size := HC5.out.lt
          clear b5
          rw [ofV32_ok hUA]
          have HUA := Lib.hid hUA
          clear hUA
          by_cases hUB : ub = 2139095040
          · subst hUB
            go_wp2_with fail
            refine (HSB.out _).mono ?_
            rintro en w6 ⟨rfl, b6⟩
            have hx := HA5.out
            have HA6 := Lib.hid (hx.below b6 hx.lt)
            clear hx
            have hx := HC5.out
            have HC6 := Lib.hid (hx.below b6 hx.lt)
            clear hx
            have B6 := Lib.hid (bthen B5.out b6)
            clear A_0 A_1 A_2 C_0 C_1 C_2 A_z C_z
            have A_0 : w6.cell? ⟨w.heap.size, 0, none⟩ = some (.bool false) := HA6.out.cell 0
            have A_1 : w6.cell? ⟨w.heap.size, 1, none⟩ = some (.string sa) := HA6.out.cell 1
            have A_2 : w6.cell? ⟨w.heap.size, 2, none⟩ = some (.int .i64 ea) := HA6.out.cell 2
            have A_z : w.heap.size < w6.heap.size := HA6.out.lt
            have C_0 : w6.cell? ⟨(w.heap.size + 1), 0, none⟩ = some (.bool nb) := HC6.out.cell 0
            have C_1 : w6.cell? ⟨(w.heap.size + 1), 1, none⟩ = some (.string sb) := HC6.out.cell 1
            have C_2 : w6.cell? ⟨(w.heap.size + 1), 2, none⟩ = some (.int .i64 eb) := HC6.out.cell 2
            have C_z : (w.heap.size + 1) < w6.heap.size := HC6.out.lt
            clear b6
            rw [ofV32_over]
            go_wp2_with fail
            go_ret
            exact ⟨rfl, B6.out⟩
          · go_wp2_with fail
            refine (HSB.out _).mono ?_
            rintro en w6 ⟨rfl, b6⟩
            have hx := HA5.out
            have HA6 := Lib.hid (hx.below b6 hx.lt)
            clear hx
            have hx := HC5.out
            have HC6 := Lib.hid (hx.below b6 hx.lt)
            clear hx
            have B6 := Lib.hid (bthen B5.out b6)
            clear A_0 A_1 A_2 C_0 C_1 C_2 A_z C_z
            have A_0 : w6.cell? ⟨w.heap.size, 0, none⟩ = some (.bool false) := HA6.out.cell 0
            have A_1 : w6.cell? ⟨w.heap.size, 1, none⟩ = some (.string sa) := HA6.out.cell 1
            have A_2 : w6.cell? ⟨w.heap.size, 2, none⟩ = some (.int .i64 ea) := HA6.out.cell 2
            have A_z : w.heap.size < w6.heap.size := HA6.out.lt
            have C_0 : w6.cell? ⟨(w.heap.size + 1), 0, none⟩ = some (.bool nb) := HC6.out.cell 0
            have C_1 : w6.cell? ⟨(w.heap.size + 1), 1, none⟩ = some (.string sb) := HC6.out.cell 1
            have C_2 : w6.cell? ⟨(w.heap.size + 1), 2, none⟩ = some (.int .i64 eb) := HC6.out.cell 2
            have C_z : (w.heap.size + 1) < w6.heap.size := HC6.out.lt
            clear b6
            rw [ofV32_ok hUB]
            have hua : ua < single.infRung := by rw [sgl_inf]; have := HS.out.la; have := HUA.out; omega
            have hub : ub < single.infRung := by rw [sgl_inf]; have := HS.out.lb; omega
            have ol := not_lt32 hua hub (HS.out.ge (by decide))
            clear hUB
            go_wp2_with fail
            go_ret
            exact ⟨rfl, B6.out⟩
  · go_wp2_with fail
    refine (HOA.out _).mono ?_
    rintro en w3 ⟨rfl, b3⟩
    have hx := HA2.out
    have HA3 := Lib.hid (hx.below b3 hx.lt)
    clear hx
    have hx := HC2.out
    have HC3 := Lib.hid (hx.below b3 hx.lt)
    clear hx
    have B3 := Lib.hid (bthen B2.out b3)
    clear A_0 A_1 A_2 C_0 C_1 C_2 A_z C_z
    have A_0 : w3.cell? ⟨w.heap.size, 0, none⟩ = some (.bool na) := HA3.out.cell 0
    have A_1 : w3.cell? ⟨w.heap.size, 1, none⟩ = some (.string sa) := HA3.out.cell 1
    have A_2 : w3.cell? ⟨w.heap.size, 2, none⟩ = some (.int .i64 ea) := HA3.out.cell 2
    have A_z : w.heap.size < w3.heap.size := HA3.out.lt
    have C_0 : w3.cell? ⟨(w.heap.size + 1), 0, none⟩ = some (.bool nb) := HC3.out.cell 0
    have C_1 : w3.cell? ⟨(w.heap.size + 1), 1, none⟩ = some (.string sb) := HC3.out.cell 1
    have C_2 : w3.cell? ⟨(w.heap.size + 1), 2, none⟩ = some (.int .i64 eb) := HC3.out.cell 2
    have C_z : (w.heap.size + 1) < w3.heap.size := HC3.out.lt
    clear b3
    rw [ofV_ok hA]
    have HA := Lib.hid hA
    clear hA
    by_cases hB : rb = 9218868437227405312
    · subst hB
      go_wp2_with fail
      refine (HOB.out _).mono ?_
      rintro en w4 ⟨rfl, b4⟩
      have hx := HA3.out
      have HA4 := Lib.hid (hx.below b4 hx.lt)
      clear hx
      have hx := HC3.out
      have HC4 := Lib.hid (hx.below b4 hx.lt)
      clear hx
      have B4 := Lib.hid (bthen B3.out b4)
      clear A_0 A_1 A_2 C_0 C_1 C_2 A_z C_z
      have A_0 : w4.cell? ⟨w.heap.size, 0, none⟩ = some (.bool na) := HA4.out.cell 0
      have A_1 : w4.cell? ⟨w.heap.size, 1, none⟩ = some (.string sa) := HA4.out.cell 1
      have A_2 : w4.cell? ⟨w.heap.size, 2, none⟩ = some (.int .i64 ea) := HA4.out.cell 2
      have A_z : w.heap.size < w4.heap.size := HA4.out.lt
      have C_0 : w4.cell? ⟨(w.heap.size + 1), 0, none⟩ = some (.bool nb) := HC4.out.cell 0
      have C_1 : w4.cell? ⟨(w.heap.size + 1), 1, none⟩ = some (.string sb) := HC4.out.cell 1
      have C_2 : w4.cell? ⟨(w.heap.size + 1), 2, none⟩ = some (.int .i64 eb) := HC4.out.cell 2
      have C_z : (w.heap.size + 1) < w4.heap.size := HC4.out.lt
      clear b4
      rw [ofV_over]
      rcases hc3 with rfl | rfl | rfl
      · by_cases hUA : ua = 2139095040
        · subst hUA
          go_wp2_with fail
          refine (HSA.out _).mono ?_
          rintro en w5 ⟨rfl, b5⟩
          have hx := HA4.out
          have HA5 := Lib.hid (hx.below b5 hx.lt)
          clear hx
          have hx := HC4.out
          have HC5 := Lib.hid (hx.below b5 hx.lt)
          clear hx
          have B5 := Lib.hid (bthen B4.out b5)
          clear A_0 A_1 A_2 C_0 C_1 C_2 A_z C_z
          have A_0 : w5.cell? ⟨w.heap.size, 0, none⟩ = some (.bool na) := HA5.out.cell 0
          have A_1 : w5.cell? ⟨w.heap.size, 1, none⟩ = some (.string sa) := HA5.out.cell 1
          have A_2 : w5.cell? ⟨w.heap.size, 2, none⟩ = some (.int .i64 ea) := HA5.out.cell 2
          have A_z : w.heap.size < w5.heap.size := HA5.out.lt
          have C_0 : w5.cell? ⟨(w.heap.size + 1), 0, none⟩ = some (.bool nb) := HC5.out.cell 0
          have C_1 : w5.cell? ⟨(w.heap.size + 1), 1, none⟩ = some (.string sb) := HC5.out.cell 1
          have C_2 : w5.cell? ⟨(w.heap.size + 1), 2, none⟩ = some (.int .i64 eb) := HC5.out.cell 2
          have C_z : (w.heap.size + 1) < w5.heap.size := HC5.out.lt
          clear b5
          rw [ofV32_over]
          by_cases hUB : ub = 2139095040
          · subst hUB
            go_wp2_with fail
            refine (HSB.out _).mono ?_
            rintro en w6 ⟨rfl, b6⟩
            have hx := HA5.out
            have HA6 := Lib.hid (hx.below b6 hx.lt)
            clear hx
            have hx := HC5.out
            have HC6 := Lib.hid (hx.below b6 hx.lt)
            clear hx
            have B6 := Lib.hid (bthen B5.out b6)
            clear A_0 A_1 A_2 C_0 C_1 C_2 A_z C_z
            have A_0 : w6.cell? ⟨w.heap.size, 0, none⟩ = some (.bool na) := HA6.out.cell 0
            have A_1 : w6.cell? ⟨w.heap.size, 1, none⟩ = some (.string sa) := HA6.out.cell 1
            have A_2 : w6.cell? ⟨w.heap.size, 2, none⟩ = some (.int .i64 ea) := HA6.out.cell 2
            have A_z : w.heap.size < w6.heap.size := HA6.out.lt
            have C_0 : w6.cell? ⟨(w.heap.size + 1), 0, none⟩ = some (.bool nb) := HC6.out.cell 0
            have C_1 : w6.cell? ⟨(w.heap.size + 1), 1, none⟩ = some (.string sb) := HC6.out.cell 1
            have C_2 : w6.cell? ⟨(w.heap.size + 1), 2, none⟩ = some (.int .i64 eb) := HC6.out.cell 2
            have C_z : (w.heap.size + 1) < w6.heap.size := HC6.out.lt
            clear b6
            rw [ofV32_over]
            go_wp2_with fail
            go_ret
            exact ⟨rfl, B6.out⟩
          · go_wp2_with fail
            refine (HSB.out _).mono ?_
            rintro en w6 ⟨rfl, b6⟩
            have hx := HA5.out
            have HA6 := Lib.hid (hx.below b6 hx.lt)
            clear hx
            have hx := HC5.out
            have HC6 := Lib.hid (hx.below b6 hx.lt)
            clear hx
            have B6 := Lib.hid (bthen B5.out b6)
            clear A_0 A_1 A_2 C_0 C_1 C_2 A_z C_z
            have A_0 : w6.cell? ⟨w.heap.size, 0, none⟩ = some (.bool na) := HA6.out.cell 0
            have A_1 : w6.cell? ⟨w.heap.size, 1, none⟩ = some (.string sa) := HA6.out.cell 1
            have A_2 : w6.cell? ⟨w.heap.size, 2, none⟩ = some (.int .i64 ea) := HA6.out.cell 2
            have A_z : w.heap.size < w6.heap.size := HA6.out.lt
            have C_0 : w6.cell? ⟨(w.heap.size + 1), 0, none⟩ = some (.bool nb) := HC6.out.cell 0
            have C_1 : w6.cell? ⟨(w.heap.size + 1), 1, none⟩ = some (.string sb) := HC6.out.cell 1
            have C_2 : w6.cell? ⟨(w.heap.size + 1), 2, none⟩ = some (.int .i64 eb) := HC6.out.cell 2
            have C_z : (w.heap.size + 1) < w6.heap.size := HC6.out.lt
            clear b6
            rw [ofV32_ok hUB]
            clear hUB
            go_wp2_with fail
            go_ret
            exact ⟨rfl, B6.out⟩
        · go_wp2_with fail
          refine (HSA.out _).mono ?_
          rintro en w5 ⟨rfl, b5⟩
          have hx := HA4.out
          have HA5 := Lib.hid (hx.below b5 hx.lt)
          clear hx
          have hx := HC4.out
          have HC5 := Lib.hid (hx.below b5 hx.lt)
          clear hx
          have B5 := Lib.hid (bthen B4.out b5)
          clear A_0 A_1 A_2 C_0 C_1 C_2 A_z C_z
          have A_0 : w5.cell? ⟨w.heap.size, 0, none⟩ = some (.bool na) := HA5.out.cell 0
          have A_1 : w5.cell? ⟨w.heap.size, 1, none⟩ = some (.string sa) := HA5.out.cell 1
          have A_2 : w5.cell? ⟨w.heap.size, 2, none⟩ = some (.int .i64 ea) := HA5.out.cell 2
          have A_z : w.heap.size < w5.heap.size := HA5.out.lt
          have C_0 : w5.cell? ⟨(w.heap.size + 1), 0, none⟩ = some (.bool nb) := HC5.out.cell 0
          have C_1 : w5.cell? ⟨(w.heap.size + 1), 1, none⟩ = some (.string sb) := HC5.out.cell 1
          have C_2 : w5.cell? ⟨(w.heap.size + 1), 2, none⟩ = some (.int .i64 eb) := HC5.out.cell 2
          have C_z : (w.heap.size + 1) < w5.heap.size := HC5.out.lt
          clear b5
          rw [ofV32_ok hUA]
          have HUA := Lib.hid hUA
          clear hUA
          by_cases hUB : ub = 2139095040
          · subst hUB
            go_wp2_with fail
            refine (HSB.out _).mono ?_
            rintro en w6 ⟨rfl, b6⟩
            have hx := HA5.out
            have HA6 := Lib.hid (hx.below b6 hx.lt)
            clear hx
            have hx := HC5.out
            have HC6 := Lib.hid (hx.below b6 hx.lt)
            clear hx
            have B6 := Lib.hid (bthen B5.out b6)
            clear A_0 A_1 A_2 C_0 C_1 C_2 A_z C_z
            have A_0 : w6.cell? ⟨w.heap.size, 0, none⟩ = some (.bool na) := HA6.out.cell 0
            have A_1 : w6.cell? ⟨w.heap.size, 1, none⟩ = some (.string sa) := HA6.out.cell 1
            have A_2 : w6.cell? ⟨w.heap.size, 2, none⟩ = some (.int .i64 ea) := HA6.out.cell 2
            have A_z : w.heap.size < w6.heap.size := HA6.out.lt
            have C_0 : w6.cell? ⟨(w.heap.size + 1), 0, none⟩ = some (.bool nb) := HC6.out.cell 0
            have C_1 : w6.cell? ⟨(w.heap.size + 1), 1, none⟩ = some (.string sb) := HC6.out.cell 1
            have C_2 : w6.cell? ⟨(w.heap.size + 1), 2, none⟩ = some (.int .i64 eb) := HC6.out.cell 2
            have C_z : (w.heap.size + 1) < w6.heap.size := HC6.out.lt
            clear b6
            rw [ofV32_over]
            go_wp2_with fail
            go_ret
            exact ⟨rfl, B6.out⟩
          · go_wp2_with fail
            refine (HSB.out _).mono ?_
            rintro en w6 ⟨rfl, b6⟩
            have hx := HA5.out
            have HA6 := Lib.hid (hx.below b6 hx.lt)
            clear hx
            have hx := HC5.out
            have HC6 := Lib.hid (hx.below b6 hx.lt)
            clear hx
            have B6 := Lib.hid (bthen B5.out b6)
            clear A_0 A_1 A_2 C_0 C_1 C_2 A_z C_z
            have A_0 : w6.cell? ⟨w.heap.size, 0, none⟩ = some (.bool na) := HA6.out.cell 0
            have A_1 : w6.cell? ⟨w.heap.size, 1, none⟩ = some (.string sa) := HA6.out.cell 1
            have A_2 : w6.cell? ⟨w.heap.size, 2, none⟩ = some (.int .i64 ea) := HA6.out.cell 2
            have A_z : w.heap.size < w6.heap.size := HA6.out.lt
            have C_0 : w6.cell? ⟨(w.heap.size + 1), 0, none⟩ = some (.bool nb) := HC6.out.cell 0
            have C_1 : w6.cell? ⟨(w.heap.size + 1), 1, none⟩ = some (.string sb) := HC6.out.cell 1
            have C_2 : w6.cell? ⟨(w.heap.size + 1), 2, none⟩ = some (.int .i64 eb) := HC6.out.cell 2
            have C_z : (w.heap.size + 1) < w6.heap.size := HC6.out.lt
            clear b6
            rw [ofV32_ok hUB]
            have hua : ua < single.infRung := by rw [sgl_inf]; have := HS.out.la; have := HUA.out; omega
            have hub : ub < single.infRung := by rw [sgl_inf]; have := HS.out.lb; omega
            have og := not_gt32 hua hub (HS.out.le (by decide))
            clear hUB
            go_wp2_with fail
            go_ret
            exact ⟨rfl, B6.out⟩
      · by_cases hUA : ua = 2139095040
        · subst hUA
          go_wp2_with fail
          refine (HSA.out _).mono ?_
          rintro en w5 ⟨rfl, b5⟩
          have hx := HA4.out
          have HA5 := Lib.hid (hx.below b5 hx.lt)
          clear hx
          have hx := HC4.out
          have HC5 := Lib.hid (hx.below b5 hx.lt)
          clear hx
          have B5 := Lib.hid (bthen B4.out b5)
          clear A_0 A_1 A_2 C_0 C_1 C_2 A_z C_z
          have A_0 : w5.cell? ⟨w.heap.size, 0, none⟩ = some (.bool na) := HA5.out.cell 0
          have A_1 : w5.cell? ⟨w.heap.size, 1, none⟩ = some (.string sa) := HA5.out.cell 1
          have A_2 : w5.cell? ⟨w.heap.size, 2, none⟩ = some (.int .i64 ea) := HA5.out.cell 2
          have A_z : w.heap.size < w5.heap.size := HA5.out.lt
          have C_0 : w5.cell? ⟨(w.heap.size + 1), 0, none⟩ = some (.bool nb) := HC5.out.cell 0
          have C_1 : w5.cell? ⟨(w.heap.size + 1), 1, none⟩ = some (.string sb) := HC5.out.cell 1
          have C_2 : w5.cell? ⟨(w.heap.size + 1), 2, none⟩ = some (.int .i64 eb) := HC5.out.cell 2
          have C_z : (w.heap.size + 1) < w5.heap.size := HC5.out.lt
          clear b5
          rw [ofV32_over]
          by_cases hUB : ub = 2139095040
          · subst hUB
            go_wp2_with fail
            refine (HSB.out _).mono ?_
            rintro en w6 ⟨rfl, b6⟩
            have hx := HA5.out
            have HA6 := Lib.hid (hx.below b6 hx.lt)
            clear hx
            have hx := HC5.out
            have HC6 := Lib.hid (hx.below b6 hx.lt)
            clear hx
            have B6 := Lib.hid (bthen B5.out b6)
            clear A_0 A_1 A_2 C_0 C_1 C_2 A_z C_z
            have A_0 : w6.cell? ⟨w.heap.size, 0, none⟩ = some (.bool na) := HA6.out.cell 0
            have A_1 : w6.cell? ⟨w.heap.size, 1, none⟩ = some (.string sa) := HA6.out.cell 1
            have A_2 : w6.cell? ⟨w.heap.size, 2, none⟩ = some (.int .i64 ea) := HA6.out.cell 2
            have A_z : w.heap.size < w6.heap.size := HA6.out.lt
            have C_0 : w6.cell? ⟨(w.heap.size + 1), 0, none⟩ = some (.bool nb) := HC6.out.cell 0
            have C_1 : w6.cell? ⟨(w.heap.size + 1), 1, none⟩ = some (.string sb) := HC6.out.cell 1
            have C_2 : w6.cell? ⟨(w.heap.size + 1), 2, none⟩ = some (.int .i64 eb) := HC6.out.cell 2
            have C_z : (w.heap.size + 1) < w6.heap.size := HC6.out.lt
            clear b6
            rw [ofV32_over]
            go_wp2_with fail
            go_ret
            exact ⟨rfl, B6.out⟩
          · go_wp2_with fail
            refine (HSB.out _).mono ?_
            rintro en w6 ⟨rfl, b6⟩
            have hx := HA5.out
            have HA6 := Lib.hid (hx.below b6 hx.lt)
            clear hx
            have hx := HC5.out
            have HC6 := Lib.hid (hx.below b6 hx.lt)
            clear hx
            have B6 := Lib.hid (bthen B5.out b6)
            clear A_0 A_1 A_2 C_0 C_1 C_2 A_z C_z
            have A_0 : w6.cell? ⟨w.heap.size, 0, none⟩ = some (.bool na) := HA6.out.cell 0
            have A_1 : w6.cell? ⟨w.heap.size, 1, none⟩ = some (.string sa) := HA6.out.cell 1
            have A_2 : w6.cell? ⟨w.heap.size, 2, none⟩ = some (.int .i64 ea) := HA6.out.cell 2
            have A_z : w.heap.size < w6.heap.size := HA6.out.lt
            have C_0 : w6.cell? ⟨(w.heap.size + 1), 0, none⟩ = some (.bool nb) := HC6.out.cell 0
            have C_1 : w6.cell? ⟨(w.heap.size + 1), 1, none⟩ = some (.string sb) := HC6.out.cell 1
            have C_2 : w6.cell? ⟨(w.heap.size + 1), 2, none⟩ = some (.int .i64 eb) := HC6.out.cell 2
            have C_z : (w.heap.size + 1) < w6.heap.size := HC6.out.lt
            clear b6
            rw [ofV32_ok hUB]
            clear hUB
            go_wp2_with fail
            go_ret
            exact ⟨rfl, B6.out⟩
        · go_wp2_with fail
          refine (HSA.out _).mono ?_
          rintro en w5 ⟨rfl, b5⟩
          have hx := HA4.out
          have HA5 := Lib.hid (hx.below b5 hx.lt)
          clear hx
          have hx := HC4.out
          have HC5 := Lib.hid (hx.below b5 hx.lt)
          clear hx
          have B5 := Lib.hid (bthen B4.out b5)
          clear A_0 A_1 A_2 C_0 C_1 C_2 A_z C_z
          have A_0 : w5.cell? ⟨w.heap.size, 0, none⟩ = some (.bool na) := HA5.out.cell 0
          have A_1 : w5.cell? ⟨w.heap.size, 1, none⟩ = some (.string sa) := HA5.out.cell 1
          have A_2 : w5.cell? ⟨w.heap.size, 2, none⟩ = some (.int .i64 ea) := HA5.out.cell 2
          have A_z : w.heap.size < w5.heap.size := HA5.out.lt
          have C_0 : w5.cell? ⟨(w.heap.size + 1), 0, none⟩ = some (.bool nb) := HC5.out.cell 0
          have C_1 : w5.cell? ⟨(w.heap.size + 1), 1, none⟩ = some (.string sb) := HC5.out.cell 1
          have C_2 : w5.cell? ⟨(w.heap.size + 1), 2, none⟩ = some (.int .i64 eb) := HC5.out.cell 2
          have C_z : (w.heap.size + 1) < w5.heap.size := HC5.out.lt
          clear b5
          rw [ofV32_ok hUA]
          have HUA := Lib.hid hUA
          clear hUA
          by_cases hUB : ub = 2139095040
          · subst hUB
            go_wp2_with fail
            refine (HSB.out _).mono ?_
            rintro en w6 ⟨rfl, b6⟩
            have hx := HA5.out
            have HA6 := Lib.hid (hx.below b6 hx.lt)
            clear hx
            have hx := HC5.out
            have HC6 := Lib.hid (hx.below b6 hx.lt)
            clear hx
            have B6 := Lib.hid (bthen B5.out b6)
            clear A_0 A_1 A_2 C_0 C_1 C_2 A_z C_z
            have A_0 : w6.cell? ⟨w.heap.size, 0, none⟩ = some (.bool na) := HA6.out.cell 0
            have A_1 : w6.cell? ⟨w.heap.size, 1, none⟩ = some (.string sa) := HA6.out.cell 1
            have A_2 : w6.cell? ⟨w.heap.size, 2, none⟩ = some (.int .i64 ea) := HA6.out.cell 2
            have A_z : w.heap.size < w6.heap.size := HA6.out.lt
            have C_0 : w6.cell? ⟨(w.heap.size + 1), 0, none⟩ = some (.bool nb) := HC6.out.cell 0
            have C_1 : w6.cell? ⟨(w.heap.size + 1), 1, none⟩ = some (.string sb) := HC6.out.cell 1
            have C_2 : w6.cell? ⟨(w.heap.size + 1), 2, none⟩ = some (.int .i64 eb) := HC6.out.cell 2
            have C_z : (w.heap.size + 1) < w6.heap.size := HC6.out.lt
            clear b6
            rw [ofV32_over]
            go_wp2_with fail
            go_ret
            exact ⟨rfl, B6.out⟩
          · go_wp2_with fail
            refine (HSB.out _).mono ?_
            rintro en w6 ⟨rfl, b6⟩
            have hx := HA5.out
            have HA6 := Lib.hid (hx.below b6 hx.lt)
            clear hx
            have hx := HC5.out
            have HC6 := Lib.hid (hx.below b6 hx.lt)
            clear hx
            have B6 := Lib.hid (bthen B5.out b6)
            clear A_0 A_1 A_2 C_0 C_1 C_2 A_z C_z
            have A_0 : w6.cell? ⟨w.heap.size, 0, none⟩ = some (.bool na) := HA6.out.cell 0
            have A_1 : w6.cell? ⟨w.heap.size, 1, none⟩ = some (.string sa) := HA6.out.cell 1
            have A_2 : w6.cell? ⟨w.heap.size, 2, none⟩ = some (.int .i64 ea) := HA6.out.cell 2
            have A_z : w.heap.size < w6.heap.size := HA6.out.lt
            have C_0 : w6.cell? ⟨(w.heap.size + 1), 0, none⟩ = some (.bool nb) := HC6.out.cell 0
            have C_1 : w6.cell? ⟨(w.heap.size + 1), 1, none⟩ = some (.string sb) := HC6.out.cell 1
            have C_2 : w6.cell? ⟨(w.heap.size + 1), 2, none⟩ = some (.int .i64 eb) := HC6.out.cell 2
            have C_z : (w.heap.size + 1) < w6.heap.size := HC6.out.lt
            clear b6
            rw [ofV32_ok hUB]
            have hua : ua < single.infRung := by rw [sgl_inf]; have := HS.out.la; have := HUA.out; omega
            have hub : ub < single.infRung := by rw [sgl_inf]; have := HS.out.lb; omega
            have og := not_gt32 hua hub (HS.out.le (by decide))
            have ol := not_lt32 hua hub (HS.out.ge (by decide))
            clear hUB
            go_wp2_with fail
            go_ret
            exact ⟨rfl, B6.out⟩
      · by_cases hUA : ua = 2139095040
        · subst hUA
          go_wp2_with fail
          refine (HSA.out _).mono ?_
          rintro en w5 ⟨rfl, b5⟩
          have hx := HA4.out
          have HA5 := Lib.hid (hx.below b5 hx.lt)
          clear hx
          have hx := HC4.out
          have HC5 := Lib.hid (hx.below b5 hx.lt)
          clear hx
          have B5 := Lib.hid (bthen B4.out b5)
          clear A_0 A_1 A_2 C_0 C_1 C_2 A_z C_z
          have A_0 : w5.cell? ⟨w.heap.size, 0, none⟩ = some (.bool na) := HA5.out.cell 0
          have A_1 : w5.cell? ⟨w.heap.size, 1, none⟩ = some (.string sa) := HA5.out.cell 1
          have A_2 : w5.cell? ⟨w.heap.size, 2, none⟩ = some (.int .i64 ea) := HA5.out.cell 2
          have A_z : w.heap.size < w5.heap.size := HA5.out.lt
          have C_0 : w5.cell? ⟨(w.heap.size + 1), 0, none⟩ = some (.bool nb) := HC5.out.cell 0
          have C_1 : w5.cell? ⟨(w.heap.size + 1), 1, none⟩ = some (.string sb) := HC5.out.cell 1
          have C_2 : w5.cell? ⟨(w.heap.size + 1), 2, none⟩ = some (.int .i64 eb) := HC5.out.cell 2
          have C_z : (w.heap.size + 1) < w5.heap.size := HC5.out.lt
          clear b5
          rw [ofV32_over]
          by_cases hUB : ub = 2139095040
          · subst hUB
            go_wp2_with fail
            refine (HSB.out _).mono ?_
            rintro en w6 ⟨rfl, b6⟩
            have hx := HA5.out
            have HA6 := Lib.hid (hx.below b6 hx.lt)
            clear hx
            have hx := HC5.out
            have HC6 := Lib.hid (hx.below b6 hx.lt)
            clear hx
            have B6 := Lib.hid (bthen B5.out b6)
            clear A_0 A_1 A_2 C_0 C_1 C_2 A_z C_z
            have A_0 : w6.cell? ⟨w.heap.size, 0, none⟩ = some (.bool na) := HA6.out.cell 0
            have A_1 : w6.cell? ⟨w.heap.size, 1, none⟩ = some (.string sa) := HA6.out.cell 1
            have A_2 : w6.cell? ⟨w.heap.size, 2, none⟩ = some (.int .i64 ea) := HA6.out.cell 2
            have A_z : w.heap.size < w6.heap.size := HA6.out.lt
            have C_0 : w6.cell? ⟨(w.heap.size + 1), 0, none⟩ = some (.bool nb) := HC6.out.cell 0
            have C_1 : w6.cell? ⟨(w.heap.size + 1), 1, none⟩ = some (.string sb) := HC6.out.cell 1
            have C_2 : w6.cell? ⟨(w.heap.size + 1), 2, none⟩ = some (.int .i64 eb) := HC6.out.cell 2
            have C_z : (w.heap.size + 1) < w6.heap.size := HC6.out.lt
            clear b6
            rw [ofV32_over]
            go_wp2_with fail
            go_ret
            exact ⟨rfl, B6.out⟩
          · go_wp2_with fail
            refine (HSB.out _).mono ?_
            rintro en w6 ⟨rfl, b6⟩
            have hx := HA5.out
            have HA6 := Lib.hid (hx.below b6 hx.lt)
            clear hx
            have hx := HC5.out
            have HC6 := Lib.hid (hx.below b6 hx.lt)
            clear hx
            have B6 := Lib.hid (bthen B5.out b6)
            clear A_0 A_1 A_2 C_0 C_1 C_2 A_z C_z
            have A_0 : w6.cell? ⟨w.heap.size, 0, none⟩ = some (.bool na) := HA6.out.cell 0
            have A_1 : w6.cell? ⟨w.heap.size, 1, none⟩ = some (.string sa) := HA6.out.cell 1
            have A_2 : w6.cell? ⟨w.heap.size, 2, none⟩ = some (.int .i64 ea) := HA6.out.cell 2
            have A_z : w.heap.size < w6.heap.size := HA6.out.lt
            have C_0 : w6.cell? ⟨(w.heap.size + 1), 0, none⟩ = some (.bool nb) := HC6.out.cell 0
            have C_1 : w6.cell? ⟨(w.heap.size + 1), 1, none⟩ = some (.string sb) := HC6.out.cell 1
            have C_2 : w6.cell? ⟨(w.heap.size + 1), 2, none⟩ = some (.int .i64 eb) := HC6.out.cell 2
            have C_z : (w.heap.size + 1) < w6.heap.size := HC6.out.lt
            clear b6
            rw [ofV32_ok hUB]
            clear hUB
            go_wp2_with fail
            go_ret
            exact ⟨rfl, B6.out⟩
        · go_wp2_with fail
          refine (HSA.out _).mono ?_
          rintro en w5 ⟨rfl, b5⟩
          have hx := HA4.out
          have HA5 := Lib.hid (hx.below b5 hx.lt)
          clear hx
          have hx := HC4.out
          have HC5 := Lib.hid (hx.below b5 hx.lt)
          clear hx
          have B5 := Lib.hid (bthen B4.out b5)
          clear A_0 A_1 A_2 C_0 C_1 C_2 A_z C_z
          have A_0 : w5.cell? ⟨w.heap.size, 0, none⟩ = some (.bool na) := HA5.out.cell 0
          have A_1 : w5.cell? ⟨w.heap.size, 1, none⟩ = some (.string sa) := HA5.out.cell 1
          have A_2 : w5.cell? ⟨w.heap.size, 2, none⟩ = some (.int .i64 ea) := HA5.out.cell 2
          have A_z : w.heap.size < w5.heap.size := HA5.out.lt
          have C_0 : w5.cell? ⟨(w.heap.size + 1), 0, none⟩ = some (.bool nb) := HC5.out.cell 0
          have C_1 : w5.cell? ⟨(w.heap.size + 1), 1, none⟩ = some (.string sb) := HC5.out.cell 1
          have C_2 : w5.cell? ⟨(w.heap.size + 1), 2, none⟩ = some (.int .i64 eb) := HC5.out.cell 2
          have C_z : (w.heap.size + 1) < w5.heap.size := HC5.out.lt
          clear b5
          rw [ofV32_ok hUA]
          have HUA := Lib.hid hUA
          clear hUA
          by_cases hUB : ub = 2139095040
          · subst hUB
            go_wp2_with fail
            refine (HSB.out _).mono ?_
            rintro en w6 ⟨rfl, b6⟩
            have hx := HA5.out
            have HA6 := Lib.hid (hx.below b6 hx.lt)
            clear hx
            have hx := HC5.out
            have HC6 := Lib.hid (hx.below b6 hx.lt)
            clear hx
            have B6 := Lib.hid (bthen B5.out b6)
            clear A_0 A_1 A_2 C_0 C_1 C_2 A_z C_z
            have A_0 : w6.cell? ⟨w.heap.size, 0, none⟩ = some (.bool na) := HA6.out.cell 0
            have A_1 : w6.cell? ⟨w.heap.size, 1, none⟩ = some (.string sa) := HA6.out.cell 1
            have A_2 : w6.cell? ⟨w.heap.size, 2, none⟩ = some (.int .i64 ea) := HA6.out.cell 2
            have A_z : w.heap.size < w6.heap.size := HA6.out.lt
            have C_0 : w6.cell? ⟨(w.heap.size + 1), 0, none⟩ = some (.bool nb) := HC6.out.cell 0
            have C_1 : w6.cell? ⟨(w.heap.size + 1), 1, none⟩ = some (.string sb) := HC6.out.cell 1
            have C_2 : w6.cell? ⟨(w.heap.size + 1), 2, none⟩ = some (.int .i64 eb) := HC6.out.cell 2
            have C_z : (w.heap.size + 1) < w6.heap.size := HC6.out.lt
            clear b6
            rw [ofV32_over]
            go_wp2_with fail
            go_ret
            exact ⟨rfl, B6.out⟩
          · go_wp2_with fail
            refine (HSB.out _).mono ?_
            rintro en w6 ⟨rfl, b6⟩
            have hx := HA5.out
            have HA6 := Lib.hid (hx.below b6 hx.lt)
            clear hx
            have hx := HC5.out
            have HC6 := Lib.hid (hx.below b6 hx.lt)
            clear hx
            have B6 := Lib.hid (bthen B5.out b6)
            clear A_0 A_1 A_2 C_0 C_1 C_2 A_z C_z
            have A_0 : w6.cell? ⟨w.heap.size, 0, none⟩ = some (.bool na) := HA6.out.cell 0
            have A_1 : w6.cell? ⟨w.heap.size, 1, none⟩ = some (.string sa) := HA6.out.cell 1
            have A_2 : w6.cell? ⟨w.heap.size, 2, none⟩ = some (.int .i64 ea) := HA6.out.cell 2
            have A_z : w.heap.size < w6.heap.size := HA6.out.lt
            have C_0 : w6.cell? ⟨(w.heap.size + 1), 0, none⟩ = some (.bool nb) := HC6.out.cell 0
            have C_1 : w6.cell? ⟨(w.heap.size + 1), 1, none⟩ = some (.string sb) := HC6.out.cell 1
            have C_2 : w6.cell? ⟨(w.heap.size + 1), 2, none⟩ = some (.int .i64 eb) := HC6.out.cell 2
            have C_z : (w.heap.size + 1) < w6.heap.size := HC6.out.lt
            clear b6
            rw [ofV32_ok hUB]
            have hua : ua < single.infRung := by rw [sgl_inf]; have := HS.out.la; have := HUA.out; omega
            have hub : ub < single.infRung := by rw [sgl_inf]; have := HS.out.lb; omega
            have ol := not_lt32 hua hub (HS.out.ge (by decide))
            clear hUB
            go_wp2_with fail
            go_ret
            exact ⟨rfl, B6.out⟩
    · go_wp2_with fail
      refine (HOB.out _).mono ?_
      rintro en w4 ⟨rfl, b4⟩
      have hx := HA3.out
      have HA4 := Lib.hid (hx.below b4 hx.lt)
      clear hx
      have hx := HC3.out
      have HC4 := Lib.hid (hx.below b4 hx.lt)
      clear hx
      have B4 := Lib.hid (bthen B3.out b4)
      clear A_0 A_1 A_2 C_0 C_1 C_2 A_z C_z
      have A_0 : w4.cell? ⟨w.heap.size, 0, none⟩ = some (.bool na) := HA4.out.cell 0
      have A_1 : w4.cell? ⟨w.heap.size, 1, none⟩ = some (.string sa) := HA4.out.cell 1
      have A_2 : w4.cell? ⟨w.heap.size, 2, none⟩ = some (.int .i64 ea) := HA4.out.cell 2
      have A_z : w.heap.size < w4.heap.size := HA4.out.lt
      have C_0 : w4.cell? ⟨(w.heap.size + 1), 0, none⟩ = some (.bool nb) := HC4.out.cell 0
      have C_1 : w4.cell? ⟨(w.heap.size + 1), 1, none⟩ = some (.string sb) := HC4.out.cell 1
      have C_2 : w4.cell? ⟨(w.heap.size + 1), 2, none⟩ = some (.int .i64 eb) := HC4.out.cell 2
      have C_z : (w.heap.size + 1) < w4.heap.size := HC4.out.lt
      clear b4
      rw [ofV_ok hB]
      rcases hc3 with rfl | rfl | rfl
      · have hra : ra < double.infRung := by rw [inf_num]; have := HR.out.la; have := HA.out; omega
        have hrb : rb < double.infRung := by rw [inf_num]; have := HR.out.lb; omega
        have og64 := not_gt64 hra hrb (HR.out.le (by decide))
        clear hB hra hrb
        by_cases hUA : ua = 2139095040
        · subst hUA
          go_wp2_with fail
          refine (HSA.out _).mono ?_
          rintro en w5 ⟨rfl, b5⟩
          have hx := HA4.out
          have HA5 := Lib.hid (hx.below b5 hx.lt)
          clear hx
          have hx := HC4.out
          have HC5 := Lib.hid (hx.below b5 hx.lt)
          clear hx
          have B5 := Lib.hid (bthen B4.out b5)
          clear A_0 A_1 A_2 C_0 C_1 C_2 A_z C_z
          have A_0 : w5.cell? ⟨w.heap.size, 0, none⟩ = some (.bool na) := HA5.out.cell 0
          have A_1 : w5.cell? ⟨w.heap.size, 1, none⟩ = some (.string sa) := HA5.out.cell 1
          have A_2 : w5.cell? ⟨w.heap.size, 2, none⟩ = some (.int .i64 ea) := HA5.out.cell 2
          have A_z : w.heap.size < w5.heap.size := HA5.out.lt
          have C_0 : w5.cell? ⟨(w.heap.size + 1), 0, none⟩ = some (.bool nb) := HC5.out.cell 0
          have C_1 : w5.cell? ⟨(w.heap.size + 1), 1, none⟩ = some (.string sb) := HC5.out.cell 1
          have C_2 : w5.cell? ⟨(w.heap.size + 1), 2, none⟩ = some (.int .i64 eb) := HC5.out.cell 2
          have C_z : (w.heap.size + 1) < w5.heap.size := HC5.out.lt
          clear b5
          rw [ofV32_over]
          by_cases hUB : ub = 2139095040
          · subst hUB
            go_wp2_with fail
            refine (HSB.out _).mono ?_
            rintro en w6 ⟨rfl, b6⟩
            have hx := HA5.out
            have HA6 := Lib.hid (hx.below b6 hx.lt)
            clear hx
            have hx := HC5.out
            have HC6 := Lib.hid (hx.below b6 hx.lt)
            clear hx
            have B6 := Lib.hid (bthen B5.out b6)
            clear A_0 A_1 A_2 C_0 C_1 C_2 A_z C_z
            have A_0 : w6.cell? ⟨w.heap.size, 0, none⟩ = some (.bool na) := HA6.out.cell 0
            have A_1 : w6.cell? ⟨w.heap.size, 1, none⟩ = some (.string sa) := HA6.out.cell 1
            have A_2 : w6.cell? ⟨w.heap.size, 2, none⟩ = some (.int .i64 ea) := HA6.out.cell 2
            have A_z : w.heap.size < w6.heap.size := HA6.out.lt
            have C_0 : w6.cell? ⟨(w.heap.size + 1), 0, none⟩ = some (.bool nb) := HC6.out.cell 0
            have C_1 : w6.cell? ⟨(w.heap.size + 1), 1, none⟩ = some (.string sb) := HC6.out.cell 1
            have C_2 : w6.cell? ⟨(w.heap.size + 1), 2, none⟩ = some (.int .i64 eb) := HC6.out.cell 2
            have C_z : (w.heap.size + 1) < w6.heap.size := HC6.out.lt
            clear b6
            rw [ofV32_over]
            go_wp2_with fail
            go_ret
            exact ⟨rfl, B6.out⟩
          · go_wp2_with fail
            refine (HSB.out _).mono ?_
            rintro en w6 ⟨rfl, b6⟩
            have hx := HA5.out
            have HA6 := Lib.hid (hx.below b6 hx.lt)
            clear hx
            have hx := HC5.out
            have HC6 := Lib.hid (hx.below b6 hx.lt)
            clear hx
            have B6 := Lib.hid (bthen B5.out b6)
            clear A_0 A_1 A_2 C_0 C_1 C_2 A_z C_z
            have A_0 : w6.cell? ⟨w.heap.size, 0, none⟩ = some (.bool na) := HA6.out.cell 0
            have A_1 : w6.cell? ⟨w.heap.size, 1, none⟩ = some (.string sa) := HA6.out.cell 1
            have A_2 : w6.cell? ⟨w.heap.size, 2, none⟩ = some (.int .i64 ea) := HA6.out.cell 2
            have A_z : w.heap.size < w6.heap.size := HA6.out.lt
            have C_0 : w6.cell? ⟨(w.heap.size + 1), 0, none⟩ = some (.bool nb) := HC6.out.cell 0
            have C_1 : w6.cell? ⟨(w.heap.size + 1), 1, none⟩ = some (.string sb) := HC6.out.cell 1
            have C_2 : w6.cell? ⟨(w.heap.size + 1), 2, none⟩ = some (.int .i64 eb) := HC6.out.cell 2
            have C_z : (w.heap.size + 1) < w6.heap.size := HC6.out.lt
            clear b6
            rw [ofV32_ok hUB]
            clear hUB
            go_wp2_with fail
            go_ret
            exact ⟨rfl, B6.out⟩
        · go_wp2_with fail
          refine (HSA.out _).mono ?_
          rintro en w5 ⟨rfl, b5⟩
          have hx := HA4.out
          have HA5 := Lib.hid (hx.below b5 hx.lt)
          clear hx
          have hx := HC4.out
          have HC5 := Lib.hid (hx.below b5 hx.lt)
          clear hx
          have B5 := Lib.hid (bthen B4.out b5)
          clear A_0 A_1 A_2 C_0 C_1 C_2 A_z C_z
          have A_0 : w5.cell? ⟨w.heap.size, 0, none⟩ = some (.bool na) := HA5.out.cell 0
          have A_1 : w5.cell? ⟨w.heap.size, 1, none⟩ = some (.string sa) := HA5.out.cell 1
          have A_2 : w5.cell? ⟨w.heap.size, 2, none⟩ = some (.int .i64 ea) := HA5.out.cell 2
          have A_z : w.heap.size < w5.heap.size := HA5.out.lt
          have C_0 : w5.cell? ⟨(w.heap.size + 1), 0, none⟩ = some (.bool nb) := HC5.out.cell 0
          have C_1 : w5.cell? ⟨(w.heap.size + 1), 1, none⟩ = some (.string sb) := HC5.out.cell 1
          have C_2 : w5.cell? ⟨(w.heap.size + 1), 2, none⟩ = some (.int .i64 eb) := HC5.out.cell 2
          have C_z : (w.heap.size + 1) < w5.heap.size := HC5.out.lt
          clear b5
          rw [ofV32_ok hUA]
          have HUA := Lib.hid hUA
          clear hUA
          by_cases hUB : ub = 2139095040
          · subst hUB
            go_wp2_with fail
            refine (HSB.out _).mono ?_
            rintro en w6 ⟨rfl, b6⟩
            have hx := HA5.out
            have HA6 := Lib.hid (hx.below b6 hx.lt)
            clear hx
            have hx := HC5.out
            have HC6 := Lib.hid (hx.below b6 hx.lt)
            clear hx
            have B6 := Lib.hid (bthen B5.out b6)
            clear A_0 A_1 A_2 C_0 C_1 C_2 A_z C_z
            have A_0 : w6.cell? ⟨w.heap.size, 0, none⟩ = some (.bool na) := HA6.out.cell 0
            have A_1 : w6.cell? ⟨w.heap.size, 1, none⟩ = some (.string sa) := HA6.out.cell 1
            have A_2 : w6.cell? ⟨w.heap.size, 2, none⟩ = some (.int .i64 ea) := HA6.out.cell 2
            have A_z : w.heap.size < w6.heap.size := HA6.out.lt
            have C_0 : w6.cell? ⟨(w.heap.size + 1), 0, none⟩ = some (.bool nb) := HC6.out.cell 0
            have C_1 : w6.cell? ⟨(w.heap.size + 1), 1, none⟩ = some (.string sb) := HC6.out.cell 1
            have C_2 : w6.cell? ⟨(w.heap.size + 1), 2, none⟩ = some (.int .i64 eb) := HC6.out.cell 2
            have C_z : (w.heap.size + 1) < w6.heap.size := HC6.out.lt
            clear b6
            rw [ofV32_over]
            go_wp2_with fail
            go_ret
            exact ⟨rfl, B6.out⟩
          · go_wp2_with fail
            refine (HSB.out _).mono ?_
            rintro en w6 ⟨rfl, b6⟩
            have hx := HA5.out
            have HA6 := Lib.hid (hx.below b6 hx.lt)
            clear hx
            have hx := HC5.out
            have HC6 := Lib.hid (hx.below b6 hx.lt)
            clear hx
            have B6 := Lib.hid (bthen B5.out b6)
            clear A_0 A_1 A_2 C_0 C_1 C_2 A_z C_z
            have A_0 : w6.cell? ⟨w.heap.size, 0, none⟩ = some (.bool na) := HA6.out.cell 0
            have A_1 : w6.cell? ⟨w.heap.size, 1, none⟩ = some (.string sa) := HA6.out.cell 1
            have A_2 : w6.cell? ⟨w.heap.size, 2, none⟩ = some (.int .i64 ea) := HA6.out.cell 2
            have A_z : w.heap.size < w6.heap.size := HA6.out.lt
            have C_0 : w6.cell? ⟨(w.heap.size + 1), 0, none⟩ = some (.bool nb) := HC6.out.cell 0
            have C_1 : w6.cell? ⟨(w.heap.size + 1), 1, none⟩ = some (.string sb) := HC6.out.cell 1
            have C_2 : w6.cell? ⟨(w.heap.size + 1), 2, none⟩ = some (.int .i64 eb) := HC6.out.cell 2
            have C_z : (w.heap.size + 1) < w6.heap.size := HC6.out.lt
            clear b6
            rw [ofV32_ok hUB]
            have hua : ua < single.infRung := by rw [sgl_inf]; have := HS.out.la; have := HUA.out; omega
            have hub : ub < single.infRung := by rw [sgl_inf]; have := HS.out.lb; omega
            have og := not_gt32 hua hub (HS.out.le (by decide))
            clear hUB
            go_wp2_with fail
            go_ret
            exact ⟨rfl, B6.out⟩
      · have hra : ra < double.infRung := by rw [inf_num]; have := HR.out.la; have := HA.out; omega
        have hrb : rb < double.infRung := by rw [inf_num]; have := HR.out.lb; omega
        have og64 := not_gt64 hra hrb (HR.out.le (by decide))
        have ol64 := not_lt64 hra hrb (HR.out.ge (by decide))
        clear hB hra hrb
        by_cases hUA : ua = 2139095040
        · subst hUA
          go_wp2_with fail
          refine (HSA.out _).mono ?_
          rintro en w5 ⟨rfl, b5⟩
          have hx := HA4.out
          have HA5 := Lib.hid (hx.below b5 hx.lt)
          clear hx
          have hx := HC4.out
          have HC5 := Lib.hid (hx.below b5 hx.lt)
          clear hx
          have B5 := Lib.hid (bthen B4.out b5)
          clear A_0 A_1 A_2 C_0 C_1 C_2 A_z C_z
          have A_0 : w5.cell? ⟨w.heap.size, 0, none⟩ = some (.bool na) := HA5.out.cell 0
          have A_1 : w5.cell? ⟨w.heap.size, 1, none⟩ = some (.string sa) := HA5.out.cell 1
          have A_2 : w5.cell? ⟨w.heap.size, 2, none⟩ = some (.int .i64 ea) := HA5.out.cell 2
          have A_z : w.heap.size < w5.heap.size := HA5.out.lt
          have C_0 : w5.cell? ⟨(w.heap.size + 1), 0, none⟩ = some (.bool nb) := HC5.out.cell 0
          have C_1 : w5.cell? ⟨(w.heap.size + 1), 1, none⟩ = some (.string sb) := HC5.out.cell 1
          have C_2 : w5.cell? ⟨(w.heap.size + 1), 2, none⟩ = some (.int .i64 eb) := HC5.out.cell 2
          have C_z : (w.heap.size + 1) < w5.heap.size := HC5.out.lt
          clear b5
          rw [ofV32_over]
          by_cases hUB : ub = 2139095040
          · subst hUB
            go_wp2_with fail
            refine (HSB.out _).mono ?_
            rintro en w6 ⟨rfl, b6⟩
            have hx := HA5.out
            have HA6 := Lib.hid (hx.below b6 hx.lt)
            clear hx
            have hx := HC5.out
            have HC6 := Lib.hid (hx.below b6 hx.lt)
            clear hx
            have B6 := Lib.hid (bthen B5.out b6)
            clear A_0 A_1 A_2 C_0 C_1 C_2 A_z C_z
            have A_0 : w6.cell? ⟨w.heap.size, 0, none⟩ = some (.bool na) := HA6.out.cell 0
            have A_1 : w6.cell? ⟨w.heap.size, 1, none⟩ = some (.string sa) := HA6.out.cell 1
            have A_2 : w6.cell? ⟨w.heap.size, 2, none⟩ = some (.int .i64 ea) := HA6.out.cell 2
            have A_z : w.heap.size < w6.heap.size := HA6.out.lt
            have C_0 : w6.cell? ⟨(w.heap.size + 1), 0, none⟩ = some (.bool nb) := HC6.out.cell 0
            have C_1 : w6.cell? ⟨(w.heap.size + 1), 1, none⟩ = some (.string sb) := HC6.out.cell 1
            have C_2 : w6.cell? ⟨(w.heap.size + 1), 2, none⟩ = some (.int .i64 eb) := HC6.out.cell 2
            have C_z : (w.heap.size + 1) < w6.heap.size := HC6.out.lt
            clear b6
            rw [ofV32_over]
            go_wp2_with fail
            go_ret
            exact ⟨rfl, B6.out⟩
          · go_wp2_with fail
            refine (HSB.out _).mono ?_
            rintro en w6 ⟨rfl, b6⟩
            have hx := HA5.out
            have HA6 := Lib.hid (hx.below b6 hx.lt)
            clear hx
            have hx := HC5.out
            have HC6 := Lib.hid (hx.below b6 hx.lt)
            clear hx
            have B6 := Lib.hid (bthen B5.out b6)
            clear A_0 A_1 A_2 C_0 C_1 C_2 A_z C_z
            have A_0 : w6.cell? ⟨w.heap.size, 0, none⟩ = some (.bool na) := HA6.out.cell 0
            have A_1 : w6.cell? ⟨w.heap.size, 1, none⟩ = some (.string sa) := HA6.out.cell 1
            have A_2 : w6.cell? ⟨w.heap.size, 2, none⟩ = some (.int .i64 ea) := HA6.out.cell 2
            have A_z : w.heap.size < w6.heap.size := HA6.out.lt
            have C_0 : w6.cell? ⟨(w.heap.size + 1), 0, none⟩ = some (.bool nb) := HC6.out.cell 0
            have C_1 : w6.cell? ⟨(w.heap.size + 1), 1, none⟩ = some (.string sb) := HC6.out.cell 1
            have C_2 : w6.cell? ⟨(w.heap.size + 1), 2, none⟩ = some (.int .i64 eb) := HC6.out.cell 2
            have C_z : (w.heap.size + 1) < w6.heap.size := HC6.out.lt
            clear b6
            rw [ofV32_ok hUB]
            clear hUB
            go_wp2_with fail
            go_ret
            exact ⟨rfl, B6.out⟩
        · go_wp2_with fail
          refine (HSA.out _).mono ?_
          rintro en w5 ⟨rfl, b5⟩
          have hx := HA4.out
          have HA5 := Lib.hid (hx.below b5 hx.lt)
          clear hx
          have hx := HC4.out
          have HC5 := Lib.hid (hx.below b5 hx.lt)
          clear hx
          have B5 := Lib.hid (bthen B4.out b5)
          clear A_0 A_1 A_2 C_0 C_1 C_2 A_z C_z
          have A_0 : w5.cell? ⟨w.heap.size, 0, none⟩ = some (.bool na) := HA5.out.cell 0
          have A_1 : w5.cell? ⟨w.heap.size, 1, none⟩ = some (.string sa) := HA5.out.cell 1
          have A_2 : w5.cell? ⟨w.heap.size, 2, none⟩ = some (.int .i64 ea) := HA5.out.cell 2
          have A_z : w.heap.size < w5.heap.size := HA5.out.lt
          have C_0 : w5.cell? ⟨(w.heap.size + 1), 0, none⟩ = some (.bool nb) := HC5.out.cell 0
          have C_1 : w5.cell? ⟨(w.heap.size + 1), 1, none⟩ = some (.string sb) := HC5.out.cell 1
          have C_2 : w5.cell? ⟨(w.heap.size + 1), 2, none⟩ = some (.int .i64 eb) := HC5.out.cell 2
          have C_z : (w.heap.size + 1) < w5.heap.size := HC5.out.lt
          clear b5
          rw [ofV32_ok hUA]
          have HUA := Lib.hid hUA
          clear hUA
          by_cases hUB : ub = 2139095040
          · subst hUB
            go_wp2_with fail
            refine (HSB.out _).mono ?_
            rintro en w6 ⟨rfl, b6⟩
            have hx := HA5.out
            have HA6 := Lib.hid (hx.below b6 hx.lt)
            clear hx
            have hx := HC5.out
            have HC6 := Lib.hid (hx.below b6 hx.lt)
            clear hx
            have B6 := Lib.hid (bthen B5.out b6)
            clear A_0 A_1 A_2 C_0 C_1 C_2 A_z C_z
            have A_0 : w6.cell? ⟨w.heap.size, 0, none⟩ = some (.bool na) := HA6.out.cell 0
            have A_1 : w6.cell? ⟨w.heap.size, 1, none⟩ = some (.string sa) := HA6.out.cell 1
            have A_2 : w6.cell? ⟨w.heap.size, 2, none⟩ = some (.int .i64 ea) := HA6.out.cell 2
            have A_z : w.heap.size < w6.heap.size := HA6.out.lt
            have C_0 : w6.cell? ⟨(w.heap.size + 1), 0, none⟩ = some (.bool nb) := HC6.out.cell 0
            have C_1 : w6.cell? ⟨(w.heap.size + 1), 1, none⟩ = some (.string sb) := HC6.out.cell 1
            have C_2 : w6.cell? ⟨(w.heap.size + 1), 2, none⟩ = some (.int .i64 eb) := HC6.out.cell 2
            have C_z : (w.heap.size + 1) < w6.heap.size := HC6.out.lt
            clear b6
            rw [ofV32_over]
            go_wp2_with fail
            go_ret
            exact ⟨rfl, B6.out⟩
          · go_wp2_with fail
            refine (HSB.out _).mono ?_
            rintro en w6 ⟨rfl, b6⟩
            have hx := HA5.out
            have HA6 := Lib.hid (hx.below b6 hx.lt)
            clear hx
            have hx := HC5.out
            have HC6 := Lib.hid (hx.below b6 hx.lt)
            clear hx
            have B6 := Lib.hid (bthen B5.out b6)
            clear A_0 A_1 A_2 C_0 C_1 C_2 A_z C_z
            have A_0 : w6.cell? ⟨w.heap.size, 0, none⟩ = some (.bool na) := HA6.out.cell 0
            have A_1 : w6.cell? ⟨w.heap.size, 1, none⟩ = some (.string sa) := HA6.out.cell 1
            have A_2 : w6.cell? ⟨w.heap.size, 2, none⟩ = some (.int .i64 ea) := HA6.out.cell 2
            have A_z : w.heap.size < w6.heap.size := HA6.out.lt
            have C_0 : w6.cell? ⟨(w.heap.size + 1), 0, none⟩ = some (.bool nb) := HC6.out.cell 0
            have C_1 : w6.cell? ⟨(w.heap.size + 1), 1, none⟩ = some (.string sb) := HC6.out.cell 1
            have C_2 : w6.cell? ⟨(w.heap.size + 1), 2, none⟩ = some (.int .i64 eb) := HC6.out.cell 2
            have C_z : (w.heap.size + 1) < w6.heap.size := HC6.out.lt
            clear b6
            rw [ofV32_ok hUB]
            have hua : ua < single.infRung := by rw [sgl_inf]; have := HS.out.la; have := HUA.out; omega
            have hub : ub < single.infRung := by rw [sgl_inf]; have := HS.out.lb; omega
            have og := not_gt32 hua hub (HS.out.le (by decide))
            have ol := not_lt32 hua hub (HS.out.ge (by decide))
            clear hUB
            go_wp2_with fail
            go_ret
            exact ⟨rfl, B6.out⟩
      · have hra : ra < double.infRung := by rw [inf_num]; have := HR.out.la; have := HA.out; omega
        have hrb : rb < double.infRung := by rw [inf_num]; have := HR.out.lb; omega
        have ol64 := not_lt64 hra hrb (HR.out.ge (by decide))
        clear hB hra hrb
        by_cases hUA : ua = 2139095040
        · subst hUA
          go_wp2_with fail
          refine (HSA.out _).mono ?_
          rintro en w5 ⟨rfl, b5⟩
          have hx := HA4.out
          have HA5 := Lib.hid (hx.below b5 hx.lt)
          clear hx
          have hx := HC4.out
          have HC5 := Lib.hid (hx.below b5 hx.lt)
          clear hx
          have B5 := Lib.hid (bthen B4.out b5)
          clear A_0 A_1 A_2 C_0 C_1 C_2 A_z C_z
          have A_0 : w5.cell? ⟨w.heap.size, 0, none⟩ = some (.bool na) := HA5.out.cell 0
          have A_1 : w5.cell? ⟨w.heap.size, 1, none⟩ = some (.string sa) := HA5.out.cell 1
          have A_2 : w5.cell? ⟨w.heap.size, 2, none⟩ = some (.int .i64 ea) := HA5.out.cell 2
          have A_z : w.heap.size < w5.heap.size := HA5.out.lt
          have C_0 : w5.cell? ⟨(w.heap.size + 1), 0, none⟩ = some (.bool nb) := HC5.out.cell 0
          have C_1 : w5.cell? ⟨(w.heap.size + 1), 1, none⟩ = some (.string sb) := HC5.out.cell 1
          have C_2 : w5.cell? ⟨(w.heap.size + 1), 2, none⟩ = some (.int .i64 eb) := HC5.out.cell 2
          have C_z : (w.heap.size + 1) < w5.heap.size := HC5.out.lt
          clear b5
          rw [ofV32_over]
          by_cases hUB : ub = 2139095040
          · subst hUB
            go_wp2_with fail
            refine (HSB.out _).mono ?_
            rintro en w6 ⟨rfl, b6⟩
            have hx := HA5.out
            have HA6 := Lib.hid (hx.below b6 hx.lt)
            clear hx
            have hx := HC5.out
            have HC6 := Lib.hid (hx.below b6 hx.lt)
            clear hx
            have B6 := Lib.hid (bthen B5.out b6)
            clear A_0 A_1 A_2 C_0 C_1 C_2 A_z C_z
            have A_0 : w6.cell? ⟨w.heap.size, 0, none⟩ = some (.bool na) := HA6.out.cell 0
            have A_1 : w6.cell? ⟨w.heap.size, 1, none⟩ = some (.string sa) := HA6.out.cell 1
            have A_2 : w6.cell? ⟨w.heap.size, 2, none⟩ = some (.int .i64 ea) := HA6.out.cell 2
            have A_z : w.heap.size < w6.heap.size := HA6.out.lt
            have C_0 : w6.cell? ⟨(w.heap.size + 1), 0, none⟩ = some (.bool nb) := HC6.out.cell 0
            have C_1 : w6.cell? ⟨(w.heap.size + 1), 1, none⟩ = some (.string sb) := HC6.out.cell 1
            have C_2 : w6.cell? ⟨(w.heap.size + 1), 2, none⟩ = some (.int .i64 eb) := HC6.out.cell 2
            have C_z : (w.heap.size + 1) < w6.heap.size := HC6.out.lt
            clear b6
            rw [ofV32_over]
            go_wp2_with fail
            go_ret
            exact ⟨rfl, B6.out⟩
          · go_wp2_with fail
            refine (HSB.out _).mono ?_
            rintro en w6 ⟨rfl, b6⟩
            have hx := HA5.out
            have HA6 := Lib.hid (hx.below b6 hx.lt)
            clear hx
            have hx := HC5.out
            have HC6 := Lib.hid (hx.below b6 hx.lt)
            clear hx
            have B6 := Lib.hid (bthen B5.out b6)
            clear A_0 A_1 A_2 C_0 C_1 C_2 A_z C_z
            have A_0 : w6.cell? ⟨w.heap.size, 0, none⟩ = some (.bool na) := HA6.out.cell 0
            have A_1 : w6.cell? ⟨w.heap.size, 1, none⟩ = some (.string sa) := HA6.out.cell 1
            have A_2 : w6.cell? ⟨w.heap.size, 2, none⟩ = some (.int .i64 ea) := HA6.out.cell 2
            have A_z : w.heap.size < w6.heap.size := HA6.out.lt
            have C_0 : w6.cell? ⟨(w.heap.size + 1), 0, none⟩ = some (.bool nb) := HC6.out.cell 0
            have C_1 : w6.cell? ⟨(w.heap.size + 1), 1, none⟩ = some (.string sb) := HC6.out.cell 1
            have C_2 : w6.cell? ⟨(w.heap.size + 1), 2, none⟩ = some (.int .i64 eb) := HC6.out.cell 2
            have C_z : (w.heap.size + 1) < w6.heap.size := HC6.out.lt
            clear b6
            rw [ofV32_ok hUB]
            clear hUB
            go_wp2_with fail
            go_ret
            exact ⟨rfl, B6.out⟩
        · go_wp2_with fail
          refine (HSA.out _).mono ?_
          rintro en w5 ⟨rfl, b5⟩
          have hx := HA4.out
          have HA5 := Lib.hid (hx.below b5 hx.lt)
          clear hx
          have hx := HC4.out
          have HC5 := Lib.hid (hx.below b5 hx.lt)
          clear hx
          have B5 := Lib.hid (bthen B4.out b5)
          clear A_0 A_1 A_2 C_0 C_1 C_2 A_z C_z
          have A_0 : w5.cell? ⟨w.heap.size, 0, none⟩ = some (.bool na) := HA5.out.cell 0
          have A_1 : w5.cell? ⟨w.heap.size, 1, none⟩ = some (.string sa) := HA5.out.cell 1
          have A_2 : w5.cell? ⟨w.heap.size, 2, none⟩ = some (.int .i64 ea) := HA5.out.cell 2
          have A_z : w.heap.size < w5.heap.size := HA5.out.lt
          have C_0 : w5.cell? ⟨(w.heap.size + 1), 0, none⟩ = some (.bool nb) := HC5.out.cell 0
          have C_1 : w5.cell? ⟨(w.heap.size + 1), 1, none⟩ = some (.string sb) := HC5.out.cell 1
          have C_2 : w5.cell? ⟨(w.heap.size + 1), 2, none⟩ = some (.int .i64 eb) := HC5.out.cell 2
          have C_z : (w.heap.size + 1) < w5.heap.size := HC5.out.lt
          clear b5
          rw [ofV32_ok hUA]
          have HUA := Lib.hid hUA
          clear hUA
          by_cases hUB : ub = 2139095040
          · subst hUB
            go_wp2_with fail
            refine (HSB.out _).mono ?_
            rintro en w6 ⟨rfl, b6⟩
            have hx := HA5.out
            have HA6 := Lib.hid (hx.below b6 hx.lt)
            clear hx
            have hx := HC5.out
            have HC6 := Lib.hid (hx.below b6 hx.lt)
            clear hx
            have B6 := Lib.hid (bthen B5.out b6)
            clear A_0 A_1 A_2 C_0 C_1 C_2 A_z C_z
            have A_0 : w6.cell? ⟨w.heap.size, 0, none⟩ = some (.bool na) := HA6.out.cell 0
            have A_1 : w6.cell? ⟨w.heap.size, 1, none⟩ = some (.string sa) := HA6.out.cell 1
            have A_2 : w6.cell? ⟨w.heap.size, 2, none⟩ = some (.int .i64 ea) := HA6.out.cell 2
            have A_z : w.heap.size < w6.heap.size := HA6.out.lt
            have C_0 : w6.cell? ⟨(w.heap.size + 1), 0, none⟩ = some (.bool nb) := HC6.out.cell 0
            have C_1 : w6.cell? ⟨(w.heap.size + 1), 1, none⟩ = some (.string sb) := HC6.out.cell 1
            have C_2 : w6.cell? ⟨(w.heap.size + 1), 2, none⟩ = some (.int .i64 eb) := HC6.out.cell 2
            have C_z : (w.heap.size + 1) < w6.heap.size := HC6.out.lt
            clear b6
            rw [ofV32_over]
            go_wp2_with fail
            go_ret
            exact ⟨rfl, B6.out⟩
          · go_wp2_with fail
            refine (HSB.out _).mono ?_
            rintro en w6 ⟨rfl, b6⟩
            have hx := HA5.out
            have HA6 := Lib.hid (hx.below b6 hx.lt)
            clear hx
            have hx := HC5.out
            have HC6 := Lib.hid (hx.below b6 hx.lt)
            clear hx
            have B6 := Lib.hid (bthen B5.out b6)
            clear A_0 A_1 A_2 C_0 C_1 C_2 A_z C_z
            have A_0 : w6.cell? ⟨w.heap.size, 0, none⟩ = some (.bool na) := HA6.out.cell 0
            have A_1 : w6.cell? ⟨w.heap.size, 1, none⟩ = some (.string sa) := HA6.out.cell 1
            have A_2 : w6.cell? ⟨w.heap.size, 2, none⟩ = some (.int .i64 ea) := HA6.out.cell 2
            have A_z : w.heap.size < w6.heap.size := HA6.out.lt
            have C_0 : w6.cell? ⟨(w.heap.size + 1), 0, none⟩ = some (.bool nb) := HC6.out.cell 0
            have C_1 : w6.cell? ⟨(w.heap.size + 1), 1, none⟩ = some (.string sb) := HC6.out.cell 1
            have C_2 : w6.cell? ⟨(w.heap.size + 1), 2, none⟩ = some (.int .i64 eb) := HC6.out.cell 2
            have C_z : (w.heap.size + 1) < w6.heap.size := HC6.out.lt
            clear b6
            rw [ofV32_ok hUB]
            have hua : ua < single.infRung := by rw [sgl_inf]; have := HS.out.la; have := HUA.out; omega
            have hub : ub < single.infRung := by rw [sgl_inf]; have := HS.out.lb; omega
            have ol := not_lt32 hua hub (HS.out.ge (by decide))
            clear hUB
            go_wp2_with fail
            go_ret
            exact ⟨rfl, B6.out⟩
theorem floatsRise_w (na : Bool) (sa : ByteArray) (ea : Int) (nb : Bool) (sb : ByteArray) (eb : Int) (w : World) (hza : sa.size < 140737488355328) (hzb : sb.size < 140737488355328) :
    Calls Tryd.prog 8 #[.agg #[.bool na, .string sa, .int .i64 ea], .agg #[.bool nb, .string sb, .int .i64 eb]] w (TruePost w) := by
  by_cases h : Form sa.data.toList ea ∧ Form sb.data.toList eb
  · exact floatsRise_yes na sa ea nb sb eb w hza hzb h.1 h.2
  · exact floatsRise_no na sa ea nb sb eb w hza hzb h
end Go.Proofs.YtncglbnnpdppjaaDoor.Num
