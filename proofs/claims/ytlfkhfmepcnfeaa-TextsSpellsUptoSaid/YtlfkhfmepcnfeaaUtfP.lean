/- The plain law of Utf8Sizes: a form's bytes are UTF-8. -/
import Derived.Test.YtlfkhfmepcnfeaaUtfF
namespace Go.Proofs.Ytlfkhfmepcnfeaa.Utf
set_option linter.unusedVariables false
set_option linter.unusedSimpArgs false

def toB (x : Int) : UInt8 := UInt8.ofNat x.toNat
theorem toB_int {x : Int} (h0 : 0 ≤ x) (h : x < 256) : ((toB x).toNat : Int) = x := by
  unfold toB
  rw [UInt8.toNat_ofNat']
  omega
def strB (xs : List Int) : ByteArray := ⟨(xs.map toB).toArray⟩
theorem up_fold (xs : List Int) (hx : ∀ x ∈ xs, 0 ≤ x ∧ x < 256) (c : Sc) : ∀ n, n ≤ xs.length → upF (strB xs) c n = (xs.take n).foldl oneF c
  | 0, _ => by simp [upF]
  | n + 1, h => by
    have hn : n < xs.length := by omega
    have hm := hx _ (List.getElem_mem hn)
    show oneF (upF (strB xs) c n) _ = _
    rw [up_fold xs hx c n (by omega), List.take_succ_eq_append_getElem hn, List.foldl_append]
    simp only [List.foldl_cons, List.foldl_nil]
    congr 1
    have : (strB xs).data.toList.getD n 0 = toB xs[n] := by simp [strB, List.getD_eq_getElem?_getD, hn]
    rw [this, toB_int hm.1 hm.2]
theorem badF_str (xs : List Int) (hx : ∀ x ∈ xs, 0 ≤ x ∧ x < 256) : badF (strB xs) = endF (xs.foldl oneF sc0) := by
  unfold badF
  have hs : (strB xs).size = xs.length := by simp [strB, ByteArray.size]
  rw [hs, up_fold xs hx sc0 xs.length (Nat.le_refl _), List.take_length]
theorem one_begin (c : Sc) (hb : c.bad = false) (hw : c.st.want = 0) (x : Int) (st : St) (h : beginF x = (true, st)) : oneF c x = ⟨st, c.came + 1, false⟩ := by
  have h' : stepF c.st x = (true, st) := by unfold stepF; rw [if_pos hw, h]
  simp [oneF, hb, h']
theorem one_step (st : St) (n : Nat) (x : Int) (hw : st.want ≠ 0) (hl : st.lo ≤ x) (hh : x ≤ st.hi) : oneF ⟨st, n, false⟩ x = ⟨⟨st.want - 1, 128, 191, st.ch * 64 + (x - 128)⟩, n + 1, false⟩ := by
  have h : stepF st x = (true, ⟨st.want - 1, 128, 191, st.ch * 64 + (x - 128)⟩) := by unfold stepF; rw [if_neg hw, if_neg (by omega)]
  simp [oneF, h]
theorem end_good (st : St) (n : Nat) (h : st.want = 0) : endF ⟨st, n, false⟩ = -1 := by
  unfold endF
  rw [if_neg (by simp [h])]
theorem good_one (r : Int) (h0 : 0 ≤ r) (h1 : r < 128) : endF ([r].foldl oneF sc0) = -1 := by
  simp only [List.foldl_cons, List.foldl_nil]
  rw [one_begin sc0 rfl rfl r ⟨0, 128, 191, r⟩ (by unfold beginF; rw [if_pos h1]), end_good _ _ rfl]
theorem good_two (r : Int) (h1 : 128 ≤ r) (h2 : r < 2048) : endF ([192 + r / 64, 128 + r % 64].foldl oneF sc0) = -1 := by
  simp only [List.foldl_cons, List.foldl_nil]
  rw [one_begin sc0 rfl rfl _ ⟨1, 128, 191, 192 + r / 64 - 192⟩ (by unfold beginF; rw [if_neg (by omega), if_neg (by omega), if_neg (by omega), if_pos (by omega)]),
    one_step _ _ _ (by simp) (by simp only []; omega) (by simp only []; omega), end_good _ _ rfl]
theorem good_three (r : Int) (h1 : 2048 ≤ r) (h2 : r < 65536) (hs : ¬(55296 ≤ r ∧ r ≤ 57343)) : endF ([224 + r / 4096, 128 + r / 64 % 64, 128 + r % 64].foldl oneF sc0) = -1 := by
  simp only [List.foldl_cons, List.foldl_nil]
  by_cases ha : 224 + r / 4096 = 224
  · rw [one_begin sc0 rfl rfl _ ⟨2, 160, 191, 224 + r / 4096 - 224⟩ (by unfold beginF; rw [if_neg (by omega), if_neg (by omega), if_neg (by omega), if_neg (by omega), if_pos ha]), one_step _ _ _ (by simp) (by simp only []; omega) (by simp only []; omega), one_step _ _ _ (by simp) (by simp only []; omega) (by simp only []; omega), end_good _ _ rfl]
  by_cases hb : 224 + r / 4096 = 237
  · rw [one_begin sc0 rfl rfl _ ⟨2, 128, 159, 224 + r / 4096 - 224⟩ (by unfold beginF; rw [if_neg (by omega), if_neg (by omega), if_neg (by omega), if_neg (by omega), if_neg ha, if_pos hb]), one_step _ _ _ (by simp) (by simp only []; omega) (by simp only []; omega), one_step _ _ _ (by simp) (by simp only []; omega) (by simp only []; omega), end_good _ _ rfl]
  · rw [one_begin sc0 rfl rfl _ ⟨2, 128, 191, 224 + r / 4096 - 224⟩ (by unfold beginF; rw [if_neg (by omega), if_neg (by omega), if_neg (by omega), if_neg (by omega), if_neg ha, if_neg hb, if_pos (by omega)]), one_step _ _ _ (by simp) (by simp only []; omega) (by simp only []; omega), one_step _ _ _ (by simp) (by simp only []; omega) (by simp only []; omega), end_good _ _ rfl]
theorem good_four (r : Int) (h1 : 65536 ≤ r) (h2 : r ≤ 1114111) : endF ([240 + r / 262144, 128 + r / 4096 % 64, 128 + r / 64 % 64, 128 + r % 64].foldl oneF sc0) = -1 := by
  simp only [List.foldl_cons, List.foldl_nil]
  by_cases ha : 240 + r / 262144 = 240
  · rw [one_begin sc0 rfl rfl _ ⟨3, 144, 191, 240 + r / 262144 - 240⟩ (by unfold beginF; rw [if_neg (by omega), if_neg (by omega), if_neg (by omega), if_neg (by omega), if_neg (by omega), if_neg (by omega), if_neg (by omega), if_pos ha]), one_step _ _ _ (by simp) (by simp only []; omega) (by simp only []; omega), one_step _ _ _ (by simp) (by simp only []; omega) (by simp only []; omega), one_step _ _ _ (by simp) (by simp only []; omega) (by simp only []; omega), end_good _ _ rfl]
  by_cases hb : 240 + r / 262144 = 244
  · rw [one_begin sc0 rfl rfl _ ⟨3, 128, 143, 240 + r / 262144 - 240⟩ (by unfold beginF; rw [if_neg (by omega), if_neg (by omega), if_neg (by omega), if_neg (by omega), if_neg (by omega), if_neg (by omega), if_neg (by omega), if_neg ha, if_pos hb]), one_step _ _ _ (by simp) (by simp only []; omega) (by simp only []; omega), one_step _ _ _ (by simp) (by simp only []; omega) (by simp only []; omega), one_step _ _ _ (by simp) (by simp only []; omega) (by simp only []; omega), end_good _ _ rfl]
  · rw [one_begin sc0 rfl rfl _ ⟨3, 128, 191, 240 + r / 262144 - 240⟩ (by unfold beginF; rw [if_neg (by omega), if_neg (by omega), if_neg (by omega), if_neg (by omega), if_neg (by omega), if_neg (by omega), if_neg (by omega), if_neg ha, if_neg hb]), one_step _ _ _ (by simp) (by simp only []; omega) (by simp only []; omega), one_step _ _ _ (by simp) (by simp only []; omega) (by simp only []; omega), one_step _ _ _ (by simp) (by simp only []; omega) (by simp only []; omega), end_good _ _ rfl]
end Go.Proofs.Ytlfkhfmepcnfeaa.Utf
