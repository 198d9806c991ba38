/- The walks of quarrylaw05.firsts and Utf8All. (Printed by gen_firsts.py.) -/
import Derived.Test.YtpdglihihpopeaaUtfO
namespace Go.Proofs.Ytpdglihihpopeaa.Utf
set_option linter.unusedVariables false
set_option linter.unusedSimpArgs false
open Go.RowKit Go.Proofs.Ytpdglihihpopeaa.Mem
def badI (xs : List Int) : Int := endF (xs.foldl oneF sc0)
theorem badI_w (xs : List Int) (hx : ∀ x ∈ xs, 0 ≤ x ∧ x < 256) (hl : xs.length ≤ 4) (w : World) : Calls Try.prog 12 #[.string (strB xs)] w fun e w' => e = .returned (.int .i64 (badI xs)) ∧ Below w.heap.size w w' := by
  have h := bad_w (strB xs) (by have : (strB xs).size = xs.length := by simp [strB, ByteArray.size]
                                omega) w
  rwa [badF_str xs hx] at h
theorem badI_as {xs : List Int} {v : Int} (h : badI xs = v) (hx : ∀ x ∈ xs, 0 ≤ x ∧ x < 256) (hl : xs.length ≤ 4) (w : World) : Calls Try.prog 12 #[.string (strB xs)] w fun e w' => e = .returned (.int .i64 v) ∧ Below w.heap.size w w' := by
  rw [← h]; exact badI_w xs hx hl w
theorem conv_one (x : Int) (h0 : 0 ≤ x) (h1 : x < 256) (w : World) : (convert 36 9 (.slice (some ⟨w.heap.size, 0, none⟩) 1 1)).run Try.prog (w.alloc (.cells #[.int .u8 x] 5)) = .ok (.string (strB [x])) (w.alloc (.cells #[.int .u8 x] 5)) :=
  conv_back [x] (by intro y hy; simp at hy; omega) w.heap.size 1 _ (fun j u hu => by
    match j, hu with
    | 0, hu => cases hu; exact Blk.cell (Blk.new w _ _) 0
    | j + 1, hu => simp at hu)
theorem conv_two (x y : Int) (h0 : 0 ≤ x) (h1 : x < 256) (h2 : 0 ≤ y) (h3 : y < 256) (w : World) : (convert 36 9 (.slice (some ⟨w.heap.size, 0, none⟩) 2 2)).run Try.prog (w.alloc (.cells #[.int .u8 x, .int .u8 y] 5)) = .ok (.string (strB [x, y])) (w.alloc (.cells #[.int .u8 x, .int .u8 y] 5)) :=
  conv_back [x, y] (by intro z hz; simp at hz; omega) w.heap.size 2 _ (fun j u hu => by
    match j, hu with
    | 0, hu => cases hu; exact Blk.cell (Blk.new w _ _) 0
    | 1, hu => cases hu; exact Blk.cell (Blk.new w _ _) 1
    | j + 2, hu => simp at hu)
theorem one_low (x : Int) (h0 : 0 ≤ x) (h : x < 128) : badI [x] = -1 := good_one x h0 h
theorem one_none (x : Int) (h : (128 ≤ x ∧ x < 194) ∨ 244 < x) : badI [x] = 0 := by
  have e : (oneF sc0 x).bad = true ∧ (oneF sc0 x).came = 0 := by
    unfold oneF sc0 stepF beginF st0
    simp only [Bool.false_eq_true, if_false, if_true]
    repeat' split
    all_goals first | omega | (simp at *; done) | simp_all
  unfold badI
  simp only [List.foldl_cons, List.foldl_nil]
  rw [end_bad e.1, e.2]; rfl
theorem first_a (x : Int) (h1 : 194 ≤ x) (h2 : x < 224) : oneF sc0 x = ⟨⟨1, 128, 191, x - 192⟩, 1, false⟩ := by
  have e : beginF x = (true, ⟨1, 128, 191, x - 192⟩) := by
    unfold beginF
    repeat' split
    all_goals first | rfl | (exfalso; omega)
  exact one_begin sc0 rfl rfl x _ e
theorem lead_a (x : Int) (h1 : 194 ≤ x) (h2 : x < 224) : badI [x] = 1 := by
  unfold badI
  simp only [List.foldl_cons, List.foldl_nil]
  rw [first_a x h1 h2, end_want (by simp)]; rfl
theorem two_a (x y : Int) (h1 : 194 ≤ x) (h2 : x < 224) (h3 : 128 ≤ y) (h4 : y ≤ 191) : badI [x, y] = -1 := by
  unfold badI
  simp only [List.foldl_cons, List.foldl_nil]
  rw [first_a x h1 h2, one_step _ _ _ (by simp) (by simp only []; omega) (by simp only []; omega)]
  rw [end_notbad rfl (by simp)]
theorem twoN_a (x y : Int) (h1 : 194 ≤ x) (h2 : x < 224) (h3 : y < 128 ∨ 191 < y) : badI [x, y] = 1 := by
  unfold badI
  simp only [List.foldl_cons, List.foldl_nil]
  rw [first_a x h1 h2]
  have e : (oneF ⟨⟨1, 128, 191, x - 192⟩, 1, false⟩ y).bad = true ∧ (oneF ⟨⟨1, 128, 191, x - 192⟩, 1, false⟩ y).came = 1 := by
    have hs : stepF ⟨1, 128, 191, x - 192⟩ y = (false, ⟨1, 128, 191, x - 192⟩) := by unfold stepF; rw [if_neg (by simp), if_pos (by simp only []; omega)]
    simp [oneF, hs]
  rw [end_bad e.1, e.2]; rfl
theorem first_b (x : Int) (h1 : x = 224) : oneF sc0 x = ⟨⟨2, 160, 191, x - 224⟩, 1, false⟩ := by
  have e : beginF x = (true, ⟨2, 160, 191, x - 224⟩) := by
    unfold beginF
    repeat' split
    all_goals first | rfl | (exfalso; omega)
  exact one_begin sc0 rfl rfl x _ e
theorem lead_b (x : Int) (h1 : x = 224) : badI [x] = 1 := by
  unfold badI
  simp only [List.foldl_cons, List.foldl_nil]
  rw [first_b x h1, end_want (by simp)]; rfl
theorem two_b (x y : Int) (h1 : x = 224) (h3 : 160 ≤ y) (h4 : y ≤ 191) : badI [x, y] = 2 := by
  unfold badI
  simp only [List.foldl_cons, List.foldl_nil]
  rw [first_b x h1, one_step _ _ _ (by simp) (by simp only []; omega) (by simp only []; omega)]
  rw [end_want (by simp)]; rfl
theorem twoN_b (x y : Int) (h1 : x = 224) (h3 : y < 160 ∨ 191 < y) : badI [x, y] = 1 := by
  unfold badI
  simp only [List.foldl_cons, List.foldl_nil]
  rw [first_b x h1]
  have e : (oneF ⟨⟨2, 160, 191, x - 224⟩, 1, false⟩ y).bad = true ∧ (oneF ⟨⟨2, 160, 191, x - 224⟩, 1, false⟩ y).came = 1 := by
    have hs : stepF ⟨2, 160, 191, x - 224⟩ y = (false, ⟨2, 160, 191, x - 224⟩) := by unfold stepF; rw [if_neg (by simp), if_pos (by simp only []; omega)]
    simp [oneF, hs]
  rw [end_bad e.1, e.2]; rfl
theorem first_c (x : Int) (h1 : 224 < x) (h2 : x < 237) : oneF sc0 x = ⟨⟨2, 128, 191, x - 224⟩, 1, false⟩ := by
  have e : beginF x = (true, ⟨2, 128, 191, x - 224⟩) := by
    unfold beginF
    repeat' split
    all_goals first | rfl | (exfalso; omega)
  exact one_begin sc0 rfl rfl x _ e
theorem lead_c (x : Int) (h1 : 224 < x) (h2 : x < 237) : badI [x] = 1 := by
  unfold badI
  simp only [List.foldl_cons, List.foldl_nil]
  rw [first_c x h1 h2, end_want (by simp)]; rfl
theorem two_c (x y : Int) (h1 : 224 < x) (h2 : x < 237) (h3 : 128 ≤ y) (h4 : y ≤ 191) : badI [x, y] = 2 := by
  unfold badI
  simp only [List.foldl_cons, List.foldl_nil]
  rw [first_c x h1 h2, one_step _ _ _ (by simp) (by simp only []; omega) (by simp only []; omega)]
  rw [end_want (by simp)]; rfl
theorem twoN_c (x y : Int) (h1 : 224 < x) (h2 : x < 237) (h3 : y < 128 ∨ 191 < y) : badI [x, y] = 1 := by
  unfold badI
  simp only [List.foldl_cons, List.foldl_nil]
  rw [first_c x h1 h2]
  have e : (oneF ⟨⟨2, 128, 191, x - 224⟩, 1, false⟩ y).bad = true ∧ (oneF ⟨⟨2, 128, 191, x - 224⟩, 1, false⟩ y).came = 1 := by
    have hs : stepF ⟨2, 128, 191, x - 224⟩ y = (false, ⟨2, 128, 191, x - 224⟩) := by unfold stepF; rw [if_neg (by simp), if_pos (by simp only []; omega)]
    simp [oneF, hs]
  rw [end_bad e.1, e.2]; rfl
theorem first_d (x : Int) (h1 : x = 237) : oneF sc0 x = ⟨⟨2, 128, 159, x - 224⟩, 1, false⟩ := by
  have e : beginF x = (true, ⟨2, 128, 159, x - 224⟩) := by
    unfold beginF
    repeat' split
    all_goals first | rfl | (exfalso; omega)
  exact one_begin sc0 rfl rfl x _ e
theorem lead_d (x : Int) (h1 : x = 237) : badI [x] = 1 := by
  unfold badI
  simp only [List.foldl_cons, List.foldl_nil]
  rw [first_d x h1, end_want (by simp)]; rfl
theorem two_d (x y : Int) (h1 : x = 237) (h3 : 128 ≤ y) (h4 : y ≤ 159) : badI [x, y] = 2 := by
  unfold badI
  simp only [List.foldl_cons, List.foldl_nil]
  rw [first_d x h1, one_step _ _ _ (by simp) (by simp only []; omega) (by simp only []; omega)]
  rw [end_want (by simp)]; rfl
theorem twoN_d (x y : Int) (h1 : x = 237) (h3 : y < 128 ∨ 159 < y) : badI [x, y] = 1 := by
  unfold badI
  simp only [List.foldl_cons, List.foldl_nil]
  rw [first_d x h1]
  have e : (oneF ⟨⟨2, 128, 159, x - 224⟩, 1, false⟩ y).bad = true ∧ (oneF ⟨⟨2, 128, 159, x - 224⟩, 1, false⟩ y).came = 1 := by
    have hs : stepF ⟨2, 128, 159, x - 224⟩ y = (false, ⟨2, 128, 159, x - 224⟩) := by unfold stepF; rw [if_neg (by simp), if_pos (by simp only []; omega)]
    simp [oneF, hs]
  rw [end_bad e.1, e.2]; rfl
theorem first_c2 (x : Int) (h1 : 237 < x) (h2 : x < 240) : oneF sc0 x = ⟨⟨2, 128, 191, x - 224⟩, 1, false⟩ := by
  have e : beginF x = (true, ⟨2, 128, 191, x - 224⟩) := by
    unfold beginF
    repeat' split
    all_goals first | rfl | (exfalso; omega)
  exact one_begin sc0 rfl rfl x _ e
theorem lead_c2 (x : Int) (h1 : 237 < x) (h2 : x < 240) : badI [x] = 1 := by
  unfold badI
  simp only [List.foldl_cons, List.foldl_nil]
  rw [first_c2 x h1 h2, end_want (by simp)]; rfl
theorem two_c2 (x y : Int) (h1 : 237 < x) (h2 : x < 240) (h3 : 128 ≤ y) (h4 : y ≤ 191) : badI [x, y] = 2 := by
  unfold badI
  simp only [List.foldl_cons, List.foldl_nil]
  rw [first_c2 x h1 h2, one_step _ _ _ (by simp) (by simp only []; omega) (by simp only []; omega)]
  rw [end_want (by simp)]; rfl
theorem twoN_c2 (x y : Int) (h1 : 237 < x) (h2 : x < 240) (h3 : y < 128 ∨ 191 < y) : badI [x, y] = 1 := by
  unfold badI
  simp only [List.foldl_cons, List.foldl_nil]
  rw [first_c2 x h1 h2]
  have e : (oneF ⟨⟨2, 128, 191, x - 224⟩, 1, false⟩ y).bad = true ∧ (oneF ⟨⟨2, 128, 191, x - 224⟩, 1, false⟩ y).came = 1 := by
    have hs : stepF ⟨2, 128, 191, x - 224⟩ y = (false, ⟨2, 128, 191, x - 224⟩) := by unfold stepF; rw [if_neg (by simp), if_pos (by simp only []; omega)]
    simp [oneF, hs]
  rw [end_bad e.1, e.2]; rfl
theorem first_e (x : Int) (h1 : x = 240) : oneF sc0 x = ⟨⟨3, 144, 191, x - 240⟩, 1, false⟩ := by
  have e : beginF x = (true, ⟨3, 144, 191, x - 240⟩) := by
    unfold beginF
    repeat' split
    all_goals first | rfl | (exfalso; omega)
  exact one_begin sc0 rfl rfl x _ e
theorem lead_e (x : Int) (h1 : x = 240) : badI [x] = 1 := by
  unfold badI
  simp only [List.foldl_cons, List.foldl_nil]
  rw [first_e x h1, end_want (by simp)]; rfl
theorem two_e (x y : Int) (h1 : x = 240) (h3 : 144 ≤ y) (h4 : y ≤ 191) : badI [x, y] = 2 := by
  unfold badI
  simp only [List.foldl_cons, List.foldl_nil]
  rw [first_e x h1, one_step _ _ _ (by simp) (by simp only []; omega) (by simp only []; omega)]
  rw [end_want (by simp)]; rfl
theorem twoN_e (x y : Int) (h1 : x = 240) (h3 : y < 144 ∨ 191 < y) : badI [x, y] = 1 := by
  unfold badI
  simp only [List.foldl_cons, List.foldl_nil]
  rw [first_e x h1]
  have e : (oneF ⟨⟨3, 144, 191, x - 240⟩, 1, false⟩ y).bad = true ∧ (oneF ⟨⟨3, 144, 191, x - 240⟩, 1, false⟩ y).came = 1 := by
    have hs : stepF ⟨3, 144, 191, x - 240⟩ y = (false, ⟨3, 144, 191, x - 240⟩) := by unfold stepF; rw [if_neg (by simp), if_pos (by simp only []; omega)]
    simp [oneF, hs]
  rw [end_bad e.1, e.2]; rfl
theorem first_f (x : Int) (h1 : 240 < x) (h2 : x < 244) : oneF sc0 x = ⟨⟨3, 128, 191, x - 240⟩, 1, false⟩ := by
  have e : beginF x = (true, ⟨3, 128, 191, x - 240⟩) := by
    unfold beginF
    repeat' split
    all_goals first | rfl | (exfalso; omega)
  exact one_begin sc0 rfl rfl x _ e
theorem lead_f (x : Int) (h1 : 240 < x) (h2 : x < 244) : badI [x] = 1 := by
  unfold badI
  simp only [List.foldl_cons, List.foldl_nil]
  rw [first_f x h1 h2, end_want (by simp)]; rfl
theorem two_f (x y : Int) (h1 : 240 < x) (h2 : x < 244) (h3 : 128 ≤ y) (h4 : y ≤ 191) : badI [x, y] = 2 := by
  unfold badI
  simp only [List.foldl_cons, List.foldl_nil]
  rw [first_f x h1 h2, one_step _ _ _ (by simp) (by simp only []; omega) (by simp only []; omega)]
  rw [end_want (by simp)]; rfl
theorem twoN_f (x y : Int) (h1 : 240 < x) (h2 : x < 244) (h3 : y < 128 ∨ 191 < y) : badI [x, y] = 1 := by
  unfold badI
  simp only [List.foldl_cons, List.foldl_nil]
  rw [first_f x h1 h2]
  have e : (oneF ⟨⟨3, 128, 191, x - 240⟩, 1, false⟩ y).bad = true ∧ (oneF ⟨⟨3, 128, 191, x - 240⟩, 1, false⟩ y).came = 1 := by
    have hs : stepF ⟨3, 128, 191, x - 240⟩ y = (false, ⟨3, 128, 191, x - 240⟩) := by unfold stepF; rw [if_neg (by simp), if_pos (by simp only []; omega)]
    simp [oneF, hs]
  rw [end_bad e.1, e.2]; rfl
theorem first_g (x : Int) (h1 : x = 244) : oneF sc0 x = ⟨⟨3, 128, 143, x - 240⟩, 1, false⟩ := by
  have e : beginF x = (true, ⟨3, 128, 143, x - 240⟩) := by
    unfold beginF
    repeat' split
    all_goals first | rfl | (exfalso; omega)
  exact one_begin sc0 rfl rfl x _ e
theorem lead_g (x : Int) (h1 : x = 244) : badI [x] = 1 := by
  unfold badI
  simp only [List.foldl_cons, List.foldl_nil]
  rw [first_g x h1, end_want (by simp)]; rfl
theorem two_g (x y : Int) (h1 : x = 244) (h3 : 128 ≤ y) (h4 : y ≤ 143) : badI [x, y] = 2 := by
  unfold badI
  simp only [List.foldl_cons, List.foldl_nil]
  rw [first_g x h1, one_step _ _ _ (by simp) (by simp only []; omega) (by simp only []; omega)]
  rw [end_want (by simp)]; rfl
theorem twoN_g (x y : Int) (h1 : x = 244) (h3 : y < 128 ∨ 143 < y) : badI [x, y] = 1 := by
  unfold badI
  simp only [List.foldl_cons, List.foldl_nil]
  rw [first_g x h1]
  have e : (oneF ⟨⟨3, 128, 143, x - 240⟩, 1, false⟩ y).bad = true ∧ (oneF ⟨⟨3, 128, 143, x - 240⟩, 1, false⟩ y).came = 1 := by
    have hs : stepF ⟨3, 128, 143, x - 240⟩ y = (false, ⟨3, 128, 143, x - 240⟩) := by unfold stepF; rw [if_neg (by simp), if_pos (by simp only []; omega)]
    simp [oneF, hs]
  rw [end_bad e.1, e.2]; rfl
set_option maxHeartbeats 8000000 in
set_option maxRecDepth 100000 in
theorem firsts_w (w : World) : Calls Try.prog 21 #[] w fun e w' => e = .returned (.bool true) ∧ Below w.heap.size w w' := by
  go_enter Try.func21, Try.ntmps21
  go_wp2_with fail
  go_loopw [1] (fun v wr => ∃ k : Nat, k ≤ 256 ∧ v = .int .i64 k ∧ Below w.heap.size w wr) (fun v _ => 256 - (intOf v).toNat)
  case atStart => exact ⟨0, by omega, rfl, Below.refl _ _⟩
  case round =>
    obtain ⟨k, hk, rfl, hbel⟩ := hrel
    have hsz := hbel.size
    by_cases hlt : k < 256
    · have t0 : decide ((k : Int) < 256) = true := by simp; omega
      have hw : IntKind.u8.wrap (k : Int) = (k : Int) := IntWalk.u8_in _ (by omega)
      have hcv := conv_one (k : Int) (by omega) (by omega) wr
      have hm : ∀ y ∈ [(k : Int)], 0 ≤ y ∧ y < 256 := by intro y hy; simp at hy; omega
      have HM := Lib.hid hm; clear hm
      obtain ⟨wo, rfl⟩ : ∃ wo : World, wo = wr := ⟨_, rfl⟩
      have hba : Below w.heap.size w (wo.alloc (.cells #[.int .u8 (k : Int)] 5)) := hbel.alloc hsz _
      have HBA := Lib.hid hba; clear hba
      by_cases c1 : k < 128
      · have t1 : decide ((k : Int) < 128) = true := by simp; omega
        have t2 : decide ((k : Int) ≥ 194) = false := by simp; omega
        have t2' : decide (194 ≤ (k : Int)) = false := by simp; omega
        have HB := Lib.hid (fun w1 => badI_as (one_low (k : Int) (by omega) (by omega)) HM.out (by simp) w1)
        clear c1
        go_wp2_with fail
        refine (HB.out _).mono ?_; rintro e w1 ⟨rfl, hb1⟩
        go_wp2_with fail
        go_loopw [3] (fun v wr => v = .int .i64 0 ∧ Below w.heap.size w wr) (fun _ _ => 0)
        case atStart => exact ⟨rfl, bthen HBA.out hb1⟩
        case round =>
          obtain ⟨rfl, hbel2⟩ := hrel
          go_wp2_with fail
          exact ⟨⟨k + 1, by omega, by go_num, hbel2⟩, by simp [intOf]; omega⟩
      by_cases c2 : (k < 194) ∨ 244 < k
      · have t1 : decide ((k : Int) < 128) = false := by simp; omega
        have t2 : (decide (194 ≤ (k : Int)) && decide ((k : Int) ≤ 244)) = false := by
          rw [Bool.and_eq_false_iff]; simp only [decide_eq_false_iff_not]; omega
        have HB := Lib.hid (fun w1 => badI_as (one_none (k : Int) (by omega)) HM.out (by simp) w1)
        by_cases c3 : k < 194
        · have t3 : decide ((k : Int) ≥ 194) = false := by simp; omega
          have t4 : decide (194 ≤ (k : Int)) = false := by simp; omega
          clear c1 c2 c3 t2
          go_wp2_with fail
          refine (HB.out _).mono ?_; rintro e w1 ⟨rfl, hb1⟩
          go_wp2_with fail
          go_loopw [3] (fun v wr => v = .int .i64 0 ∧ Below w.heap.size w wr) (fun _ _ => 0)
          case atStart => exact ⟨rfl, bthen HBA.out hb1⟩
          case round =>
            obtain ⟨rfl, hbel2⟩ := hrel
            go_wp2_with fail
            exact ⟨⟨k + 1, by omega, by go_num, hbel2⟩, by simp [intOf]; omega⟩
        · have t3 : decide ((k : Int) ≥ 194) = true := by simp; omega
          have t4 : decide (194 ≤ (k : Int)) = true := by simp; omega
          have t5 : decide ((k : Int) ≤ 244) = false := by simp; omega
          clear c1 c2 c3 t2
          go_wp2_with fail
          refine (HB.out _).mono ?_; rintro e w1 ⟨rfl, hb1⟩
          go_wp2_with fail
          go_loopw [3] (fun v wr => v = .int .i64 0 ∧ Below w.heap.size w wr) (fun _ _ => 0)
          case atStart => exact ⟨rfl, bthen HBA.out hb1⟩
          case round =>
            obtain ⟨rfl, hbel2⟩ := hrel
            go_wp2_with fail
            exact ⟨⟨k + 1, by omega, by go_num, hbel2⟩, by simp [intOf]; omega⟩
      have t1 : decide ((k : Int) < 128) = false := by simp; omega
      have t3 : decide ((k : Int) ≥ 194) = true := by simp; omega
      have t4 : decide (194 ≤ (k : Int)) = true := by simp; omega
      have t5 : decide ((k : Int) ≤ 244) = true := by simp; omega
      by_cases c_a : 194 ≤ (k : Int) ∧ (k : Int) < 224
      · have HB := Lib.hid (fun w1 => badI_as (lead_a (k : Int) (by omega) (by omega)) HM.out (by simp) w1)
        have e224 : ((k : Int) == 224) = false := by simp; omega
        have e237 : ((k : Int) == 237) = false := by simp; omega
        have e240 : ((k : Int) == 240) = false := by simp; omega
        have e244 : ((k : Int) == 244) = false := by simp; omega
        have e_lt : decide ((k : Int) < 224) = true := by simp; omega
        have HT := Lib.hid (fun (y : Int) (h3 : 128 ≤ y) (h4 : y ≤ 191) => two_a (k : Int) y (by omega) (by omega) h3 h4)
        have HN := Lib.hid (fun (y : Int) (h3 : y < 128 ∨ 191 < y) => twoN_a (k : Int) y (by omega) (by omega) h3)
        clear c1 c2 c_a
        go_wp2_with fail
        refine (HB.out _).mono ?_; rintro e w1 ⟨rfl, hb1⟩
        go_wp2_with fail
        go_loopw [3] (fun v wr => ∃ j : Nat, j ≤ 256 ∧ v = .int .i64 j ∧ Below w.heap.size w wr) (fun v _ => 256 - (intOf v).toNat)
        case atStart => exact ⟨0, by omega, rfl, bthen HBA.out hb1⟩
        case round =>
          clear hb1 hcv
          obtain ⟨j, hj, rfl, hbel2⟩ := hrel
          have hsz2 := hbel2.size
          by_cases hjl : j < 256
          · have u0 : decide ((j : Int) < 256) = true := by simp; omega
            have hwj : IntKind.u8.wrap (j : Int) = (j : Int) := IntWalk.u8_in _ (by omega)
            have hcv2 := conv_two (k : Int) (j : Int) (by omega) (by omega) (by omega) (by omega) wr
            have HM2 : Hid (∀ y ∈ [(k : Int), (j : Int)], 0 ≤ y ∧ y < 256) := by intro y hy; simp at hy; omega
            have HBA2 := Lib.hid (hbel2.alloc hsz2 (.cells #[.int .u8 (k : Int), .int .u8 (j : Int)] 5))
            by_cases d_lowy : (j : Int) < 128
            · skip
              have f0 : decide ((j : Int) ≥ 128) = false := by simp; omega
              have f1 : decide (128 ≤ (j : Int)) = false := by simp; omega
              have HB2 := Lib.hid (fun w1 => badI_as (HN.out (j : Int) (.inl (by omega))) HM2.out (by simp) w1)
              go_wp2_with fail
              refine (HB2.out _).mono ?_; rintro e w2 ⟨rfl, hb2⟩
              go_wp2_with fail
              go_roundw
              case rel => exact ⟨j + 1, by omega, by go_num, bthen HBA2.out hb2⟩
              case measure => simp [intOf]; omega
            by_cases d_in : (j : Int) ≤ 191
            · skip
              have f0 : decide ((j : Int) ≥ 128) = true := by simp; omega
              have f1 : decide (128 ≤ (j : Int)) = true := by simp; omega
              have f2 : decide ((j : Int) ≤ 191) = true := by simp; omega
              have HB2 := Lib.hid (fun w1 => badI_as (HT.out (j : Int) (by omega) (by omega)) HM2.out (by simp) w1)
              go_wp2_with fail
              refine (HB2.out _).mono ?_; rintro e w2 ⟨rfl, hb2⟩
              go_wp2_with fail
              go_roundw
              case rel => exact ⟨j + 1, by omega, by go_num, bthen HBA2.out hb2⟩
              case measure => simp [intOf]; omega
            · have f0 : decide ((j : Int) ≥ 128) = true := by simp; omega
              have f1 : decide (128 ≤ (j : Int)) = true := by simp; omega
              have f2 : decide ((j : Int) ≤ 191) = false := by simp; omega
              have HB2 := Lib.hid (fun w1 => badI_as (HN.out (j : Int) (.inr (by omega))) HM2.out (by simp) w1)
              go_wp2_with fail
              refine (HB2.out _).mono ?_; rintro e w2 ⟨rfl, hb2⟩
              go_wp2_with fail
              go_roundw
              case rel => exact ⟨j + 1, by omega, by go_num, bthen HBA2.out hb2⟩
              case measure => simp [intOf]; omega
          · have u0 : decide ((j : Int) < 256) = false := by simp; omega
            go_wp2_with fail
            exact ⟨⟨k + 1, by omega, by go_num, hbel2⟩, by simp [intOf]; omega⟩
      by_cases c_b : (k : Int) = 224
      · have HB := Lib.hid (fun w1 => badI_as (lead_b (k : Int) (by omega)) HM.out (by simp) w1)
        have e224 : ((k : Int) == 224) = true := by simp; omega
        have e237 : ((k : Int) == 237) = false := by simp; omega
        have e240 : ((k : Int) == 240) = false := by simp; omega
        have e244 : ((k : Int) == 244) = false := by simp; omega
        have e_lt : decide ((k : Int) < 224) = false := by simp; omega
        have HT := Lib.hid (fun (y : Int) (h3 : 160 ≤ y) (h4 : y ≤ 191) => two_b (k : Int) y (by omega) h3 h4)
        have HN := Lib.hid (fun (y : Int) (h3 : y < 160 ∨ 191 < y) => twoN_b (k : Int) y (by omega) h3)
        clear c1 c2 c_b
        go_wp2_with fail
        refine (HB.out _).mono ?_; rintro e w1 ⟨rfl, hb1⟩
        go_wp2_with fail
        go_loopw [3] (fun v wr => ∃ j : Nat, j ≤ 256 ∧ v = .int .i64 j ∧ Below w.heap.size w wr) (fun v _ => 256 - (intOf v).toNat)
        case atStart => exact ⟨0, by omega, rfl, bthen HBA.out hb1⟩
        case round =>
          clear hb1 hcv
          obtain ⟨j, hj, rfl, hbel2⟩ := hrel
          have hsz2 := hbel2.size
          by_cases hjl : j < 256
          · have u0 : decide ((j : Int) < 256) = true := by simp; omega
            have hwj : IntKind.u8.wrap (j : Int) = (j : Int) := IntWalk.u8_in _ (by omega)
            have hcv2 := conv_two (k : Int) (j : Int) (by omega) (by omega) (by omega) (by omega) wr
            have HM2 : Hid (∀ y ∈ [(k : Int), (j : Int)], 0 ≤ y ∧ y < 256) := by intro y hy; simp at hy; omega
            have HBA2 := Lib.hid (hbel2.alloc hsz2 (.cells #[.int .u8 (k : Int), .int .u8 (j : Int)] 5))
            by_cases d_lowy : (j : Int) < 160
            · skip
              have f0 : decide ((j : Int) ≥ 160) = false := by simp; omega
              have f1 : decide (160 ≤ (j : Int)) = false := by simp; omega
              have HB2 := Lib.hid (fun w1 => badI_as (HN.out (j : Int) (.inl (by omega))) HM2.out (by simp) w1)
              go_wp2_with fail
              refine (HB2.out _).mono ?_; rintro e w2 ⟨rfl, hb2⟩
              go_wp2_with fail
              go_roundw
              case rel => exact ⟨j + 1, by omega, by go_num, bthen HBA2.out hb2⟩
              case measure => simp [intOf]; omega
            by_cases d_in : (j : Int) ≤ 191
            · skip
              have f0 : decide ((j : Int) ≥ 160) = true := by simp; omega
              have f1 : decide (160 ≤ (j : Int)) = true := by simp; omega
              have f2 : decide ((j : Int) ≤ 191) = true := by simp; omega
              have HB2 := Lib.hid (fun w1 => badI_as (HT.out (j : Int) (by omega) (by omega)) HM2.out (by simp) w1)
              go_wp2_with fail
              refine (HB2.out _).mono ?_; rintro e w2 ⟨rfl, hb2⟩
              go_wp2_with fail
              go_roundw
              case rel => exact ⟨j + 1, by omega, by go_num, bthen HBA2.out hb2⟩
              case measure => simp [intOf]; omega
            · have f0 : decide ((j : Int) ≥ 160) = true := by simp; omega
              have f1 : decide (160 ≤ (j : Int)) = true := by simp; omega
              have f2 : decide ((j : Int) ≤ 191) = false := by simp; omega
              have HB2 := Lib.hid (fun w1 => badI_as (HN.out (j : Int) (.inr (by omega))) HM2.out (by simp) w1)
              go_wp2_with fail
              refine (HB2.out _).mono ?_; rintro e w2 ⟨rfl, hb2⟩
              go_wp2_with fail
              go_roundw
              case rel => exact ⟨j + 1, by omega, by go_num, bthen HBA2.out hb2⟩
              case measure => simp [intOf]; omega
          · have u0 : decide ((j : Int) < 256) = false := by simp; omega
            go_wp2_with fail
            exact ⟨⟨k + 1, by omega, by go_num, hbel2⟩, by simp [intOf]; omega⟩
      by_cases c_c : 224 < (k : Int) ∧ (k : Int) < 237
      · have HB := Lib.hid (fun w1 => badI_as (lead_c (k : Int) (by omega) (by omega)) HM.out (by simp) w1)
        have e224 : ((k : Int) == 224) = false := by simp; omega
        have e237 : ((k : Int) == 237) = false := by simp; omega
        have e240 : ((k : Int) == 240) = false := by simp; omega
        have e244 : ((k : Int) == 244) = false := by simp; omega
        have e_lt : decide ((k : Int) < 224) = false := by simp; omega
        have HT := Lib.hid (fun (y : Int) (h3 : 128 ≤ y) (h4 : y ≤ 191) => two_c (k : Int) y (by omega) (by omega) h3 h4)
        have HN := Lib.hid (fun (y : Int) (h3 : y < 128 ∨ 191 < y) => twoN_c (k : Int) y (by omega) (by omega) h3)
        clear c1 c2 c_c
        go_wp2_with fail
        refine (HB.out _).mono ?_; rintro e w1 ⟨rfl, hb1⟩
        go_wp2_with fail
        go_loopw [3] (fun v wr => ∃ j : Nat, j ≤ 256 ∧ v = .int .i64 j ∧ Below w.heap.size w wr) (fun v _ => 256 - (intOf v).toNat)
        case atStart => exact ⟨0, by omega, rfl, bthen HBA.out hb1⟩
        case round =>
          clear hb1 hcv
          obtain ⟨j, hj, rfl, hbel2⟩ := hrel
          have hsz2 := hbel2.size
          by_cases hjl : j < 256
          · have u0 : decide ((j : Int) < 256) = true := by simp; omega
            have hwj : IntKind.u8.wrap (j : Int) = (j : Int) := IntWalk.u8_in _ (by omega)
            have hcv2 := conv_two (k : Int) (j : Int) (by omega) (by omega) (by omega) (by omega) wr
            have HM2 : Hid (∀ y ∈ [(k : Int), (j : Int)], 0 ≤ y ∧ y < 256) := by intro y hy; simp at hy; omega
            have HBA2 := Lib.hid (hbel2.alloc hsz2 (.cells #[.int .u8 (k : Int), .int .u8 (j : Int)] 5))
            by_cases d_lowy : (j : Int) < 128
            · skip
              have f0 : decide ((j : Int) ≥ 128) = false := by simp; omega
              have f1 : decide (128 ≤ (j : Int)) = false := by simp; omega
              have HB2 := Lib.hid (fun w1 => badI_as (HN.out (j : Int) (.inl (by omega))) HM2.out (by simp) w1)
              go_wp2_with fail
              refine (HB2.out _).mono ?_; rintro e w2 ⟨rfl, hb2⟩
              go_wp2_with fail
              go_roundw
              case rel => exact ⟨j + 1, by omega, by go_num, bthen HBA2.out hb2⟩
              case measure => simp [intOf]; omega
            by_cases d_in : (j : Int) ≤ 191
            · skip
              have f0 : decide ((j : Int) ≥ 128) = true := by simp; omega
              have f1 : decide (128 ≤ (j : Int)) = true := by simp; omega
              have f2 : decide ((j : Int) ≤ 191) = true := by simp; omega
              have HB2 := Lib.hid (fun w1 => badI_as (HT.out (j : Int) (by omega) (by omega)) HM2.out (by simp) w1)
              go_wp2_with fail
              refine (HB2.out _).mono ?_; rintro e w2 ⟨rfl, hb2⟩
              go_wp2_with fail
              go_roundw
              case rel => exact ⟨j + 1, by omega, by go_num, bthen HBA2.out hb2⟩
              case measure => simp [intOf]; omega
            · have f0 : decide ((j : Int) ≥ 128) = true := by simp; omega
              have f1 : decide (128 ≤ (j : Int)) = true := by simp; omega
              have f2 : decide ((j : Int) ≤ 191) = false := by simp; omega
              have HB2 := Lib.hid (fun w1 => badI_as (HN.out (j : Int) (.inr (by omega))) HM2.out (by simp) w1)
              go_wp2_with fail
              refine (HB2.out _).mono ?_; rintro e w2 ⟨rfl, hb2⟩
              go_wp2_with fail
              go_roundw
              case rel => exact ⟨j + 1, by omega, by go_num, bthen HBA2.out hb2⟩
              case measure => simp [intOf]; omega
          · have u0 : decide ((j : Int) < 256) = false := by simp; omega
            go_wp2_with fail
            exact ⟨⟨k + 1, by omega, by go_num, hbel2⟩, by simp [intOf]; omega⟩
      by_cases c_d : (k : Int) = 237
      · have HB := Lib.hid (fun w1 => badI_as (lead_d (k : Int) (by omega)) HM.out (by simp) w1)
        have e224 : ((k : Int) == 224) = false := by simp; omega
        have e237 : ((k : Int) == 237) = true := by simp; omega
        have e240 : ((k : Int) == 240) = false := by simp; omega
        have e244 : ((k : Int) == 244) = false := by simp; omega
        have e_lt : decide ((k : Int) < 224) = false := by simp; omega
        have HT := Lib.hid (fun (y : Int) (h3 : 128 ≤ y) (h4 : y ≤ 159) => two_d (k : Int) y (by omega) h3 h4)
        have HN := Lib.hid (fun (y : Int) (h3 : y < 128 ∨ 159 < y) => twoN_d (k : Int) y (by omega) h3)
        clear c1 c2 c_d
        go_wp2_with fail
        refine (HB.out _).mono ?_; rintro e w1 ⟨rfl, hb1⟩
        go_wp2_with fail
        go_loopw [3] (fun v wr => ∃ j : Nat, j ≤ 256 ∧ v = .int .i64 j ∧ Below w.heap.size w wr) (fun v _ => 256 - (intOf v).toNat)
        case atStart => exact ⟨0, by omega, rfl, bthen HBA.out hb1⟩
        case round =>
          clear hb1 hcv
          obtain ⟨j, hj, rfl, hbel2⟩ := hrel
          have hsz2 := hbel2.size
          by_cases hjl : j < 256
          · have u0 : decide ((j : Int) < 256) = true := by simp; omega
            have hwj : IntKind.u8.wrap (j : Int) = (j : Int) := IntWalk.u8_in _ (by omega)
            have hcv2 := conv_two (k : Int) (j : Int) (by omega) (by omega) (by omega) (by omega) wr
            have HM2 : Hid (∀ y ∈ [(k : Int), (j : Int)], 0 ≤ y ∧ y < 256) := by intro y hy; simp at hy; omega
            have HBA2 := Lib.hid (hbel2.alloc hsz2 (.cells #[.int .u8 (k : Int), .int .u8 (j : Int)] 5))
            by_cases d_lowy : (j : Int) < 128
            · skip
              have f0 : decide ((j : Int) ≥ 128) = false := by simp; omega
              have f1 : decide (128 ≤ (j : Int)) = false := by simp; omega
              have HB2 := Lib.hid (fun w1 => badI_as (HN.out (j : Int) (.inl (by omega))) HM2.out (by simp) w1)
              go_wp2_with fail
              refine (HB2.out _).mono ?_; rintro e w2 ⟨rfl, hb2⟩
              go_wp2_with fail
              go_roundw
              case rel => exact ⟨j + 1, by omega, by go_num, bthen HBA2.out hb2⟩
              case measure => simp [intOf]; omega
            by_cases d_in : (j : Int) ≤ 159
            · skip
              have f0 : decide ((j : Int) ≥ 128) = true := by simp; omega
              have f1 : decide (128 ≤ (j : Int)) = true := by simp; omega
              have f2 : decide ((j : Int) ≤ 159) = true := by simp; omega
              have HB2 := Lib.hid (fun w1 => badI_as (HT.out (j : Int) (by omega) (by omega)) HM2.out (by simp) w1)
              go_wp2_with fail
              refine (HB2.out _).mono ?_; rintro e w2 ⟨rfl, hb2⟩
              go_wp2_with fail
              go_roundw
              case rel => exact ⟨j + 1, by omega, by go_num, bthen HBA2.out hb2⟩
              case measure => simp [intOf]; omega
            · have f0 : decide ((j : Int) ≥ 128) = true := by simp; omega
              have f1 : decide (128 ≤ (j : Int)) = true := by simp; omega
              have f2 : decide ((j : Int) ≤ 159) = false := by simp; omega
              have HB2 := Lib.hid (fun w1 => badI_as (HN.out (j : Int) (.inr (by omega))) HM2.out (by simp) w1)
              go_wp2_with fail
              refine (HB2.out _).mono ?_; rintro e w2 ⟨rfl, hb2⟩
              go_wp2_with fail
              go_roundw
              case rel => exact ⟨j + 1, by omega, by go_num, bthen HBA2.out hb2⟩
              case measure => simp [intOf]; omega
          · have u0 : decide ((j : Int) < 256) = false := by simp; omega
            go_wp2_with fail
            exact ⟨⟨k + 1, by omega, by go_num, hbel2⟩, by simp [intOf]; omega⟩
      by_cases c_c2 : 237 < (k : Int) ∧ (k : Int) < 240
      · have HB := Lib.hid (fun w1 => badI_as (lead_c2 (k : Int) (by omega) (by omega)) HM.out (by simp) w1)
        have e224 : ((k : Int) == 224) = false := by simp; omega
        have e237 : ((k : Int) == 237) = false := by simp; omega
        have e240 : ((k : Int) == 240) = false := by simp; omega
        have e244 : ((k : Int) == 244) = false := by simp; omega
        have e_lt : decide ((k : Int) < 224) = false := by simp; omega
        have HT := Lib.hid (fun (y : Int) (h3 : 128 ≤ y) (h4 : y ≤ 191) => two_c2 (k : Int) y (by omega) (by omega) h3 h4)
        have HN := Lib.hid (fun (y : Int) (h3 : y < 128 ∨ 191 < y) => twoN_c2 (k : Int) y (by omega) (by omega) h3)
        clear c1 c2 c_c2
        go_wp2_with fail
        refine (HB.out _).mono ?_; rintro e w1 ⟨rfl, hb1⟩
        go_wp2_with fail
        go_loopw [3] (fun v wr => ∃ j : Nat, j ≤ 256 ∧ v = .int .i64 j ∧ Below w.heap.size w wr) (fun v _ => 256 - (intOf v).toNat)
        case atStart => exact ⟨0, by omega, rfl, bthen HBA.out hb1⟩
        case round =>
          clear hb1 hcv
          obtain ⟨j, hj, rfl, hbel2⟩ := hrel
          have hsz2 := hbel2.size
          by_cases hjl : j < 256
          · have u0 : decide ((j : Int) < 256) = true := by simp; omega
            have hwj : IntKind.u8.wrap (j : Int) = (j : Int) := IntWalk.u8_in _ (by omega)
            have hcv2 := conv_two (k : Int) (j : Int) (by omega) (by omega) (by omega) (by omega) wr
            have HM2 : Hid (∀ y ∈ [(k : Int), (j : Int)], 0 ≤ y ∧ y < 256) := by intro y hy; simp at hy; omega
            have HBA2 := Lib.hid (hbel2.alloc hsz2 (.cells #[.int .u8 (k : Int), .int .u8 (j : Int)] 5))
            by_cases d_lowy : (j : Int) < 128
            · skip
              have f0 : decide ((j : Int) ≥ 128) = false := by simp; omega
              have f1 : decide (128 ≤ (j : Int)) = false := by simp; omega
              have HB2 := Lib.hid (fun w1 => badI_as (HN.out (j : Int) (.inl (by omega))) HM2.out (by simp) w1)
              go_wp2_with fail
              refine (HB2.out _).mono ?_; rintro e w2 ⟨rfl, hb2⟩
              go_wp2_with fail
              go_roundw
              case rel => exact ⟨j + 1, by omega, by go_num, bthen HBA2.out hb2⟩
              case measure => simp [intOf]; omega
            by_cases d_in : (j : Int) ≤ 191
            · skip
              have f0 : decide ((j : Int) ≥ 128) = true := by simp; omega
              have f1 : decide (128 ≤ (j : Int)) = true := by simp; omega
              have f2 : decide ((j : Int) ≤ 191) = true := by simp; omega
              have HB2 := Lib.hid (fun w1 => badI_as (HT.out (j : Int) (by omega) (by omega)) HM2.out (by simp) w1)
              go_wp2_with fail
              refine (HB2.out _).mono ?_; rintro e w2 ⟨rfl, hb2⟩
              go_wp2_with fail
              go_roundw
              case rel => exact ⟨j + 1, by omega, by go_num, bthen HBA2.out hb2⟩
              case measure => simp [intOf]; omega
            · have f0 : decide ((j : Int) ≥ 128) = true := by simp; omega
              have f1 : decide (128 ≤ (j : Int)) = true := by simp; omega
              have f2 : decide ((j : Int) ≤ 191) = false := by simp; omega
              have HB2 := Lib.hid (fun w1 => badI_as (HN.out (j : Int) (.inr (by omega))) HM2.out (by simp) w1)
              go_wp2_with fail
              refine (HB2.out _).mono ?_; rintro e w2 ⟨rfl, hb2⟩
              go_wp2_with fail
              go_roundw
              case rel => exact ⟨j + 1, by omega, by go_num, bthen HBA2.out hb2⟩
              case measure => simp [intOf]; omega
          · have u0 : decide ((j : Int) < 256) = false := by simp; omega
            go_wp2_with fail
            exact ⟨⟨k + 1, by omega, by go_num, hbel2⟩, by simp [intOf]; omega⟩
      by_cases c_e : (k : Int) = 240
      · have HB := Lib.hid (fun w1 => badI_as (lead_e (k : Int) (by omega)) HM.out (by simp) w1)
        have e224 : ((k : Int) == 224) = false := by simp; omega
        have e237 : ((k : Int) == 237) = false := by simp; omega
        have e240 : ((k : Int) == 240) = true := by simp; omega
        have e244 : ((k : Int) == 244) = false := by simp; omega
        have e_lt : decide ((k : Int) < 224) = false := by simp; omega
        have HT := Lib.hid (fun (y : Int) (h3 : 144 ≤ y) (h4 : y ≤ 191) => two_e (k : Int) y (by omega) h3 h4)
        have HN := Lib.hid (fun (y : Int) (h3 : y < 144 ∨ 191 < y) => twoN_e (k : Int) y (by omega) h3)
        clear c1 c2 c_e
        go_wp2_with fail
        refine (HB.out _).mono ?_; rintro e w1 ⟨rfl, hb1⟩
        go_wp2_with fail
        go_loopw [3] (fun v wr => ∃ j : Nat, j ≤ 256 ∧ v = .int .i64 j ∧ Below w.heap.size w wr) (fun v _ => 256 - (intOf v).toNat)
        case atStart => exact ⟨0, by omega, rfl, bthen HBA.out hb1⟩
        case round =>
          clear hb1 hcv
          obtain ⟨j, hj, rfl, hbel2⟩ := hrel
          have hsz2 := hbel2.size
          by_cases hjl : j < 256
          · have u0 : decide ((j : Int) < 256) = true := by simp; omega
            have hwj : IntKind.u8.wrap (j : Int) = (j : Int) := IntWalk.u8_in _ (by omega)
            have hcv2 := conv_two (k : Int) (j : Int) (by omega) (by omega) (by omega) (by omega) wr
            have HM2 : Hid (∀ y ∈ [(k : Int), (j : Int)], 0 ≤ y ∧ y < 256) := by intro y hy; simp at hy; omega
            have HBA2 := Lib.hid (hbel2.alloc hsz2 (.cells #[.int .u8 (k : Int), .int .u8 (j : Int)] 5))
            by_cases d_lowy : (j : Int) < 144
            · skip
              have f0 : decide ((j : Int) ≥ 144) = false := by simp; omega
              have f1 : decide (144 ≤ (j : Int)) = false := by simp; omega
              have HB2 := Lib.hid (fun w1 => badI_as (HN.out (j : Int) (.inl (by omega))) HM2.out (by simp) w1)
              go_wp2_with fail
              refine (HB2.out _).mono ?_; rintro e w2 ⟨rfl, hb2⟩
              go_wp2_with fail
              go_roundw
              case rel => exact ⟨j + 1, by omega, by go_num, bthen HBA2.out hb2⟩
              case measure => simp [intOf]; omega
            by_cases d_in : (j : Int) ≤ 191
            · skip
              have f0 : decide ((j : Int) ≥ 144) = true := by simp; omega
              have f1 : decide (144 ≤ (j : Int)) = true := by simp; omega
              have f2 : decide ((j : Int) ≤ 191) = true := by simp; omega
              have HB2 := Lib.hid (fun w1 => badI_as (HT.out (j : Int) (by omega) (by omega)) HM2.out (by simp) w1)
              go_wp2_with fail
              refine (HB2.out _).mono ?_; rintro e w2 ⟨rfl, hb2⟩
              go_wp2_with fail
              go_roundw
              case rel => exact ⟨j + 1, by omega, by go_num, bthen HBA2.out hb2⟩
              case measure => simp [intOf]; omega
            · have f0 : decide ((j : Int) ≥ 144) = true := by simp; omega
              have f1 : decide (144 ≤ (j : Int)) = true := by simp; omega
              have f2 : decide ((j : Int) ≤ 191) = false := by simp; omega
              have HB2 := Lib.hid (fun w1 => badI_as (HN.out (j : Int) (.inr (by omega))) HM2.out (by simp) w1)
              go_wp2_with fail
              refine (HB2.out _).mono ?_; rintro e w2 ⟨rfl, hb2⟩
              go_wp2_with fail
              go_roundw
              case rel => exact ⟨j + 1, by omega, by go_num, bthen HBA2.out hb2⟩
              case measure => simp [intOf]; omega
          · have u0 : decide ((j : Int) < 256) = false := by simp; omega
            go_wp2_with fail
            exact ⟨⟨k + 1, by omega, by go_num, hbel2⟩, by simp [intOf]; omega⟩
      by_cases c_f : 240 < (k : Int) ∧ (k : Int) < 244
      · have HB := Lib.hid (fun w1 => badI_as (lead_f (k : Int) (by omega) (by omega)) HM.out (by simp) w1)
        have e224 : ((k : Int) == 224) = false := by simp; omega
        have e237 : ((k : Int) == 237) = false := by simp; omega
        have e240 : ((k : Int) == 240) = false := by simp; omega
        have e244 : ((k : Int) == 244) = false := by simp; omega
        have e_lt : decide ((k : Int) < 224) = false := by simp; omega
        have HT := Lib.hid (fun (y : Int) (h3 : 128 ≤ y) (h4 : y ≤ 191) => two_f (k : Int) y (by omega) (by omega) h3 h4)
        have HN := Lib.hid (fun (y : Int) (h3 : y < 128 ∨ 191 < y) => twoN_f (k : Int) y (by omega) (by omega) h3)
        clear c1 c2 c_f
        go_wp2_with fail
        refine (HB.out _).mono ?_; rintro e w1 ⟨rfl, hb1⟩
        go_wp2_with fail
        go_loopw [3] (fun v wr => ∃ j : Nat, j ≤ 256 ∧ v = .int .i64 j ∧ Below w.heap.size w wr) (fun v _ => 256 - (intOf v).toNat)
        case atStart => exact ⟨0, by omega, rfl, bthen HBA.out hb1⟩
        case round =>
          clear hb1 hcv
          obtain ⟨j, hj, rfl, hbel2⟩ := hrel
          have hsz2 := hbel2.size
          by_cases hjl : j < 256
          · have u0 : decide ((j : Int) < 256) = true := by simp; omega
            have hwj : IntKind.u8.wrap (j : Int) = (j : Int) := IntWalk.u8_in _ (by omega)
            have hcv2 := conv_two (k : Int) (j : Int) (by omega) (by omega) (by omega) (by omega) wr
            have HM2 : Hid (∀ y ∈ [(k : Int), (j : Int)], 0 ≤ y ∧ y < 256) := by intro y hy; simp at hy; omega
            have HBA2 := Lib.hid (hbel2.alloc hsz2 (.cells #[.int .u8 (k : Int), .int .u8 (j : Int)] 5))
            by_cases d_lowy : (j : Int) < 128
            · skip
              have f0 : decide ((j : Int) ≥ 128) = false := by simp; omega
              have f1 : decide (128 ≤ (j : Int)) = false := by simp; omega
              have HB2 := Lib.hid (fun w1 => badI_as (HN.out (j : Int) (.inl (by omega))) HM2.out (by simp) w1)
              go_wp2_with fail
              refine (HB2.out _).mono ?_; rintro e w2 ⟨rfl, hb2⟩
              go_wp2_with fail
              go_roundw
              case rel => exact ⟨j + 1, by omega, by go_num, bthen HBA2.out hb2⟩
              case measure => simp [intOf]; omega
            by_cases d_in : (j : Int) ≤ 191
            · skip
              have f0 : decide ((j : Int) ≥ 128) = true := by simp; omega
              have f1 : decide (128 ≤ (j : Int)) = true := by simp; omega
              have f2 : decide ((j : Int) ≤ 191) = true := by simp; omega
              have HB2 := Lib.hid (fun w1 => badI_as (HT.out (j : Int) (by omega) (by omega)) HM2.out (by simp) w1)
              go_wp2_with fail
              refine (HB2.out _).mono ?_; rintro e w2 ⟨rfl, hb2⟩
              go_wp2_with fail
              go_roundw
              case rel => exact ⟨j + 1, by omega, by go_num, bthen HBA2.out hb2⟩
              case measure => simp [intOf]; omega
            · have f0 : decide ((j : Int) ≥ 128) = true := by simp; omega
              have f1 : decide (128 ≤ (j : Int)) = true := by simp; omega
              have f2 : decide ((j : Int) ≤ 191) = false := by simp; omega
              have HB2 := Lib.hid (fun w1 => badI_as (HN.out (j : Int) (.inr (by omega))) HM2.out (by simp) w1)
              go_wp2_with fail
              refine (HB2.out _).mono ?_; rintro e w2 ⟨rfl, hb2⟩
              go_wp2_with fail
              go_roundw
              case rel => exact ⟨j + 1, by omega, by go_num, bthen HBA2.out hb2⟩
              case measure => simp [intOf]; omega
          · have u0 : decide ((j : Int) < 256) = false := by simp; omega
            go_wp2_with fail
            exact ⟨⟨k + 1, by omega, by go_num, hbel2⟩, by simp [intOf]; omega⟩
      by_cases c_g : (k : Int) = 244
      · have HB := Lib.hid (fun w1 => badI_as (lead_g (k : Int) (by omega)) HM.out (by simp) w1)
        have e224 : ((k : Int) == 224) = false := by simp; omega
        have e237 : ((k : Int) == 237) = false := by simp; omega
        have e240 : ((k : Int) == 240) = false := by simp; omega
        have e244 : ((k : Int) == 244) = true := by simp; omega
        have e_lt : decide ((k : Int) < 224) = false := by simp; omega
        have HT := Lib.hid (fun (y : Int) (h3 : 128 ≤ y) (h4 : y ≤ 143) => two_g (k : Int) y (by omega) h3 h4)
        have HN := Lib.hid (fun (y : Int) (h3 : y < 128 ∨ 143 < y) => twoN_g (k : Int) y (by omega) h3)
        clear c1 c2 c_g
        go_wp2_with fail
        refine (HB.out _).mono ?_; rintro e w1 ⟨rfl, hb1⟩
        go_wp2_with fail
        go_loopw [3] (fun v wr => ∃ j : Nat, j ≤ 256 ∧ v = .int .i64 j ∧ Below w.heap.size w wr) (fun v _ => 256 - (intOf v).toNat)
        case atStart => exact ⟨0, by omega, rfl, bthen HBA.out hb1⟩
        case round =>
          clear hb1 hcv
          obtain ⟨j, hj, rfl, hbel2⟩ := hrel
          have hsz2 := hbel2.size
          by_cases hjl : j < 256
          · have u0 : decide ((j : Int) < 256) = true := by simp; omega
            have hwj : IntKind.u8.wrap (j : Int) = (j : Int) := IntWalk.u8_in _ (by omega)
            have hcv2 := conv_two (k : Int) (j : Int) (by omega) (by omega) (by omega) (by omega) wr
            have HM2 : Hid (∀ y ∈ [(k : Int), (j : Int)], 0 ≤ y ∧ y < 256) := by intro y hy; simp at hy; omega
            have HBA2 := Lib.hid (hbel2.alloc hsz2 (.cells #[.int .u8 (k : Int), .int .u8 (j : Int)] 5))
            by_cases d_lowy : (j : Int) < 128
            · skip
              have f0 : decide ((j : Int) ≥ 128) = false := by simp; omega
              have f1 : decide (128 ≤ (j : Int)) = false := by simp; omega
              have HB2 := Lib.hid (fun w1 => badI_as (HN.out (j : Int) (.inl (by omega))) HM2.out (by simp) w1)
              go_wp2_with fail
              refine (HB2.out _).mono ?_; rintro e w2 ⟨rfl, hb2⟩
              go_wp2_with fail
              go_roundw
              case rel => exact ⟨j + 1, by omega, by go_num, bthen HBA2.out hb2⟩
              case measure => simp [intOf]; omega
            by_cases d_in : (j : Int) ≤ 143
            · skip
              have f0 : decide ((j : Int) ≥ 128) = true := by simp; omega
              have f1 : decide (128 ≤ (j : Int)) = true := by simp; omega
              have f2 : decide ((j : Int) ≤ 143) = true := by simp; omega
              have HB2 := Lib.hid (fun w1 => badI_as (HT.out (j : Int) (by omega) (by omega)) HM2.out (by simp) w1)
              go_wp2_with fail
              refine (HB2.out _).mono ?_; rintro e w2 ⟨rfl, hb2⟩
              go_wp2_with fail
              go_roundw
              case rel => exact ⟨j + 1, by omega, by go_num, bthen HBA2.out hb2⟩
              case measure => simp [intOf]; omega
            · have f0 : decide ((j : Int) ≥ 128) = true := by simp; omega
              have f1 : decide (128 ≤ (j : Int)) = true := by simp; omega
              have f2 : decide ((j : Int) ≤ 143) = false := by simp; omega
              have HB2 := Lib.hid (fun w1 => badI_as (HN.out (j : Int) (.inr (by omega))) HM2.out (by simp) w1)
              go_wp2_with fail
              refine (HB2.out _).mono ?_; rintro e w2 ⟨rfl, hb2⟩
              go_wp2_with fail
              go_roundw
              case rel => exact ⟨j + 1, by omega, by go_num, bthen HBA2.out hb2⟩
              case measure => simp [intOf]; omega
          · have u0 : decide ((j : Int) < 256) = false := by simp; omega
            go_wp2_with fail
            exact ⟨⟨k + 1, by omega, by go_num, hbel2⟩, by simp [intOf]; omega⟩
      exfalso; omega
    · obtain rfl : k = 256 := by omega
      go_wp2_with fail
      go_ret
      exact ⟨rfl, hbel⟩
end Go.Proofs.Ytpdglihihpopeaa.Utf
