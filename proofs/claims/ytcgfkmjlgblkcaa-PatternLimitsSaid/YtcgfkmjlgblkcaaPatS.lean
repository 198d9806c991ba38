/- Lists of entries: where they lie, that they are the same; Pick, mark. -/
import Derived.Test.YtcgfkmjlgblkcaaPatK
import Derived.Laws.StructEq
namespace Go.Proofs.Ytcgfkmjlgblkcaa.Pat
set_option linter.unusedVariables false
set_option linter.unusedSimpArgs false
open Go.RowKit Go.Proofs.Ytcgfkmjlgblkcaa.Mem Go.Proofs.Ytcgfkmjlgblkcaa.Own

theorem cs_length (x : Rec) : x.cs.length = 4 := rfl
def flat (R : List Rec) : List Value := R.flatMap Rec.cs
theorem flat_length : ∀ R : List Rec, (flat R).length = R.length * 4
  | [] => rfl
  | x :: R => by unfold flat; rw [List.flatMap_cons, List.length_append, List.length_cons]; have := flat_length R; unfold flat at this; rw [this, cs_length]; omega
theorem flat_at : ∀ (R : List Rec) (i j : Nat), i < R.length → j < 4 → (flat R)[i * 4 + j]? = (ra R i).cs[j]?
  | [], i, j, h, _ => absurd h (by simp)
  | x :: R, 0, j, _, hj => by
    unfold flat
    rw [List.flatMap_cons, List.getElem?_append_left (by rw [cs_length]; omega), Nat.zero_mul, Nat.zero_add]; rfl
  | x :: R, i + 1, j, h, hj => by
    have ih := flat_at R i j (by simpa using h) hj
    unfold flat at ih ⊢
    rw [List.flatMap_cons, List.getElem?_append_right (by rw [cs_length]; omega), cs_length, show (i + 1) * 4 + j - 4 = i * 4 + j by omega, ih]
    rfl
theorem flat_snoc (R : List Rec) (x : Rec) : flat (R ++ [x]) = flat R ++ x.cs := by simp [flat]
theorem flat_app (R S : List Rec) : flat (R ++ S) = flat R ++ flat S := by simp [flat]
theorem cs_one : ∀ (x : Rec), ∀ u ∈ x.cs, u.oneCell' = true := by
  intro x u hu
  simp [Rec.cs] at hu
  rcases hu with rfl | rfl | rfl | rfl <;> rfl
/-- A row of entries that the call owns. -/
def RowR (w : World) (B : Nat) (v : Value) (R : List Rec) : Prop := w.ownsRow B 31 4 v R.length (flat R)
theorem RowR.form {w : World} {B : Nat} {v : Value} {R : List Rec} (h : RowR w B v R) : ∃ a0 cap, v = .slice a0 R.length cap ∧ RecsAt w a0 R ∧ (R ≠ [] → ∃ g, a0 = some ⟨g, 0, none⟩ ∧ B ≤ g) := by
  rcases h.2 with ⟨rfl, hn⟩ | ⟨g, cap, cur, rfl, hb, hg, hnc, hcm, hcs, htake⟩
  · refine ⟨none, 0, by rw [hn], ⟨fun i hi => by omega⟩, fun hne => absurd (List.eq_nil_of_length_eq_zero hn) hne⟩
  · refine ⟨some ⟨g, 0, none⟩, cap, rfl, ⟨fun i hi => ?_⟩, fun _ => ⟨g, rfl, hb⟩⟩
    have hc : ∀ j, j < 4 → w.cell? ⟨g, 0 + i * 4 + j, none⟩ = (ra R i).cs[j]? := fun j hj => by
      rw [World.ownsRow.cellAt (e := 31) (base := B) (size := 4) (g := g) (n := R.length) (cap := cap) (xs := flat R) h _ (by omega), Nat.zero_add, flat_at R i j hi hj]
    refine ⟨g, 0, rfl, (Array.getElem?_eq_some_iff.1 hg).1, hc 0 (by omega), hc 1 (by omega), hc 2 (by omega), hc 3 (by omega)⟩
theorem RowR.below {w w' : World} {B : Nat} {v : Value} {R : List Rec} (h : RowR w B v R) (hb : Below w.heap.size w w') : RowR w' B v R := own_below h hb
theorem RowR.touch {w w' : World} {B : Nat} {v : Value} {R : List Rec} {S : Nat → Prop} (h : RowR w B v R) (ht : Touch S w w') (hs : ∀ g, v.ownBlock = some g → ¬ S g) : RowR w' B v R := ht.own h hs
def recB (x y : Rec) : Bool := x.route.toList == y.route.toList && (x.name.toList == y.name.toList && (x.place == y.place && x.hits == y.hits))
theorem learnt_fields : Try.prog.underlying 31 = some (.struct (Try.prog.fieldsOf 31)) := by kernel_rfl
theorem learnt_stood : Try.prog.stoodInHeld 31 = false := by kernel_rfl
theorem learnt_guard : Try.prog.eqGuardType Try.prog.depth 31 = false := by kernel_rfl
set_option maxHeartbeats 1000000 in
theorem rec_equal (x y : Rec) (w : World) (d : Nat) : (Op.equalIn (d + 2) 31 (.agg #[.string x.route, .string x.name, .int .i64 x.place, .int .i64 x.hits]) (.agg #[.string y.route, .string y.name, .int .i64 y.place, .int .i64 y.hits])).run Try.prog w = .ok (recB x y) w := by
  rw [run_equalIn_struct w (d + 1) 31 _ _ learnt_fields learnt_stood]
  simp only [Program.fieldsOf, Try.underlying31]
  go_simp
  unfold recB
  by_cases h1 : x.route.toList = y.route.toList
  · by_cases h2 : x.name.toList = y.name.toList
    · by_cases h3 : x.place = y.place
      · by_cases h4 : x.hits = y.hits <;> simp [h1, h2, h3, h4]
      · simp [h1, h2, h3]
    · simp [h1, h2]
  · simp [h1]
theorem recB_self (x : Rec) : recB x x = true := by simp [recB]
theorem recB_eq {x y : Rec} (h : recB x y = true) : x = y := by
  simp [recB] at h
  obtain ⟨h1, h2, h3, h4⟩ := h
  have e : ∀ a b : ByteArray, a.toList = b.toList → a = b := fun a b hab => by
    have := beq_toListBytes a b
    rw [hab, beq_self_eq_true] at this
    rcases a with ⟨a⟩
    rcases b with ⟨b⟩
    have h5 : (a == b) = true := this
    exact congrArg ByteArray.mk (eq_of_beq h5)
  have e1 := e _ _ h1
  have e2 := e _ _ h2
  cases x; cases y
  simp only at h3 h4 e1 e2
  subst h3 h4 e1 e2
  rfl
theorem recB_ne {x y : Rec} (h : x ≠ y) : recB x y = false := by
  cases hb : recB x y
  · rfl
  · exact absurd (recB_eq hb) h
theorem rec_neq (x y : Rec) (w : World) : (binOp .neq 31 (.agg #[.string x.route, .string x.name, .int .i64 x.place, .int .i64 x.hits]) (.agg #[.string y.route, .string y.name, .int .i64 y.place, .int .i64 y.hits])).run Try.prog w = .ok (.bool (!recB x y)) w := by
  rw [run_neq_struct, rec_equal x y w 9998]; rfl
theorem rec_eql (x y : Rec) (w : World) : (binOp .eql 31 (.agg #[.string x.route, .string x.name, .int .i64 x.place, .int .i64 x.hits]) (.agg #[.string y.route, .string y.name, .int .i64 y.place, .int .i64 y.hits])).run Try.prog w = .ok (.bool (recB x y)) w := by
  rw [run_eql_struct, rec_equal x y w 9998]; rfl
set_option maxHeartbeats 2000000 in
theorem same_yes (a0 b0 : Option Addr) (ca cb n : Nat) (R : List Rec) (w : World) (hn : n = R.length) (hm : n < 17592186044400) (ha : RecsAt w a0 R) (hb : RecsAt w b0 R) :
    Calls Try.prog 14 #[.slice a0 n ca, .slice b0 n cb] w fun e w' => e = .returned (.bool true) ∧ ∃ q, w' = w.drewN q := by
  have HA := Lib.hid ha
  have HB := Lib.hid hb
  have HN := Lib.hid hn
  clear ha hb hn
  go_enter Try.func14, Try.ntmps14
  go_wp2_with fail
  go_loopw [5] (fun i wr => ∃ k : Nat, k ≤ n ∧ i = .int .i64 k ∧ ∃ q, Hid (wr = w.drewN q)) (fun i _ => n - (intOf i).toNat)
  case atStart => exact ⟨0, Nat.zero_le _, rfl, 0, Lib.hid rfl⟩
  case round =>
    obtain ⟨k, hk, rfl, q, hq⟩ := hrel
    by_cases hkn : k < n
    · have hkR : k < R.length := by rw [← HN.out]; exact hkn
      obtain ⟨b, off, rfl, -, c0, c1, c2, c3⟩ := HA.out.at_ k hkR
      obtain ⟨b2, off2, rfl, -, d0, d1, d2, d3⟩ := HB.out.at_ k hkR
      obtain ⟨x, hx⟩ : ∃ x, ra R k = x := ⟨_, rfl⟩
      rw [hx] at c0 c1 c2 c3 d0 d1 d2 d3
      have hne := fun W => rec_neq x x W
      rw [recB_self x] at hne
      obtain rfl := hq.out
      have tk : decide ((k : Int) < (n : Int)) = true := by simp; omega
      have h0 : (0 : Int) ≤ (k : Int) := by omega
      have h1 : (k : Int) < (n : Int) := by omega
      clear hx hkR
      go_wp2_with fail
      go_quiet (fail)
      go_wp2_with fail
      go_roundw
      case rel => exact ⟨k + 1, by omega, by go_num, _, Lib.hid rfl⟩
      case measure => simp [intOf]; omega
    · obtain rfl : n = k := by omega
      have tk : decide ((n : Int) < (n : Int)) = false := by simp
      go_wp2_with fail
      go_ret
      exact ⟨rfl, q, hq.out⟩
end Go.Proofs.Ytcgfkmjlgblkcaa.Pat
