/- Plain words for Unescape and Escape, and their laws. -/
import Derived.Test.YtlfkhfmepcnfeaaTxt
import Derived.Test.YtlfkhfmepcnfeaaUtfE
namespace Go.Proofs.Ytlfkhfmepcnfeaa.Txt
set_option linter.unusedVariables false
set_option linter.unusedSimpArgs false
open Go.RowKit Go.Proofs.Ytlfkhfmepcnfeaa.Utf

/-- What the escape that begins there means as a character, and how many bytes it takes. -/
def escU (l : List UInt8) : Option (Int × Nat) :=
  if (oneL l).2 = 0 then none
  else if 55296 ≤ (oneL l).1 ∧ (oneL l).1 < 56320 then
    if (oneL (l.drop (oneL l).2)).2 = 6 ∧ 56320 ≤ (oneL (l.drop (oneL l).2)).1 ∧ (oneL (l.drop (oneL l).2)).1 < 57344 then some (65536 + ((oneL l).1 - 55296) * 1024 + ((oneL (l.drop (oneL l).2)).1 - 56320), (oneL l).2 + 6)
    else some (65533, (oneL l).2)
  else if 56320 ≤ (oneL l).1 ∧ (oneL l).1 < 57344 then some (65533, (oneL l).2)
  else some ((oneL l).1, (oneL l).2)
/-- A byte that stands for itself. -/
def okB (x : UInt8) : Bool := !(decide ((x.toNat : Int) < 32) || ((x.toNat : Int) == 34))
def bs (x : UInt8) : Bool := (x.toNat : Int) == 92
def stepU (l : List UInt8) : Option (List UInt8 × Nat) :=
  if okB (l.getD 0 0) = false then none
  else if bs (l.getD 0 0) = false then some ([l.getD 0 0], 1)
  else (escU l).map fun x => (encL x.1, x.2)
def contU (o : Option (List UInt8 × Nat)) (g : Nat → Option (List UInt8)) : Option (List UInt8) :=
  match o with
  | none => none
  | some (o, c) => (g (c - 1)).map (o ++ ·)
def unS (f : List UInt8 → Option (List UInt8 × Nat)) : List UInt8 → Nat → Option (List UInt8)
  | [], _ => some []
  | _ :: m, k + 1 => unS f m k
  | x :: m, 0 => contU (f (x :: m)) (unS f m)
theorem unS_drop (f : List UInt8 → Option (List UInt8 × Nat)) : ∀ (l : List UInt8) (k : Nat), unS f l k = unS f (l.drop k) 0
  | [], k => by rw [List.drop_nil]; simp [unS]
  | x :: m, 0 => by rw [List.drop_zero]
  | x :: m, k + 1 => by rw [List.drop_succ_cons, ← unS_drop f m k, unS]
theorem unS_cons (f : List UInt8 → Option (List UInt8 × Nat)) (x : UInt8) (m : List UInt8) : unS f (x :: m) 0 = contU (f (x :: m)) (unS f m) := by rw [unS]
def unF (l : List UInt8) : Option (List UInt8) := unS stepU l 0
theorem unF_nil : unF [] = some [] := by unfold unF; rw [unS]
theorem unF_cons (x : UInt8) (m : List UInt8) : unF (x :: m) = match stepU (x :: m) with
    | none => none
    | some (o, c) => (unF (m.drop (c - 1))).map (o ++ ·) := by
  unfold unF
  rw [unS_cons]
  generalize stepU (x :: m) = q
  cases q with
  | none => rfl
  | some p =>
    obtain ⟨o, c⟩ := p
    show (unS stepU m (c - 1)).map _ = _
    rw [unS_drop]
theorem unF_plain (x : UInt8) (m : List UInt8) (h1 : okB x = true) (h2 : bs x = false) : unF (x :: m) = (unF m).map ([x] ++ ·) := by
  rw [unF_cons]
  have : stepU (x :: m) = some ([x], 1) := by
    unfold stepU
    rw [List.getD_cons_zero, if_neg (by simp [h1]), if_pos h2]
  rw [this]; rfl
theorem unF_bad (x : UInt8) (m : List UInt8) (h : okB x = false) : unF (x :: m) = none := by
  rw [unF_cons]
  have : stepU (x :: m) = none := by unfold stepU; rw [List.getD_cons_zero, if_pos h]
  rw [this]
theorem map_map {α β γ : Type} (o : Option α) (f : α → β) (g : β → γ) : (o.map f).map g = o.map (g ∘ f) := by cases o <;> rfl
/-- A stretch of bytes that stand for themselves. -/
theorem unF_stretch : ∀ (p rest : List UInt8), (∀ x ∈ p, okB x = true ∧ bs x = false) → unF (p ++ rest) = (unF rest).map (p ++ ·)
  | [], rest, _ => by simp
  | x :: p, rest, h => by
    obtain ⟨h1, h2⟩ := h x (by simp)
    rw [List.cons_append, unF_plain x _ h1 h2, unF_stretch p rest fun y hy => h y (by simp [hy])]
    cases unF rest <;> simp
theorem unF_stop : ∀ (p rest : List UInt8), (∀ x ∈ p, okB x = true ∧ bs x = false) → unF rest = none → unF (p ++ rest) = none
  | p, rest, h, hr => by rw [unF_stretch p rest h, hr]; rfl
theorem bs_ok {x : UInt8} (h : bs x = true) : okB x = true := by
  unfold bs at h; unfold okB
  simp only [beq_iff_eq] at h
  rw [h]; rfl
theorem unF_esc (x : UInt8) (m : List UInt8) (h : bs x = true) : unF (x :: m) = match escU (x :: m) with
    | none => none
    | some (r, c) => (unF ((x :: m).drop c)).map (encL r ++ ·) := by
  rw [unF_cons]
  have h2 := bs_ok h
  have e : stepU (x :: m) = (escU (x :: m)).map fun x => (encL x.1, x.2) := by
    unfold stepU
    rw [List.getD_cons_zero, if_neg (by simp [h2]), if_neg (by simp [h])]
  rw [e]
  cases hq : escU (x :: m) with
  | none => rfl
  | some p =>
    obtain ⟨r, c⟩ := p
    simp only [Option.map_some]
    have hc : c ≠ 0 := by
      unfold escU at hq
      repeat' split at hq
      all_goals first | (cases hq; done) | (simp at hq; omega)
    obtain ⟨k, rfl⟩ : ∃ k, c = k + 1 := ⟨c - 1, by omega⟩
    rfl
theorem four_cases (l : List UInt8) : fourL l = (0, 0) ∨ (6 ≤ l.length ∧ fourL l = (valF l 4, 6) ∧ 0 ≤ valF l 4 ∧ valF l 4 < 65536) := by
  unfold fourL
  split
  · rename_i h
    have := valF_bound l 4 fun j hj => by
      match j, hj with
      | 0, _ => exact h.2.1
      | 1, _ => exact h.2.2.1
      | 2, _ => exact h.2.2.2.1
      | 3, _ => exact h.2.2.2.2
    exact .inr ⟨h.1, rfl, by omega, by omega⟩
  · exact .inl rfl
theorem small_le (x : Int) (h : 0 ≤ small x) : small x ≤ 116 := by
  unfold small at *
  repeat' split
  all_goals omega
theorem one_cases (l : List UInt8) : oneL l = (0, 0) ∨ (2 ≤ l.length ∧ (oneL l).2 = 2 ∧ 0 ≤ (oneL l).1 ∧ (oneL l).1 ≤ 116) ∨ (6 ≤ l.length ∧ oneL l = fourL l ∧ (oneL l).2 = 6 ∧ 0 ≤ (oneL l).1 ∧ (oneL l).1 < 65536) := by
  unfold oneL
  split
  · exact .inl rfl
  rename_i h
  split
  · rcases four_cases l with h4 | ⟨h4, h5, h6, h7⟩
    · exact .inl h4
    · exact .inr (.inr ⟨h4, rfl, by rw [h5], by rw [h5]; exact h6, by rw [h5]; exact h7⟩)
  split
  · exact .inl rfl
  · rename_i hs
    exact .inr (.inl ⟨by omega, rfl, by show 0 ≤ small _; omega, small_le _ (by omega)⟩)
theorem esc_facts {l : List UInt8} {r : Int} {c : Nat} (h : escU l = some (r, c)) : 0 ≤ r ∧ r ≤ 1114111 ∧ ¬(55296 ≤ r ∧ r ≤ 57343) ∧ 2 ≤ c ∧ c ≤ l.length ∧ (encL r).length + 1 ≤ c := by
  have h1 := one_cases l
  have h2 := one_cases (l.drop (oneL l).2)
  rw [List.length_drop] at h2
  have enc3 : (encL 65533).length = 3 := by rw [enc_three (by omega) (by omega) (by omega)]; rfl
  unfold escU at h
  split at h
  · cases h
  rename_i hz
  have hne : oneL l ≠ (0, 0) := fun e => hz (by rw [e])
  have hne1 := h1.resolve_left hne
  split at h
  · rename_i hh
    split at h
    · rename_i hl
      have hne2 : oneL (l.drop (oneL l).2) ≠ (0, 0) := fun e => by rw [e] at hl; simp at hl
      have h2' := h2.resolve_left hne2
      simp only [Option.some.injEq, Prod.mk.injEq] at h
      obtain ⟨rfl, rfl⟩ := h
      have : (encL (65536 + ((oneL l).1 - 55296) * 1024 + ((oneL (l.drop (oneL l).2)).1 - 56320))).length = 4 := by
        rw [enc_four (by omega) (by omega)]; rfl
      rw [this]
      omega
    · simp only [Option.some.injEq, Prod.mk.injEq] at h
      obtain ⟨rfl, rfl⟩ := h
      rw [enc3]; omega
  · rename_i hh
    split at h
    · simp only [Option.some.injEq, Prod.mk.injEq] at h
      obtain ⟨rfl, rfl⟩ := h
      rw [enc3]; omega
    · rename_i hl
      simp only [Option.some.injEq, Prod.mk.injEq] at h
      obtain ⟨rfl, rfl⟩ := h
      have hlen : (encL (oneL l).1).length ≤ 3 ∧ ((oneL l).1 < 128 → (encL (oneL l).1).length = 1) := by
        by_cases a : (oneL l).1 < 128
        · rw [enc_one (by omega) a]; simp
        by_cases b : (oneL l).1 < 2048
        · rw [enc_two (by omega) b]; simp [a]
        · rw [enc_three (by omega) (by omega) (by omega)]; simp [a]
      omega
end Go.Proofs.Ytlfkhfmepcnfeaa.Txt
