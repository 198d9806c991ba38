/- A pattern as its callers know it: its contracts on lists. -/
import Derived.Test.YtcgfkmjlgblkcaaPatF
namespace Go.Proofs.Ytcgfkmjlgblkcaa.Pat
set_option linter.unusedVariables false
set_option linter.unusedSimpArgs false
open Go.RowKit Go.Proofs.Ytcgfkmjlgblkcaa.Mem Go.Proofs.Ytcgfkmjlgblkcaa.Own

/-- A pattern at p that knows R; F: its blocks; a: how many came at most. -/
def PatS (w : World) (B p : Nat) (F : Nat → Prop) (room : Int) (R : List Rec) (a : Int) : Prop :=
  ∃ (m : Nat) (v : Value) (age : Int) (M L : List Ent), Pat w B p m v room age M ∧ Aged M L ∧ L.map Ent.r = R ∧ (∀ b, F b ↔ FootP p m v M b) ∧ age ≤ a ∧ (R.length : Int) ≤ room ∧ room ≤ 4096
theorem foot_lt {w : World} {B p m : Nat} {v : Value} {room age : Int} {M : List Ent} (h : Pat w B p m v room age M) {b : Nat} (hb : FootP p m v M b) : b < w.heap.size ∧ B ≤ b := by
  rcases hb with e | e | e | e
  · subst e; exact ⟨Blk.lt h.pb, h.low.1⟩
  · subst e; exact ⟨h.known.lt, h.low.2.1⟩
  · exact ⟨(h.row.lt b e).2, (h.row.lt b e).1⟩
  · obtain ⟨y, hy, rfl⟩ := List.mem_map.1 e
    obtain ⟨j, hj, rfl⟩ := mem_at hy
    exact ⟨Blk.lt (h.ents j hj), h.low.2.2 _ hy⟩
theorem PatS.lt {w : World} {B p : Nat} {F : Nat → Prop} {room : Int} {R : List Rec} {a : Int} (h : PatS w B p F room R a) {b : Nat} (hb : F b) : b < w.heap.size ∧ B ≤ b := by
  obtain ⟨m, v, age, M, L, hp, -, -, hF, -⟩ := h
  exact foot_lt hp ((hF b).1 hb)
theorem PatS.touch {w w' : World} {B p : Nat} {F S : Nat → Prop} {room : Int} {R : List Rec} {a : Int} (h : PatS w B p F room R a) (ht : Touch S w w') (hs : ∀ b, F b → ¬ S b) : PatS w' B p F room R a := by
  obtain ⟨m, v, age, M, L, hp, hA, hL, hF, r⟩ := h
  exact ⟨m, v, age, M, L, hp.touch ht (fun b hb => hs b ((hF b).2 hb)), hA, hL, hF, r⟩
theorem PatS.below {w w' : World} {B p : Nat} {F : Nat → Prop} {room : Int} {R : List Rec} {a : Int} (h : PatS w B p F room R a) (hb : Below w.heap.size w w') : PatS w' B p F room R a := h.touch (S := noS) (Touch.of_below hb) (fun _ _ => id)
theorem PatS.mono {w : World} {B p : Nat} {F : Nat → Prop} {room : Int} {R : List Rec} {a a' : Int} (h : PatS w B p F room R a) (ha : a ≤ a') : PatS w B p F room R a' := by
  obtain ⟨m, v, age, M, L, hp, hA, hL, hF, h1, r⟩ := h
  exact ⟨m, v, age, M, L, hp, hA, hL, hF, by omega, r⟩
theorem PatS.room {w : World} {B p : Nat} {F : Nat → Prop} {room : Int} {R : List Rec} {a : Int} (h : PatS w B p F room R a) : (R.length : Int) ≤ room ∧ room ≤ 4096 := by
  obtain ⟨m, v, age, M, L, hp, hA, hL, hF, h1, h2, h3⟩ := h
  exact ⟨h2, h3⟩
theorem PatS.len {w : World} {B p : Nat} {F : Nat → Prop} {room : Int} {R : List Rec} {a : Int} (h : PatS w B p F room R a) : R.length ≤ 4096 := by have := h.room; omega
/-- What a pattern's list is like. -/
theorem PatS.wf {w : World} {B p : Nat} {F : Nat → Prop} {room : Int} {R : List Rec} {a : Int} (h : PatS w B p F room R a) : (∀ x ∈ R, rFine x ∧ rWf x) ∧ R.Pairwise fun x y => ¬ sameKey x y := by
  obtain ⟨m, v, age, M, L, hp, hA, rfl, hF, h1, h2, h3⟩ := h
  refine ⟨fun x hx => ?_, ?_⟩
  · obtain ⟨y, hy, rfl⟩ := List.mem_map.1 hx
    have hm := hA.perm.mem_iff.2 hy
    have hf := hp.fine y hm
    have hs := hp.known.small y hm
    have h1 := hf.place
    have h2 := hf.hits
    exact ⟨⟨h1.1, h2.1, h2.2⟩, hs.1, hs.2, by show -9223372036854775808 ≤ y.place; omega, h1.2, by show -9223372036854775808 ≤ y.hits; omega, by show y.hits ≤ 9223372036854775807; omega⟩
  · rw [List.pairwise_map]
    exact (hA.perm.pairwise_iff (fun {a b} h k => h ⟨k.1.symm, k.2.symm⟩)).1 hp.known.keys
def LearnS (w : World) (B p : Nat) (F : Nat → Prop) (room : Int) (R : List Rec) (a : Int) (r n : ByteArray) (pl : Int) (e : Ending) (w' : World) : Prop :=
  e = .returned (.int .i64 (if pl < 0 then 2 else 0)) ∧ ∃ F', PatS w' B p F' room (learnF room R r n pl) (a + 1) ∧ (∀ b, F' b → F b ∨ w.heap.size ≤ b) ∧ Touch F w w'
theorem hitK_r (r n : ByteArray) (pl : Int) (x : Ent) : (hitK r n pl x).r = hitL r n pl x.r := by
  by_cases h : x.route = r ∧ x.name = n
  · have h' : keyR r n x.r := h
    unfold hitK hitL
    rw [if_pos h, if_pos h']
    unfold hitE hitR
    by_cases e : x.place = pl
    · have e' : x.r.place = pl := e
      rw [if_pos e, if_pos e']; rfl
    · have e' : ¬ x.r.place = pl := e
      rw [if_neg e, if_neg e']; rfl
  · have h' : ¬ keyR r n x.r := h
    unfold hitK hitL
    rw [if_neg h, if_neg h']
theorem erase_perm {α : Type} {l : List α} {i : Nat} (hi : i < l.length) : (l[i] :: l.eraseIdx i).Perm l := by
  rw [List.eraseIdx_eq_take_drop_succ]
  have h : l = l.take i ++ l[i] :: l.drop (i + 1) := by
    conv => lhs; rw [← List.take_append_drop i l]
    rw [List.drop_eq_getElem_cons hi]
  conv => rhs; rw [h]
  exact List.perm_middle.symm
theorem erase_map {α β : Type} (f : α → β) (l : List α) (i : Nat) : (l.map f).eraseIdx i = (l.eraseIdx i).map f := by
  rw [List.eraseIdx_eq_take_drop_succ, List.eraseIdx_eq_take_drop_succ, List.map_append, List.map_take, List.map_drop]
theorem aged_hit {M M' L : List Ent} (h : Aged M L) (r n : ByteArray) (pl : Int) (hp : M'.Perm (M.map (hitK r n pl))) : Aged M' (L.map (hitK r n pl)) := by
  refine ⟨hp.trans (h.perm.map _), ?_⟩
  rw [List.pairwise_map]
  exact h.rise.imp (fun {a b} hh => by rw [(hitK_same _ _ pl a).2.2.2, (hitK_same _ _ pl b).2.2.2]; exact hh)
theorem map_at (L : List Ent) (j : Nat) (hj : j < L.length) : ra (L.map Ent.r) j = (at_ L j).r := by
  have h1 := ra_get (L.map Ent.r) j (by simpa using hj)
  rw [List.getElem?_map, at_get L j hj] at h1
  exact (Option.some.inj h1).symm
/-- The one on top is the first of those with the fewest hits. -/
theorem drop_top {M M1 L : List Ent} (h : Aged M L) (hh : Heap M) (h0 : 0 < M.length) (hp : (at_ M 0 :: M1).Perm M) : ∃ L1, Aged M1 L1 ∧ L1.map Ent.r = dropLeast (L.map Ent.r) := by
  have hm : at_ M 0 ∈ L := h.perm.mem_iff.1 (List.mem_of_getElem? (at_get M 0 h0))
  obtain ⟨i, hi, hix⟩ := mem_at hm
  have htop : ∀ j, j < L.length → ¬ Lt (at_ L j) (at_ L i) := fun j hj => by
    have hy : at_ L j ∈ M := h.perm.mem_iff.2 (List.mem_of_getElem? (at_get L j hj))
    obtain ⟨k, hk, e⟩ := mem_at hy
    rw [hix, ← e]; exact hh.top k hk
  have hl : leastI (L.map Ent.r) = i := by
    refine least_eq (by simpa using hi) (fun j hj => ?_) (fun j hj => ?_)
    · have hj' : j < L.length := by simpa using hj
      rw [map_at L i hi, map_at L j hj']
      have := htop j hj'
      unfold Lt at this
      show (at_ L i).hits ≤ (at_ L j).hits
      omega
    · have hj' : j < L.length := by omega
      rw [map_at L i hi, map_at L j hj']
      have h1 := htop j hj'
      have h2 := List.pairwise_iff_getElem.1 h.rise j i hj' hi hj
      have g1 := at_get L j hj'
      have g2 := at_get L i hi
      rw [List.getElem?_eq_getElem hj'] at g1
      rw [List.getElem?_eq_getElem hi] at g2
      rw [Option.some.inj g1, Option.some.inj g2] at h2
      unfold Lt at h1
      show (at_ L i).hits < (at_ L j).hits
      omega
  refine ⟨L.eraseIdx i, ⟨?_, h.rise.sublist (List.eraseIdx_sublist _ _)⟩, ?_⟩
  · have g2 := at_get L i hi
    rw [List.getElem?_eq_getElem hi] at g2
    have g2 := Option.some.inj g2
    have h3 := erase_perm hi
    rw [g2, hix] at h3
    exact (hp.trans (h.perm.trans h3.symm)).cons_inv
  · unfold dropLeast
    rw [hl]
    exact (erase_map Ent.r L i).symm
end Go.Proofs.Ytcgfkmjlgblkcaa.Pat
