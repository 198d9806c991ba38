/- The walk of up. -/
import Derived.Test.YtcgfkmjlgblkcaaPatW
namespace Go.Proofs.Ytcgfkmjlgblkcaa.Pat
set_option linter.unusedVariables false
set_option linter.unusedSimpArgs false
open Go.RowKit Go.Proofs.Ytcgfkmjlgblkcaa.Mem Go.Proofs.Ytcgfkmjlgblkcaa.Own

def ptrs (M : List Ent) : List Value := M.map fun x => .pointer (some ⟨x.b, 0, none⟩)
theorem ptrs_at (M : List Ent) (j : Nat) (h : j < M.length) : (ptrs M)[j]? = some (.pointer (some ⟨(at_ M j).b, 0, none⟩)) := by
  unfold ptrs; rw [List.getElem?_map, at_get M j h]; rfl
theorem ptrs_length (M : List Ent) : (ptrs M).length = M.length := by simp [ptrs]
/-- What the heap's things share: the pattern's block; distinct blocks. -/
structure Com (w : World) (p m g cap : Nat) (room age : Int) (M : List Ent) : Prop where
  pb : PB w p room age m (.slice (some ⟨g, 0, none⟩) M.length cap)
  nodup : (M.map Ent.b).Nodup
/-- A row in which each stands at its place, but for the one at i, which may say anything. -/
structure Loose (w : World) (B p m g cap : Nat) (room age : Int) (M : List Ent) (i : Nat) : Prop extends Com w p m g cap room age M where
  row : w.ownsRow B 63 1 (.slice (some ⟨g, 0, none⟩) M.length cap) M.length (ptrs M)
  ents : ∀ j, j < M.length → j ≠ i → EntAt w (at_ M j) j
  here : ∃ k, EntAt w (at_ M i) k
/-- A row with a hole at i: the one that belongs there is in hand. -/
structure Hole (w : World) (B p m g cap : Nat) (room age : Int) (M : List Ent) (i : Nat) : Prop extends Com w p m g cap room age M where
  row : ∃ xs, w.ownsRow B 63 1 (.slice (some ⟨g, 0, none⟩) M.length cap) M.length xs ∧ ∀ j, j < M.length → j ≠ i → xs[j]? = some (.pointer (some ⟨(at_ M j).b, 0, none⟩))
  ents : ∀ j, j < M.length → j ≠ i → EntAt w (at_ M j) j
  here : ∃ k, EntAt w (at_ M i) k
/-- A row in which each stands at its place. -/
structure Full (w : World) (B p m g cap : Nat) (room age : Int) (M : List Ent) : Prop extends Com w p m g cap room age M where
  row : w.ownsRow B 63 1 (.slice (some ⟨g, 0, none⟩) M.length cap) M.length (ptrs M)
  ents : ∀ j, j < M.length → EntAt w (at_ M j) j
section
variable {w : World} {B p m g cap : Nat} {room age : Int} {M : List Ent} {i : Nat}
theorem Full.loose (h : Full w B p m g cap room age M) (i : Nat) (hi : i < M.length) : Loose w B p m g cap room age M i :=
  ⟨h.toCom, h.row, fun j hj _ => h.ents j hj, ⟨_, h.ents i hi⟩⟩
theorem Loose.hole (h : Loose w B p m g cap room age M i) : Hole w B p m g cap room age M i :=
  ⟨h.toCom, ⟨_, h.row, fun j hj _ => ptrs_at M j hj⟩, h.ents, h.here⟩
theorem nodup_at (h : (M.map Ent.b).Nodup) {j k : Nat} (hj : j < M.length) (hk : k < M.length) (hne : j ≠ k) : (at_ M j).b ≠ (at_ M k).b := by
  intro e
  have h1 : (M.map Ent.b)[j]? = some (at_ M j).b := by rw [List.getElem?_map, at_get M j hj]; rfl
  have h2 : (M.map Ent.b)[k]? = some (at_ M k).b := by rw [List.getElem?_map, at_get M k hk]; rfl
  rw [e, ← h2] at h1
  exact hne ((List.getElem?_inj (by simpa using hj) h).1 h1)
theorem EntAt.far {x : Ent} {k : Int} (h : EntAt w x k) {a : Addr} (ha : x.b ≠ a.block) (u : Value) : EntAt (w.setCell a u) x k := Blk.far h ha u
theorem EntAt.stand {x : Ent} {k : Int} (h : EntAt w x k) (j : Int) : EntAt (w.setCell ⟨x.b, 5, none⟩ (.int .i64 j)) x j := Blk.set_ h 5 _
theorem PB.far {v : Value} (h : PB w p room age m v) {a : Addr} (ha : p ≠ a.block) (u : Value) : PB (w.setCell a u) p room age m v := Blk.far h ha u
theorem Hole.drewN (h : Hole w B p m g cap room age M i) (n : Nat) : Hole (w.drewN n) B p m g cap room age M i := ⟨⟨h.pb, h.nodup⟩, h.row, h.ents, h.here⟩
/-- The hole moves: what stands at q is put at i. -/
theorem Hole.put (h : Hole w B p m g cap room age M i) (hi : i < M.length) {q : Nat} (hq : q < M.length) (hqi : q ≠ i) :
    Hole ((w.setCell ⟨g, i, none⟩ (.pointer (some ⟨(at_ M q).b, 0, none⟩))).setCell ⟨(at_ M q).b, 5, none⟩ (.int .i64 i)) B p m g cap room age (swp M i q) q := by
  obtain ⟨xs, hr, hx⟩ := h.row
  obtain ⟨cur, hcur⟩ := own_blk hr
  have hy := h.ents q hq hqi
  obtain ⟨k, hk⟩ := h.here
  have e1 : ∀ j, j < M.length → j ≠ i → (at_ M j).b ≠ g := fun j hj hne => blk_ne (h.ents j hj hne) hcur (by decide)
  have e2 : (at_ M i).b ≠ g := blk_ne hk hcur (by decide)
  have e3 : p ≠ g := blk_ne h.pb hcur (by decide)
  have e4 : p ≠ (at_ M q).b := blk_ne h.pb hy (by decide)
  refine ⟨⟨?_, ?_⟩, ⟨xs.set i (.pointer (some ⟨(at_ M q).b, 0, none⟩)), ?_, fun j hj hne => ?_⟩, fun j hj hne => ?_, ⟨k, ?_⟩⟩
  · rw [swp_length]; exact (h.pb.far (a := ⟨g, i, none⟩) e3 _).far (a := ⟨(at_ M q).b, 5, none⟩) e4 _
  · exact ((swp_perm M i q hi hq).map Ent.b).nodup_iff.2 h.nodup
  · rw [swp_length]
    refine ((hr.stored i _).1).kept (row := some (at_ M q).b) ⟨rfl, rfl, rfl, by simp, fun b _ hn => Below.heap_setCell _ _ _ _ (by intro e; exact hn (by rw [e]))⟩ (.inr ?_)
    intro e; injection e with e; exact e1 q hq hqi e.symm
  · rw [swp_length] at hj
    rw [at_swp M i q j hi hq, if_neg hne, List.getElem?_set]
    have hl : xs.length = M.length := by simpa using hr.1
    by_cases e : i = j
    · subst e; rw [if_pos rfl, if_pos (by omega), if_pos rfl]
    · rw [if_neg e, if_neg (fun h => e h.symm)]; exact hx j hj (fun h => e h.symm)
  · rw [swp_length] at hj
    rw [at_swp M i q j hi hq, if_neg hne]
    by_cases e : j = i
    · subst e; rw [if_pos rfl]; exact (hy.far (a := ⟨g, j, none⟩) (e1 q hq hqi) _).stand _
    · rw [if_neg e]; exact ((h.ents j hj e).far (a := ⟨g, i, none⟩) (e1 j hj e) _).far (a := ⟨(at_ M q).b, 5, none⟩) (nodup_at h.nodup hj hq hne) _
  · rw [at_swp M i q q hi hq, if_pos rfl]
    exact (hk.far (a := ⟨g, i, none⟩) e2 _).far (a := ⟨(at_ M q).b, 5, none⟩) (nodup_at h.nodup hi hq (fun e => hqi e.symm)) _
/-- The hole is filled. -/
theorem Hole.fill (h : Hole w B p m g cap room age M i) (hi : i < M.length) :
    Full ((w.setCell ⟨g, i, none⟩ (.pointer (some ⟨(at_ M i).b, 0, none⟩))).setCell ⟨(at_ M i).b, 5, none⟩ (.int .i64 i)) B p m g cap room age M := by
  obtain ⟨xs, hr, hx⟩ := h.row
  obtain ⟨cur, hcur⟩ := own_blk hr
  obtain ⟨k, hk⟩ := h.here
  have e1 : ∀ j, j < M.length → j ≠ i → (at_ M j).b ≠ g := fun j hj hne => blk_ne (h.ents j hj hne) hcur (by decide)
  have e2 : (at_ M i).b ≠ g := blk_ne hk hcur (by decide)
  have e3 : p ≠ g := blk_ne h.pb hcur (by decide)
  have e4 : p ≠ (at_ M i).b := blk_ne h.pb hk (by decide)
  have hl : xs.length = M.length := by simpa using hr.1
  refine ⟨⟨(h.pb.far (a := ⟨g, i, none⟩) e3 _).far (a := ⟨(at_ M i).b, 5, none⟩) e4 _, h.nodup⟩, ?_, fun j hj => ?_⟩
  · have e : xs.set i (.pointer (some ⟨(at_ M i).b, 0, none⟩)) = ptrs M := by
      apply List.ext_getElem?
      intro j
      by_cases hj : j < M.length
      · rw [ptrs_at M j hj, List.getElem?_set]
        by_cases e : i = j
        · subst e; rw [if_pos rfl, if_pos (by omega)]
        · rw [if_neg e]; exact hx j hj (fun h => e h.symm)
      · rw [List.getElem?_eq_none (by simp; omega), List.getElem?_eq_none (by rw [ptrs_length]; omega)]
    rw [← e]
    refine ((hr.stored i _).1).kept (row := some (at_ M i).b) ⟨rfl, rfl, rfl, by simp, fun b _ hn => Below.heap_setCell _ _ _ _ (by intro e; exact hn (by rw [e]))⟩ (.inr ?_)
    intro e; injection e with e; exact e2 e.symm
  · by_cases e : j = i
    · subst e; exact (hk.far (a := ⟨g, j, none⟩) e2 _).stand _
    · exact ((h.ents j hj e).far (a := ⟨g, i, none⟩) (e1 j hj e) _).far (a := ⟨(at_ M i).b, 5, none⟩) (nodup_at h.nodup hj hi e) _
end
/-- The blocks that the heap's functions turn. -/
def Foot (g : Nat) (M : List Ent) (b : Nat) : Prop := b = g ∨ b ∈ M.map Ent.b
theorem Foot.perm {g : Nat} {M M' : List Ent} (h : M'.Perm M) {b : Nat} (k : Foot g M' b) : Foot g M b := by
  rcases k with k | k
  · exact .inl k
  · exact .inr ((h.map Ent.b).mem_iff.1 k)
theorem at_mem {M : List Ent} {j : Nat} (h : j < M.length) : (at_ M j).b ∈ M.map Ent.b := List.mem_map_of_mem (List.mem_of_getElem? (at_get M j h))
def UpPost (w : World) (B p m g cap : Nat) (room age : Int) (M : List Ent) (i : Nat) (e : Ending) (w' : World) : Prop :=
  ∃ (M' : List Ent) (i' : Nat), e = .returned (.int .i64 (i' : Int)) ∧ i' < M'.length ∧ M'.Perm M ∧ Full w' B p m g cap room age M' ∧ HeapBut M' i' ∧ UpOk M' i' ∧ (KidsOk M i → KidsOk M' i') ∧ Touch (Foot g M) w w'
def UpRel (w : World) (B p m g cap : Nat) (room age : Int) (M : List Ent) (i : Nat) (v : Value) (wr : World) : Prop :=
  ∃ (M' : List Ent) (i' : Nat), v = .int .i64 (i' : Int) ∧ i' < M'.length ∧ M'.Perm M ∧ Hole wr B p m g cap room age M' i' ∧ at_ M' i' = at_ M i ∧ HeapBut M' i' ∧ (KidsOk M i → KidsOk M' i') ∧ Touch (Foot g M) w wr
set_option maxHeartbeats 4000000 in
theorem up_w (B p m g cap : Nat) (room age : Int) (M : List Ent) (i : Int) (w : World) (h0 : 0 ≤ i) (hi : i.toNat < M.length) (hM : M.length < 140737488355328) (hl : Loose w B p m g cap room age M i.toNat) (hb : HeapBut M i.toNat) :
    Calls Try.prog 47 #[.pointer (some ⟨p, 3, none⟩), .int .i64 i] w (UpPost w B p m g cap room age M i.toNat) := by
  obtain ⟨k, rfl⟩ := Int.eq_ofNat_of_zero_le h0
  simp only [Int.toNat_natCast] at *
  have p3 : w.cell? ⟨p, 3, none⟩ = some (.slice (some ⟨g, 0, none⟩) M.length cap) := Blk.cell hl.pb 3
  have gi : w.cell? ⟨g, k, none⟩ = some (.pointer (some ⟨(at_ M k).b, 0, none⟩)) := by rw [hl.row.cellAt k (by omega)]; exact ptrs_at M k hi
  have hrel0 : UpRel w B p m g cap room age M k (.int .i64 (k : Int)) w := ⟨M, k, rfl, hi, List.Perm.refl _, hl.hole, rfl, hb, id, Touch.refl _ _⟩
  generalize hX : at_ M k = X at *
  have HX := Lib.hid hX; clear hX
  go_enter Try.func47, Try.ntmps47
  go_wp2_with fail
  clear p3 gi
  go_loopw [1] (fun v wr => UpRel w B p m g cap room age M k v wr) (fun v _ => (intOf v).toNat)
  case atStart => exact hrel0
  case round =>
    obtain ⟨M', j, rfl, hj, hp, hh, hx, hbt, hkd, ht⟩ := hrel
    have hxx : at_ M' j = X := hx.trans HX.out
    obtain ⟨xs, hr, hxs⟩ := hh.row
    have hn : M'.length = M.length := hp.length_eq
    obtain ⟨kh, hkh⟩ := hh.here
    rw [hxx] at hkh
    have HXX := Lib.hid hxx
    have HN := Lib.hid hn
    have HXB := Lib.hid hx
    clear hx hxx
    by_cases hj0 : 0 < j
    · have hq : (j - 1) / 2 < M'.length := by omega
      have c3 : wr.cell? ⟨p, 3, none⟩ = some (.slice (some ⟨g, 0, none⟩) M'.length cap) := Blk.cell hh.pb 3
      have c4 : wr.cell? ⟨p, 4, none⟩ = some (.func (.func 27) #[] #[]) := Blk.cell hh.pb 4
      have cq : wr.cell? ⟨g, (j - 1) / 2, none⟩ = some (.pointer (some ⟨(at_ M' ((j - 1) / 2)).b, 0, none⟩)) := by
        rw [hr.cellAt _ (by omega)]; exact hxs _ hq (by omega)
      have hy : EntAt wr (at_ M' ((j - 1) / 2)) ((j - 1) / 2 : Nat) := hh.ents _ hq (by omega)
      have t0 : decide (0 < (j : Int)) = true := by simp; omega
      have qi : ((j : Int) - 1) / 2 = (((j - 1) / 2 : Nat) : Int) := by omega
      have w1 : IntKind.i64.wrap ((j : Int) - 1) = (j : Int) - 1 := IntWalk.i64_in _ (by omega)
      have qt : ((j : Int) - 1).tdiv 2 = (((j - 1) / 2 : Nat) : Int) := by rw [Int.tdiv_eq_ediv_of_nonneg (by omega)]; exact qi
      generalize hqq : (j - 1) / 2 = q at hq cq hy qi qt
      have wq : IntKind.i64.wrap (q : Int) = q := IntWalk.i64_in _ (by omega)
      have HQ := Lib.hid hqq
      generalize hY : at_ M' q = Y at cq hy
      have HL := Lib.hid (fun w => less_w X Y kh q w)
      have HY := Lib.hid hY
      clear hn hqq hY
      by_cases hlt : Lt X Y
      · have lt := ltB_true hlt
        go_wp2_with fail
        go_quiet ((go_at_call 27; exact Calls.quiet_of (HL.out _ hkh hy)))
        have HP := Lib.hid (put_w p m g M'.length cap room age Y q (j : Int) B xs (wr.drewN nq) hh.pb (by rw [HN.out]; exact hM) hr hy (by omega) (by omega))
        go_wp2_with fail
        refine HP.out.mono ?_; rintro e w2 ⟨rfl, rfl⟩
        go_wp2_with fail
        go_roundw
        case rel =>
          have hst := up_step hj hj0 hbt (by rw [HQ.out, HY.out, HXX.out]; exact hlt)
          rw [HQ.out] at hst
          have hpt := (hh.drewN nq).put hj hq (by omega : q ≠ j)
          rw [HY.out] at hpt
          refine ⟨swp M' j q, q, by rw [← qi], by rw [swp_length]; exact hq, (swp_perm M' j q hj hq).trans hp, hpt, ?_, hst.1, fun _ => hst.2, ?_⟩
          · rw [at_swp M' j q q hj hq, if_pos rfl, HXB.out]
          · refine ((ht.drewN nq).setCell (a := ⟨g, j, none⟩) (.inl (.inl rfl)) _).setCell (a := ⟨Y.b, 5, none⟩) (.inl (.inr ?_)) _
            rw [← HY.out]; exact (hp.map Ent.b).mem_iff.1 (at_mem hq)
        case measure => simp [intOf]; omega
      · have lt := ltB_false hlt
        go_wp2_with fail
        go_quiet ((go_at_call 27; exact Calls.quiet_of (HL.out _ hkh hy)))
        have HP := Lib.hid (put_w p m g M'.length cap room age X kh (j : Int) B xs (wr.drewN nq) hh.pb (by rw [HN.out]; exact hM) hr hkh (by omega) (by omega))
        go_wp2_with fail
        refine HP.out.mono ?_; rintro e w2 ⟨rfl, rfl⟩
        go_wp2_with fail
        go_ret
        have hf := (hh.drewN nq).fill hj
        rw [HXX.out] at hf
        refine ⟨M', j, rfl, hj, hp, hf, hbt, fun _ => by rw [HQ.out, HY.out, HXX.out]; exact hlt, hkd, ?_⟩
        refine ((ht.drewN nq).setCell (a := ⟨g, j, none⟩) (.inl (.inl rfl)) _).setCell (a := ⟨X.b, 5, none⟩) (.inl (.inr ?_)) _
        rw [← HXX.out]; exact (hp.map Ent.b).mem_iff.1 (at_mem hj)
    · have t0 : decide (0 < (j : Int)) = false := by simp; omega
      go_wp2_with fail
      go_quiet (fail)
      have HP := Lib.hid (put_w p m g M'.length cap room age X kh (j : Int) B xs (wr.drewN nq) hh.pb (by rw [HN.out]; exact hM) hr hkh (by omega) (by omega))
      go_wp2_with fail
      refine HP.out.mono ?_; rintro e w2 ⟨rfl, rfl⟩
      go_wp2_with fail
      go_ret
      have hf := (hh.drewN nq).fill hj
      rw [HXX.out] at hf
      refine ⟨M', j, rfl, hj, hp, hf, hbt, fun h => absurd h hj0, hkd, ?_⟩
      refine ((ht.drewN nq).setCell (a := ⟨g, j, none⟩) (.inl (.inl rfl)) _).setCell (a := ⟨X.b, 5, none⟩) (.inl (.inr ?_)) _
      rw [← HXX.out]; exact (hp.map Ent.b).mem_iff.1 (at_mem hj)
end Go.Proofs.Ytcgfkmjlgblkcaa.Pat
