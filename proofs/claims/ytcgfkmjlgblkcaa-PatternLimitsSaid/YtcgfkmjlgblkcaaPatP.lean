/- The walks of turned, push, pop, key. -/
import Derived.Test.YtcgfkmjlgblkcaaPatD
import Derived.Test.YtcgfkmjlgblkcaaApp
import Derived.StillTailTactics
namespace Go.Proofs.Ytcgfkmjlgblkcaa.Pat
set_option linter.unusedVariables false
set_option linter.unusedSimpArgs false
open Go.RowKit Go.Proofs.Ytcgfkmjlgblkcaa.Mem Go.Proofs.Ytcgfkmjlgblkcaa.Own

set_option maxHeartbeats 1000000 in
theorem turned_w (B p m g cap : Nat) (room age : Int) (M : List Ent) (i : Int) (w : World) (h0 : 0 ≤ i) (hi : i.toNat < M.length) (hM : M.length < 140737488355328) (hf : Full w B p m g cap room age M) (hb : HeapBut M i.toNat) :
    Calls Try.prog 31 #[.pointer (some ⟨p, 3, none⟩), .int .i64 i] w (DownPost w B p m g cap room age M) := by
  have HU := Lib.hid (up_w B p m g cap room age M i w h0 hi hM (hf.loose _ hi) hb)
  go_enter Try.func31, Try.ntmps31
  go_wp2_with fail
  refine HU.out.mono ?_; rintro e w1 ⟨M1, i1, rfl, hi1, hp1, hf1, hb1, hu1, -, ht1⟩
  have hn : M1.length = M.length := hp1.length_eq
  have HD := Lib.hid (down_w B p m g cap room age M1 (i1 : Int) w1 (by omega) (by simpa using hi1) (by omega) (hf1.loose _ (by simpa using hi1)) (by simpa using hb1) (by simpa using hu1))
  clear hn
  go_wp2_with fail
  refine HD.out.mono ?_; rintro e w2 ⟨M2, rfl, hp2, hf2, hh2, ht2⟩
  go_wp2_with fail
  go_end0
  exact ⟨M2, rfl, hp2.trans hp1, hf2, hh2, ht1.trans ht2 (fun b hb => .inl (Foot.perm hp1 hb))⟩
/-- The heap of a pattern. -/
structure St (w : World) (B p m : Nat) (v : Value) (room age : Int) (M : List Ent) : Prop where
  pb : PB w p room age m v
  nodup : (M.map Ent.b).Nodup
  row : w.ownsRow B 63 1 v M.length (ptrs M)
  ents : ∀ j, j < M.length → EntAt w (at_ M j) j
  heap : Heap M
theorem Full.st {w : World} {B p m g cap : Nat} {room age : Int} {M : List Ent} (h : Full w B p m g cap room age M) (k : Heap M) : St w B p m (.slice (some ⟨g, 0, none⟩) M.length cap) room age M :=
  ⟨h.pb, h.nodup, h.row, h.ents, k⟩
theorem St.full {w : World} {B p m : Nat} {v : Value} {room age : Int} {M : List Ent} (h : St w B p m v room age M) (hn : 0 < M.length) : ∃ g cap, v = .slice (some ⟨g, 0, none⟩) M.length cap ∧ Full w B p m g cap room age M := by
  obtain ⟨q, cap, rfl⟩ := own_form h.row
  obtain ⟨g, rfl, -⟩ := own_cells h.row hn
  exact ⟨g, cap, rfl, ⟨⟨h.pb, h.nodup⟩, h.row, h.ents⟩⟩
def FootV (p : Nat) (v : Value) (M : List Ent) (b : Nat) : Prop := b = p ∨ v.ownBlock = some b ∨ b ∈ M.map Ent.b
theorem own_ne {w : World} {B n size b : Nat} {v : Value} {e t : TypeId} {xs : List Value} {cs : Array Value} (h : w.ownsRow B e size v n xs) (k : Blk w b t cs) (ht : t ≠ e) : some b ≠ v.ownBlock := by
  rcases h.2 with ⟨rfl, -⟩ | ⟨g, cap, cur, rfl, hb, hg, -⟩
  · simp [Value.ownBlock]
  · intro e1
    injection e1 with e1
    subst e1
    exact blk_ne k hg ht rfl
theorem e_info : (Try.prog.info? 63).map (fun i => (i.zero, i.size, i.bytes)) = some (some (.pointer none), 1, 8) := by kernel_rfl
theorem at_app (M : List Ent) (x : Ent) (j : Nat) : at_ (M ++ [x]) j = if j < M.length then at_ M j else if j = M.length then x else default := by
  unfold at_
  simp only [List.getD_eq_getElem?_getD]
  by_cases h : j < M.length
  · rw [if_pos h, List.getElem?_append_left h]
  · rw [if_neg h, List.getElem?_append_right (by omega)]
    by_cases e : j = M.length
    · rw [if_pos e, e, Nat.sub_self]; rfl
    · rw [if_neg e]
      have : 0 < j - M.length := by omega
      obtain ⟨k, hk⟩ : ∃ k, j - M.length = k + 1 := ⟨j - M.length - 1, by omega⟩
      rw [hk]; rfl
theorem heapBut_app {M : List Ent} (h : Heap M) (x : Ent) : HeapBut (M ++ [x]) M.length ∧ KidsOk (M ++ [x]) M.length := by
  refine ⟨⟨fun j h0 hj n1 n2 => ?_, fun h0 c c0 hc e => ?_⟩, fun c c0 hc e => ?_⟩
  · simp at hj
    rw [at_app, at_app, if_pos (by omega), if_pos (by omega)]
    exact h j h0 (by omega)
  · simp at hc; omega
  · simp at hc; omega
def PushPost (w : World) (B p m : Nat) (v : Value) (room age : Int) (M : List Ent) (x : Ent) (e : Ending) (w' : World) : Prop :=
  ∃ (v' : Value) (M' : List Ent), e = .returned (.tuple #[]) ∧ M'.Perm (M ++ [x]) ∧ St w' B p m v' room age M' ∧ (∀ b, v'.ownBlock = some b → v.ownBlock = some b ∨ w.heap.size ≤ b) ∧ Touch (FootV p v (M ++ [x])) w w'
set_option maxHeartbeats 2000000 in
theorem push_w (B p m : Nat) (v : Value) (room age : Int) (M : List Ent) (x : Ent) (k : Int) (w : World) (hM : M.length < 17592186044400) (h : St w B p m v room age M) (hx : EntAt w x k) (hnew : x.b ∉ M.map Ent.b) (hB : B ≤ w.heap.size) :
    Calls Try.prog 45 #[.pointer (some ⟨p, 3, none⟩), .pointer (some ⟨x.b, 0, none⟩)] w (PushPost w B p m v room age M x) := by
  obtain ⟨i0, hi, hz0, hz1, hz2⟩ := info_parts e_info
  have p3 : w.cell? ⟨p, 3, none⟩ = some v := Blk.cell h.pb 3
  have hown := h.row
  have hlt : p < w.heap.size := Blk.lt h.pb
  go_enter Try.func45, Try.ntmps45
  go_wp2_with (at_builtin; refine App.wpList_append_where _ rfl _ _ 61 rfl B 63 i0 (.pointer none) 1 8 Try.underlying61 hi hz0 hz1 hz2 rfl (by decide) _ _ _ rfl (hown.alloc _) ⟨w.heap.size, 0, none⟩ 1 1 [.pointer (some ⟨x.b, 0, none⟩)] rfl rfl ?c1 ?c2 ?c3 ?c4 ?c5 ?_)
  case c1 =>
    intro j u hj
    match j, hj with
    | 0, hj => simp at hj; subst hj; simp [Addr.add]
  case c2 => intro u hu; simp at hu; subst hu; rfl
  case c3 => unfold maxLen; omega
  case c4 => omega
  case c5 => simp; omega
  intro v' w2 hown' hgrow hwh
  have npv : some p ≠ v.ownBlock := own_ne hown h.pb (by decide)
  have pb2 : PB w2 p room age m v := Blk.grown (Blk.alloc h.pb _) hgrow npv
  have f3 := Blk.frozen pb2 3
  have p3' : w2.cell? ⟨p, 3, none⟩ = some v := Blk.cell pb2 3
  have ex : EntAt w2 x k := Blk.grown (Blk.alloc hx _) hgrow (own_ne hown hx (by decide))
  have ee : ∀ j, j < M.length → EntAt w2 (at_ M j) j := fun j hj => Blk.grown (Blk.alloc (h.ents j hj) _) hgrow (own_ne hown (h.ents j hj) (by decide))
  obtain ⟨g, cap, rfl⟩ : ∃ g cap, v' = .slice (some ⟨g, 0, none⟩) (M.length + 1) cap := by
    rcases hown'.2 with ⟨_, h0⟩ | ⟨g, cap, cur, hv, _⟩
    · omega
    · exact ⟨g, cap, hv⟩
  obtain ⟨cur, hcur⟩ := own_blk hown'
  have ngp : p ≠ g := blk_ne pb2 hcur (by decide)
  -- behind the store
  have pb3 : PB (w2.setCell ⟨p, 3, none⟩ (.slice (some ⟨g, 0, none⟩) (M.length + 1) cap)) p room age m (.slice (some ⟨g, 0, none⟩) (M.length + 1) cap) := Blk.set_ pb2 3 _
  have p3'' := Blk.cell pb3 3
  have hlo : Loose (w2.setCell ⟨p, 3, none⟩ (.slice (some ⟨g, 0, none⟩) (M.length + 1) cap)) B p m g cap room age (M ++ [x]) M.length := by
    refine ⟨⟨by simpa using pb3, ?_⟩, ?_, fun j hj hne => ?_, ⟨k, ?_⟩⟩
    · rw [List.map_append, List.nodup_append]
      refine ⟨h.nodup, by simp, fun a ha b hb e => ?_⟩
      simp at hb; subst hb; subst e; exact hnew ha
    · have e1 : ptrs (M ++ [x]) = ptrs M ++ [.pointer (some ⟨x.b, 0, none⟩)] := by simp [ptrs]
      rw [e1, List.length_append, List.length_singleton]
      refine hown'.kept (row := some p) ⟨rfl, rfl, rfl, by simp, fun b _ hn => Below.heap_setCell _ _ _ _ (by intro e; exact hn (by rw [e]))⟩ (.inr ?_)
      intro e; injection e with e; exact ngp e.symm
    · simp at hj
      rw [at_app, if_pos (by omega)]
      exact (ee j (by omega)).far (a := ⟨p, 3, none⟩) (fun e => blk_ne pb2 (ee j (by omega)) (by decide) e.symm) _
    · rw [at_app, if_neg (by omega), if_pos rfl]
      exact ex.far (a := ⟨p, 3, none⟩) (fun e => blk_ne pb2 ex (by decide) e.symm) _
  obtain ⟨hb1, hk1⟩ := heapBut_app h.heap x
  have HU := fun W => Lib.hid (up_w B p m g cap room age (M ++ [x]) (M.length : Int) W (by omega) (by simp) (by simp; omega))
  have t2 : Touch (FootV p v (M ++ [x])) w (w2.setCell ⟨p, 3, none⟩ (.slice (some ⟨g, 0, none⟩) (M.length + 1) cap)) :=
    (((Touch.refl _ w).alloc _).grown hgrow (fun b hb => .inl (.inr (.inl hb)))).setCell (a := ⟨p, 3, none⟩) (.inl (.inl rfl)) _
  have hsub : ∀ b, (Value.slice (some ⟨g, 0, none⟩) (M.length + 1) cap).ownBlock = some b → v.ownBlock = some b ∨ w.heap.size ≤ b := by
    intro b hb
    rcases hwh b hb with h | h
    · exact .inl h
    · right; rw [h]; simp
  have HSUB := Lib.hid hsub; clear hsub hwh
  go_wp2_with fail
  refine (HU _).out (by simpa using hlo) (by simpa using hb1) |>.mono ?_
  rintro e w4 ⟨M4, i4, rfl, hi4, hp4, hf4, hb4, hu4, hk4, ht4⟩
  rw [Int.toNat_natCast] at hk4
  go_wp2_with fail
  go_end0
  refine ⟨_, M4, rfl, hp4, hf4.st (hb4.heap hu4 (hk4 hk1)), ?_, t2.trans ht4 ?_⟩
  · exact HSUB.out
  · intro b hb
    rcases hb with rfl | hb
    · rcases HSUB.out b rfl with h | h
      · exact .inl (.inr (.inl h))
      · exact .inr h
    · exact .inl (.inr (.inr hb))
/-- A shorter cut of a row that the call owns. -/
theorem own_cut {w : World} {B g n cap k : Nat} {e : TypeId} {xs : List Value} (h : w.ownsRow B e 1 (.slice (some ⟨g, 0, none⟩) n cap) n xs) (hk : k ≤ n) : w.ownsRow B e 1 (.slice (some ⟨g, 0, none⟩) k cap) k (xs.take k) := by
  have hl : xs.length = n := by simpa using h.1
  refine ⟨by simp; omega, ?_⟩
  rcases h.2 with ⟨h0, _⟩ | ⟨g', cap', cur, hv, hb, hg, hn, hcap, hsz, htake⟩
  · cases h0
  · cases hv
    refine .inr ⟨g, cap, cur, rfl, hb, hg, by omega, hcap, hsz, ?_⟩
    rw [← htake, List.take_take, Nat.mul_one, Nat.mul_one, Nat.min_eq_left hk]
theorem own_cap {w : World} {B g n cap size : Nat} {e : TypeId} {xs : List Value} (h : w.ownsRow B e size (.slice (some ⟨g, 0, none⟩) n cap) n xs) : n ≤ cap ∧ cap ≤ maxLen := by
  rcases h.2 with ⟨h0, _⟩ | ⟨g', cap', cur, hv, hb, hg, hn, hcap, -⟩
  · cases h0
  · cases hv; exact ⟨hn, hcap⟩
def popped (M : List Ent) : List Ent := (M.set 0 (at_ M (M.length - 1))).take (M.length - 1)
theorem popped_length (M : List Ent) : (popped M).length = M.length - 1 := by simp [popped]
theorem at_popped {M : List Ent} {j : Nat} (h : j < M.length - 1) : at_ (popped M) j = if j = 0 then at_ M (M.length - 1) else at_ M j := by
  unfold popped
  have e : at_ ((M.set 0 (at_ M (M.length - 1))).take (M.length - 1)) j = at_ (M.set 0 (at_ M (M.length - 1))) j := by
    generalize M.set 0 (at_ M (M.length - 1)) = L
    unfold at_
    rw [List.getD_eq_getElem?_getD, List.getD_eq_getElem?_getD, List.getElem?_take, if_pos h]
  rw [e, at_set M 0 j _ (by omega)]
/-- The top one and what is left are all. -/
theorem popped_perm {M : List Ent} (h : 0 < M.length) : (at_ M 0 :: popped M).Perm M := by
  have hs := swp_perm M 0 (M.length - 1) h (by omega)
  refine List.Perm.trans ?_ hs
  have e : swp M 0 (M.length - 1) = popped M ++ [at_ M 0] := by
    apply List.ext_getElem?
    intro j
    by_cases hj : j < M.length
    · rw [at_get _ j (by rw [swp_length]; exact hj), at_swp M 0 _ j h (by omega)]
      by_cases h1 : j = M.length - 1
      · rw [if_pos h1, List.getElem?_append_right (by rw [popped_length]; omega), popped_length, h1, Nat.sub_self]; rfl
      · rw [if_neg h1, List.getElem?_append_left (by rw [popped_length]; omega), at_get _ j (by rw [popped_length]; omega), at_popped (by omega)]
    · rw [List.getElem?_eq_none (by rw [swp_length]; omega), List.getElem?_eq_none (by simp [popped_length]; omega)]
  rw [e]
  exact (List.perm_append_singleton _ _).symm
theorem popped_but {M : List Ent} (h : Heap M) : HeapBut (popped M) 0 ∧ UpOk (popped M) 0 := by
  refine ⟨⟨fun j h0 hj n1 n2 => ?_, fun h0 => absurd h0 (by omega)⟩, fun h0 => absurd h0 (by omega)⟩
  rw [popped_length] at hj
  rw [at_popped hj, at_popped (by omega), if_neg n1, if_neg n2]
  exact h j h0 (by omega)
def PopPost (w : World) (B p m : Nat) (v : Value) (room age : Int) (M : List Ent) (e : Ending) (w' : World) : Prop :=
  ∃ (v' : Value) (M' : List Ent) (k : Int), e = .returned (.pointer (some ⟨(at_ M 0).b, 0, none⟩)) ∧ (at_ M 0 :: M').Perm M ∧ St w' B p m v' room age M' ∧ EntAt w' (at_ M 0) k ∧ v'.ownBlock = v.ownBlock ∧ Touch (FootV p v M) w w'
set_option maxHeartbeats 4000000 in
set_option maxRecDepth 100000 in
theorem pop_w (B p m : Nat) (v : Value) (room age : Int) (M : List Ent) (w : World) (hM : M.length < 17592186044400) (h : St w B p m v room age M) (h0 : 0 < M.length) :
    Calls Try.prog 32 #[.pointer (some ⟨p, 3, none⟩)] w (PopPost w B p m v room age M) := by
  obtain ⟨g, cap, rfl, hf⟩ := h.full h0
  have p3 : w.cell? ⟨p, 3, none⟩ = some (.slice (some ⟨g, 0, none⟩) M.length cap) := Blk.cell h.pb 3
  have c0 : w.cell? ⟨g, 0, none⟩ = some (.pointer (some ⟨(at_ M 0).b, 0, none⟩)) := by rw [hf.row.cellAt 0 (by omega)]; exact ptrs_at M 0 h0
  obtain ⟨l, hl⟩ : ∃ l, l + 1 = M.length := ⟨M.length - 1, by omega⟩
  have cl : w.cell? ⟨g, l, none⟩ = some (.pointer (some ⟨(at_ M l).b, 0, none⟩)) := by rw [hf.row.cellAt l (by omega)]; exact ptrs_at M l (by omega)
  have lI : (M.length : Int) - 1 = (l : Int) := by omega
  have g0 := hf.row.frozenAt 0
  have hl0 : 0 ≤ (l : Int) := by omega
  have hl1 : (l : Int) < (M.length : Int) := by omega
  have HL := Lib.hid hl
  clear hl
  go_enter Try.func32, Try.ntmps32
  go_wp2_with fail
  go_region
  obtain ⟨cur, hcur⟩ := own_blk hf.row
  have ngp : p ≠ g := blk_ne h.pb hcur (by decide)
  have nge : ∀ j, j < M.length → (at_ M j).b ≠ g := fun j hj => blk_ne (h.ents j hj) hcur (by decide)
  have npe : ∀ j, j < M.length → (at_ M j).b ≠ p := fun j hj e => blk_ne h.pb (h.ents j hj) (by decide) e.symm
  have pb1 : PB (w.setCell ⟨g, 0, none⟩ (.pointer (some ⟨(at_ M l).b, 0, none⟩))).drew p room age m (.slice (some ⟨g, 0, none⟩) M.length cap) := Blk.far h.pb (p := ⟨g, 0, none⟩) ngp _
  have ro1 : (w.setCell ⟨g, 0, none⟩ (.pointer (some ⟨(at_ M l).b, 0, none⟩))).drew.ownsRow B 63 1 (.slice (some ⟨g, 0, none⟩) M.length cap) M.length (ptrs (M.set 0 (at_ M l))) := by
    have e : ptrs (M.set 0 (at_ M l)) = (ptrs M).set 0 (.pointer (some ⟨(at_ M l).b, 0, none⟩)) := by unfold ptrs; rw [List.map_set]
    rw [e]; exact (hf.row.stored 0 _).1
  have en1 : ∀ j, j < M.length → EntAt (w.setCell ⟨g, 0, none⟩ (.pointer (some ⟨(at_ M l).b, 0, none⟩))).drew (at_ M j) j := fun j hj => Blk.far (h.ents j hj) (p := ⟨g, 0, none⟩) (nge j hj) _
  have t1 : Touch (FootV p (.slice (some ⟨g, 0, none⟩) M.length cap) M) w (w.setCell ⟨g, 0, none⟩ (.pointer (some ⟨(at_ M l).b, 0, none⟩))).drew := ((Touch.refl _ w).setCell (a := ⟨g, 0, none⟩) (.inl (.inr (.inl rfl))) _).drew
  generalize (w.setCell ⟨g, 0, none⟩ (.pointer (some ⟨(at_ M l).b, 0, none⟩))).drew = W1 at *
  clear p3 c0 cl g0
  have p3 : W1.cell? ⟨p, 3, none⟩ = some (.slice (some ⟨g, 0, none⟩) M.length cap) := Blk.cell pb1 3
  have f3 := Blk.frozen pb1 3
  have pb2 : PB (W1.setCell ⟨p, 3, none⟩ (.slice (some ⟨g, 0, none⟩) l cap)) p room age m (.slice (some ⟨g, 0, none⟩) l cap) := Blk.set_ pb1 3 _
  have hln : l = M.length - 1 := by have := HL.out; omega
  have ro2 : (W1.setCell ⟨p, 3, none⟩ (.slice (some ⟨g, 0, none⟩) l cap)).ownsRow B 63 1 (.slice (some ⟨g, 0, none⟩) l cap) l (ptrs (popped M)) := by
    have e : ptrs (popped M) = (ptrs (M.set 0 (at_ M l))).take l := by unfold ptrs popped; rw [List.map_take, ← hln]
    rw [e]
    refine (own_cut ro1 (by omega)).kept (row := some p) ⟨rfl, rfl, rfl, by simp, fun b _ hn => Below.heap_setCell _ _ _ _ (by intro e; exact hn (by rw [e]))⟩ (.inr ?_)
    intro e; injection e with e; exact ngp e.symm
  have en2 : ∀ j, j < M.length → EntAt (W1.setCell ⟨p, 3, none⟩ (.slice (some ⟨g, 0, none⟩) l cap)) (at_ M j) j := fun j hj => Blk.far (en1 j hj) (p := ⟨p, 3, none⟩) (npe j hj) _
  have t2 : Touch (FootV p (.slice (some ⟨g, 0, none⟩) M.length cap) M) w (W1.setCell ⟨p, 3, none⟩ (.slice (some ⟨g, 0, none⟩) l cap)) := t1.setCell (a := ⟨p, 3, none⟩) (.inl (.inl rfl)) _
  have hpp := popped_perm h0
  have hnd : ((at_ M 0 :: popped M).map Ent.b).Nodup := (hpp.map Ent.b).nodup_iff.2 h.nodup
  have hpl : (popped M).length = l := by rw [popped_length, hln]
  have hlc : l ≤ cap := by have := (own_cap ro1).1; have := HL.out; omega
  have HPL := Lib.hid hpl
  have HLN := Lib.hid hln
  clear hln hpl
  by_cases hl2 : 0 < l
  · have tl : decide ((0 : Int) < (l : Int)) = true := by simp; omega
    have hlo : Loose (W1.setCell ⟨p, 3, none⟩ (.slice (some ⟨g, 0, none⟩) l cap)) B p m g cap room age (popped M) 0 := by
      refine ⟨⟨by rw [HPL.out]; exact pb2, (List.nodup_cons.1 hnd).2⟩, by rw [HPL.out]; exact ro2, fun j hj hne => ?_, ⟨l, ?_⟩⟩
      · rw [HPL.out] at hj
        rw [at_popped (by rw [← HLN.out]; exact hj), if_neg hne]; exact en2 j (by have := HL.out; omega)
      · rw [at_popped (by rw [← HLN.out]; omega), if_pos rfl, ← HLN.out]; exact en2 l (by have := HL.out; omega)
    obtain ⟨hb, hu⟩ := popped_but h.heap
    have HD := Lib.hid (down_w B p m g cap room age (popped M) 0 _ (by omega) (by rw [HPL.out]; simpa using hl2) (by rw [HPL.out]; omega) hlo hb hu)
    go_wp2_with fail
    refine HD.out.mono ?_; rintro e w4 ⟨M4, rfl, hp4, hf4, hh4, ht4⟩
    go_wp2_with fail
    go_ret
    have hsub : ∀ b, Foot g (popped M) b → FootV p (.slice (some ⟨g, 0, none⟩) M.length cap) M b := by
      intro b hb
      rcases hb with rfl | hb
      · exact .inr (.inl rfl)
      · exact .inr (.inr ((hpp.map Ent.b).mem_iff.1 (List.mem_cons_of_mem _ hb)))
    refine ⟨_, M4, 0, rfl, (hp4.cons _).trans hpp, hf4.st hh4, ?_, rfl, t2.trans ht4 (fun b hb => .inl (hsub b hb))⟩
    refine ht4.blk (en2 0 h0) ?_
    rintro (e | e)
    · exact nge 0 h0 e
    · exact (List.nodup_cons.1 hnd).1 e
  · obtain rfl : l = 0 := by omega
    have tl : decide ((0 : Int) < ((0 : Nat) : Int)) = false := rfl
    go_wp2_with fail
    go_ret
    have hnil : popped M = [] := List.eq_nil_of_length_eq_zero HPL.out
    refine ⟨_, popped M, 0, rfl, hpp, ⟨pb2, (List.nodup_cons.1 hnd).2, by rw [HPL.out]; exact ro2, fun j hj => ?_, fun j _ hj => ?_⟩, en2 0 h0, rfl, t2⟩
    · rw [HPL.out] at hj; omega
    · rw [HPL.out] at hj; omega
/-- A block of two strings. -/
def KeyPost (w : World) (x : Ent) (e : Ending) (w' : World) : Prop := e = .returned (.agg #[.string x.route, .string x.name]) ∧ Below w.heap.size w w'
set_option maxHeartbeats 1000000 in
theorem key_w (x : Ent) (k : Int) (w : World) (hx : EntAt w x k) : Calls Try.prog 33 #[.pointer (some ⟨x.b, 0, none⟩)] w (KeyPost w x) := by
  have c0 : w.cell? ⟨x.b, 0, none⟩ = some (.string x.route) := Blk.cell hx 0
  have c1 : w.cell? ⟨x.b, 1, none⟩ = some (.string x.name) := Blk.cell hx 1
  have hlt : x.b < w.heap.size := Blk.lt hx
  go_enter Try.func33, Try.ntmps33
  go_wp2_with fail
  go_region
  go_wp2_with fail
  exact bodyPost_ret (v := .agg #[.string x.route, .string x.name]) (by simp [results, Try.results33, go_sem]) rfl ⟨rfl, bdrewN ((Below.refl _ w).alloc (Nat.le_refl _) _) 1⟩
end Go.Proofs.Ytcgfkmjlgblkcaa.Pat
