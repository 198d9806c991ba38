/- The walks of Guess, Size and Learn. -/
import Derived.Test.YtcgfkmjlgblkcaaPatL
import Derived.WalkLawsBesides
namespace Go.Proofs.Ytcgfkmjlgblkcaa.Pat
set_option linter.unusedVariables false
set_option linter.unusedSimpArgs false
open Go.RowKit Go.Proofs.Ytcgfkmjlgblkcaa.Mem Go.Proofs.Ytcgfkmjlgblkcaa.Own

section
variable (B p m : Nat) (v : Value) (room age : Int) (M : List Ent) (w : World)
set_option maxHeartbeats 1000000 in
theorem guess_yes (h : Pat w B p m v room age M) (x : Ent) (hx : x ∈ M) :
    Calls Try.prog 18 #[.pointer (some ⟨p, 0, none⟩), .string x.route, .string x.name] w fun e w' => e = .returned (.tuple #[.int .i64 x.place, .bool true]) ∧ w' = w := by
  have p2 : w.cell? ⟨p, 2, none⟩ = some (.map (some m)) := Blk.cell h.pb 2
  have hl := h.known.look x hx
  obtain ⟨j, hj, rfl⟩ := mem_at hx
  have c2 : w.cell? ⟨(at_ M j).b, 2, none⟩ = some (.int .i64 (at_ M j).place) := Blk.cell (h.ents j hj) 2
  generalize at_ M j = x at *
  clear h hj hx
  go_enter Try.func18, Try.ntmps18
  go_wp2_with fail
  go_ret2
  exact ⟨rfl, rfl⟩
set_option maxHeartbeats 1000000 in
theorem guess_no (h : Pat w B p m v room age M) (r n : ByteArray) (hr : r.size ≤ maxLen) (hn : n.size ≤ maxLen) (hx : ∀ x ∈ M, ¬ (x.route = r ∧ x.name = n)) :
    Calls Try.prog 18 #[.pointer (some ⟨p, 0, none⟩), .string r, .string n] w fun e w' => e = .returned (.tuple #[.int .i64 0, .bool false]) ∧ w' = w := by
  have p2 : w.cell? ⟨p, 2, none⟩ = some (.map (some m)) := Blk.cell h.pb 2
  have hl := h.known.look_no r n hr hn hx
  clear h hx hr hn
  go_enter Try.func18, Try.ntmps18
  go_wp2_with fail
  go_ret2
  exact ⟨rfl, rfl⟩
set_option maxHeartbeats 1000000 in
theorem size_w (h : Pat w B p m v room age M) :
    Calls Try.prog 12 #[.pointer (some ⟨p, 0, none⟩)] w fun e w' => e = .returned (.int .i64 (M.length : Int)) ∧ w' = w := by
  have p2 : w.cell? ⟨p, 2, none⟩ = some (.map (some m)) := Blk.cell h.pb 2
  have hl := h.known.len 3
  clear h
  go_enter Try.func12, Try.ntmps12
  go_wp2_with fail
  go_ret
  exact ⟨rfl, rfl⟩
set_option maxHeartbeats 1000000 in
theorem learn_neg (h : Pat w B p m v room age M) (r n : ByteArray) (pl : Int) (hp : pl < 0) :
    Calls Try.prog 13 #[.pointer (some ⟨p, 0, none⟩), .string r, .string n, .int .i64 pl] w fun e w' => e = .returned (.int .i64 2) ∧ w' = w := by
  go_enter Try.func13, Try.ntmps13
  go_wp2_with fail
  go_ret
  exact ⟨rfl, rfl⟩
end
/-- What becomes of an entry that is learnt. -/
def hitE (pl : Int) (x : Ent) : Ent := if x.place = pl then { x with hits := min (x.hits + 1) 4611686018427387904 } else { x with place := pl, hits := 1 }
def hitK (r n : ByteArray) (pl : Int) (x : Ent) : Ent := if x.route = r ∧ x.name = n then hitE pl x else x
theorem hitE_same (pl : Int) (x : Ent) : (hitE pl x).b = x.b ∧ (hitE pl x).route = x.route ∧ (hitE pl x).name = x.name ∧ (hitE pl x).age = x.age := by
  unfold hitE; split <;> exact ⟨rfl, rfl, rfl, rfl⟩
theorem hitK_same (r n : ByteArray) (pl : Int) (x : Ent) : (hitK r n pl x).b = x.b ∧ (hitK r n pl x).route = x.route ∧ (hitK r n pl x).name = x.name ∧ (hitK r n pl x).age = x.age := by
  unfold hitK; split
  · exact hitE_same pl x
  · exact ⟨rfl, rfl, rfl, rfl⟩
theorem hitK_same' (r n : ByteArray) (pl : Int) : ∀ x, (hitK r n pl x).b = x.b ∧ (hitK r n pl x).route = x.route ∧ (hitK r n pl x).name = x.name := fun x => ⟨(hitK_same r n pl x).1, (hitK_same r n pl x).2.1, (hitK_same r n pl x).2.2.1⟩
theorem hitE_fine {pl : Int} {x : Ent} (h : Fine x) (h0 : 0 ≤ pl) (h1 : pl ≤ 9223372036854775807) : Fine (hitE pl x) := by
  obtain ⟨a, b⟩ := h
  unfold hitE
  split
  · exact ⟨a, by show 0 ≤ min _ _ ∧ min _ _ ≤ _; omega⟩
  · exact ⟨⟨h0, h1⟩, by show (0 : Int) ≤ 1 ∧ (1 : Int) ≤ _; omega⟩
/-- The one that has the key is the one at j. -/
theorem set_hit {M : List Ent} (hk : M.Pairwise fun x y => ¬ (x.route = y.route ∧ x.name = y.name)) {j : Nat} (hj : j < M.length) (pl : Int) : M.set j (hitE pl (at_ M j)) = M.map (hitK (at_ M j).route (at_ M j).name pl) := by
  apply List.ext_getElem?
  intro k
  rw [List.getElem?_map, List.getElem?_set]
  by_cases e : j = k
  · subst e
    rw [if_pos rfl, if_pos hj, at_get M j hj]
    simp [hitK]
  · rw [if_neg e]
    by_cases hkl : k < M.length
    · rw [at_get M k hkl]
      have hne : ¬ ((at_ M k).route = (at_ M j).route ∧ (at_ M k).name = (at_ M j).name) := by
        have e1 := at_get M k hkl
        have e2 := at_get M j hj
        rw [List.getElem?_eq_getElem hkl] at e1
        rw [List.getElem?_eq_getElem hj] at e2
        have p1 := List.pairwise_iff_getElem.1 hk
        rw [← Option.some.inj e1, ← Option.some.inj e2]
        rcases Nat.lt_or_gt_of_ne e with h | h
        · exact fun hh => p1 j k hj hkl h ⟨hh.1.symm, hh.2.symm⟩
        · exact p1 k j hkl hj h
      simp [hitK, hne]
    · rw [List.getElem?_eq_none (by omega)]; rfl
/-- A pattern in which one entry has turned, and the heap isn't set right yet. -/
structure PatB (w : World) (B p m g cap : Nat) (room age : Int) (M : List Ent) (j : Nat) : Prop where
  full : Full w B p m g cap room age M
  but : HeapBut M j
  known : Known w m age.toNat M
  young : ∀ x ∈ M, 0 ≤ x.age ∧ x.age < age
  ages : M.Pairwise fun x y => x.age ≠ y.age
  fine : ∀ x ∈ M, Fine x
  low : B ≤ p ∧ B ≤ m ∧ ∀ x ∈ M, B ≤ x.b
  age0 : 0 ≤ age
theorem map_perm_b {M : List Ent} (r n : ByteArray) (pl : Int) : (M.map (hitK r n pl)).map Ent.b = M.map Ent.b := by
  rw [List.map_map]; exact List.map_congr_left fun x _ => (hitK_same r n pl x).1
theorem hit_patB {w W1 : World} {B p m g cap : Nat} {room age : Int} {M : List Ent} {j : Nat} {pl : Int} (h : Pat w B p m (.slice (some ⟨g, 0, none⟩) M.length cap) room age M) (hj : j < M.length) (h0 : 0 ≤ pl) (h1 : pl ≤ 9223372036854775807)
    (ht : Touch (fun b => b = (at_ M j).b) w W1) (hE : EntAt W1 (hitE pl (at_ M j)) j) : PatB W1 B p m g cap room age (M.map (hitK (at_ M j).route (at_ M j).name pl)) j := by
  have hset := set_hit h.known.keys hj pl
  have hat : ∀ k, at_ (M.map (hitK (at_ M j).route (at_ M j).name pl)) k = if k = j then hitE pl (at_ M j) else at_ M k := fun k => by rw [← hset, at_set M j k _ hj]
  have npe : p ≠ (at_ M j).b := fun e => blk_ne h.pb (h.ents j hj) (by decide) e
  have hlen : (M.map (hitK (at_ M j).route (at_ M j).name pl)).length = M.length := by simp
  have hrow : ptrs (M.map (hitK (at_ M j).route (at_ M j).name pl)) = ptrs M := by
    unfold ptrs
    rw [List.map_map]; exact List.map_congr_left fun x _ => by show Value.pointer (some ⟨(hitK _ _ pl x).b, 0, none⟩) = _; rw [(hitK_same _ _ pl x).1]
  refine ⟨⟨⟨by rw [hlen]; exact ht.blk h.pb npe, by rw [map_perm_b]; exact h.nodup⟩, ?_, fun k hk => ?_⟩, ?_, ?_, fun x hx => ?_, ?_, fun x hx => ?_, ⟨h.low.1, h.low.2.1, fun x hx => ?_⟩, h.age0⟩
  · rw [hrow, hlen]
    exact ht.own h.row (fun g hg e => by subst e; exact own_ne h.row (h.ents j hj) (by decide) hg.symm)
  · rw [hlen] at hk
    rw [hat]
    by_cases e : k = j
    · subst e; rw [if_pos rfl]; exact hE
    · rw [if_neg e]; exact ht.blk (h.ents k hk) (nodup_at h.nodup hk hj e)
  · rw [← hset]; exact h.heap.turn j hj _
  · exact (h.known.same (hitK_same' _ _ pl)).touch ht (fun e => h.mp.2.1 j hj e.symm)
  · obtain ⟨y, hy, rfl⟩ := List.mem_map.1 hx
    rw [(hitK_same _ _ pl y).2.2.2]; exact h.young y hy
  · rw [List.pairwise_map]
    exact h.ages.imp (fun {a b} hh => by rw [(hitK_same _ _ pl a).2.2.2, (hitK_same _ _ pl b).2.2.2]; exact hh)
  · obtain ⟨y, hy, rfl⟩ := List.mem_map.1 hx
    unfold hitK
    split
    · exact hitE_fine (h.fine y hy) h0 h1
    · exact h.fine y hy
  · obtain ⟨y, hy, rfl⟩ := List.mem_map.1 hx
    rw [(hitK_same _ _ pl y).1]; exact h.low.2.2 y hy
theorem turned_pat {w w' : World} {B p m g cap : Nat} {room age : Int} {M M' : List Ent} {j : Nat} (h : PatB w B p m g cap room age M j) (hp : M'.Perm M) (hf : Full w' B p m g cap room age M') (hh : Heap M') (ht : Touch (Foot g M) w w') :
    Pat w' B p m (.slice (some ⟨g, 0, none⟩) M'.length cap) room age M' := by
  refine ⟨hf.st hh, (h.known.perm hp).touch ht ?_, fun x hx => h.young x (hp.mem_iff.1 hx), (hp.symm.pairwise_iff (fun {a b} h => Ne.symm h)).1 h.ages, fun x hx => h.fine x (hp.mem_iff.1 hx), ⟨h.low.1, h.low.2.1, fun x hx => h.low.2.2 x (hp.mem_iff.1 hx)⟩, h.age0⟩
  rintro (e | e)
  · obtain ⟨cur, hcur⟩ := own_blk h.full.row
    exact map_ne h.known hcur e.symm
  · obtain ⟨y, hy, e⟩ := List.mem_map.1 e
    obtain ⟨k, hk, rfl⟩ := mem_at hy
    exact map_ne h.known (h.full.ents k hk) e
def LearnPost (w : World) (B p m : Nat) (v : Value) (room age : Int) (M0 : List Ent) (e : Ending) (w' : World) : Prop :=
  ∃ (v' : Value) (M' : List Ent), e = .returned (.int .i64 0) ∧ M'.Perm M0 ∧ Pat w' B p m v' room age M' ∧ v'.ownBlock = v.ownBlock ∧ Touch (FootP p m v M0) w w'
theorem foot_sub {p m g n cap : Nat} {M : List Ent} {b : Nat} (h : Foot g M b) : FootP p m (.slice (some ⟨g, 0, none⟩) n cap) M b := by
  rcases h with e | e
  · subst e; exact .inr (.inr (.inl rfl))
  · exact .inr (.inr (.inr e))
theorem ent_at5 {W : World} {pl : Int} {X : Ent} {k : Int} (h : EntAt W (hitE pl X) k) : W.cell? ⟨X.b, 5, none⟩ = some (.int .i64 k) := by
  have := Blk.cell h 5
  rw [(hitE_same pl X).1] at this
  exact this
theorem at_mem' {M : List Ent} {j : Nat} {X : Ent} (h : at_ M j = X) (hj : j < M.length) : X.b ∈ M.map Ent.b := by subst h; exact at_mem hj
set_option maxHeartbeats 2000000 in
set_option maxRecDepth 100000 in
theorem learn_hit (B p m : Nat) (v : Value) (room age : Int) (M : List Ent) (w : World) (h : Pat w B p m v room age M) (hM : M.length < 17592186044400) (j : Nat) (hj : j < M.length) (pl : Int) (h0 : 0 ≤ pl) (h1 : pl ≤ 9223372036854775807) :
    Calls Try.prog 13 #[.pointer (some ⟨p, 0, none⟩), .string (at_ M j).route, .string (at_ M j).name, .int .i64 pl] w (LearnPost w B p m v room age (M.map (hitK (at_ M j).route (at_ M j).name pl))) := by
  obtain ⟨g, cap, rfl, -⟩ := h.toSt.full (by omega)
  have p2 : w.cell? ⟨p, 2, none⟩ = some (.map (some m)) := Blk.cell h.pb 2
  have hl := h.known.look (at_ M j) (List.mem_of_getElem? (at_get M j hj))
  have c2 : w.cell? ⟨(at_ M j).b, 2, none⟩ = some (.int .i64 (at_ M j).place) := Blk.cell (h.ents j hj) 2
  have c3 : w.cell? ⟨(at_ M j).b, 3, none⟩ = some (.int .i64 (at_ M j).hits) := Blk.cell (h.ents j hj) 3
  have f3 := Blk.frozen (h.ents j hj) 3
  have f2 := Blk.frozen (h.ents j hj) 2
  have hfi := h.fine (at_ M j) (List.mem_of_getElem? (at_get M j hj))
  have hx := h.ents j hj
  have HPB := Lib.hid (fun W1 => hit_patB (W1 := W1) h hj h0 h1)
  have b0 := hfi.hits.1
  have b1 := hfi.hits.2
  have hn : (M.map (hitK (at_ M j).route (at_ M j).name pl)).length = M.length := by simp
  have HN := Lib.hid hn
  have HXM := Lib.hid (map_perm_b (M := M) (at_ M j).route (at_ M j).name pl)
  clear hn
  generalize hX : at_ M j = X at *
  have HX := Lib.hid hX
  clear hX
  have hwr : ∀ W1, Touch (fun b => b = X.b) w W1 → EntAt W1 (hitE pl X) j → Hid (PatB W1 B p m g cap room age (M.map (hitK X.route X.name pl)) j) := fun W1 a b => Lib.hid (HPB.out W1 a b)
  clear HPB
  generalize hM2 : M.map (hitK X.route X.name pl) = M2 at *
  have t0 : decide (pl < 0) = false := decide_eq_false (by omega)
  have HW := Lib.hid hwr
  clear hwr hM2 hfi h
  by_cases hpl : X.place = pl
  · have t1 : (X.place == pl) = true := by simpa using hpl
    have HPL := Lib.hid hpl
    clear hpl
    by_cases hcap : X.hits + 1 ≤ 4611686018427387904
    · have ev : ∀ W, W = w.setCell ⟨X.b, 3, none⟩ (.int .i64 (X.hits + 1)) → EntAt W (hitE pl X) j := fun W hW => by
        have e : hitE pl X = { X with hits := X.hits + 1 } := by unfold hitE; rw [if_pos HPL.out, Int.min_eq_left hcap]
        rw [e, hW]; exact Blk.set_ hx 3 _
      have EV := Lib.hid ev; clear ev
      go_enter Try.func13, Try.ntmps13
      go_wp2_with fail
      have hE : EntAt (w.setCell ⟨X.b, 3, none⟩ (.int .i64 (X.hits + 1))) (hitE pl X) j := EV.out _ rfl
      have tW : Touch (fun b => b = X.b) w (w.setCell ⟨X.b, 3, none⟩ (.int .i64 (X.hits + 1))) := Touch.setCell (a := ⟨X.b, 3, none⟩) (Touch.refl (fun b => b = X.b) w) (.inl rfl) _
      have HB := HW.out _ tW hE
      have c5 : (w.setCell ⟨X.b, 3, none⟩ (.int .i64 (X.hits + 1))).cell? ⟨X.b, 5, none⟩ = some (.int .i64 (j : Int)) := ent_at5 hE
      generalize w.setCell ⟨X.b, 3, none⟩ (.int .i64 (X.hits + 1)) = W1 at *
      have HT := Lib.hid (turned_w B p m g cap room age M2 (j : Int) W1.drew (by omega) (by rw [HN.out]; simpa using hj) (by rw [HN.out]; omega) ⟨⟨HB.out.full.pb, HB.out.full.nodup⟩, HB.out.full.row, HB.out.full.ents⟩ HB.out.but)
      clear hl c2 c3 f3 f2 hx hE b0 b1
      go_region_with (go_at_call 31; refine HT.out.mono ?_; rintro e W5 ⟨M5, rfl, hp5, hf5, hh5, ht5⟩)
      all_goals
        go_wp2_with fail
        go_ret
        refine ⟨_, M5, rfl, hp5, turned_pat HB.out hp5 hf5 hh5 ⟨ht5.os, ht5.tape, ht5.output, ht5.size, ht5.block⟩, rfl, ?_⟩
        have hXM : X.b ∈ M2.map Ent.b := by rw [HXM.out]; exact at_mem' HX.out hj
        exact (tW.mono (fun b hb => by subst hb; exact .inr (.inr (.inr hXM)))).then ((⟨ht5.os, ht5.tape, ht5.output, ht5.size, ht5.block⟩ : Touch (Foot g M2) W1 W5).mono (fun b hb => foot_sub hb))
    · have ev : ∀ W, W = w.setCell ⟨X.b, 3, none⟩ (.int .i64 4611686018427387904) → EntAt W (hitE pl X) j := fun W hW => by
        have e : hitE pl X = { X with hits := 4611686018427387904 } := by unfold hitE; rw [if_pos HPL.out, Int.min_eq_right (by omega)]
        rw [e, hW]; exact Blk.set_ hx 3 _
      have EV := Lib.hid ev; clear ev
      go_enter Try.func13, Try.ntmps13
      go_wp2_with fail
      have hE : EntAt (w.setCell ⟨X.b, 3, none⟩ (.int .i64 4611686018427387904)) (hitE pl X) j := EV.out _ rfl
      have tW : Touch (fun b => b = X.b) w (w.setCell ⟨X.b, 3, none⟩ (.int .i64 4611686018427387904)) := Touch.setCell (a := ⟨X.b, 3, none⟩) (Touch.refl (fun b => b = X.b) w) (.inl rfl) _
      have HB := HW.out _ tW hE
      have c5 : (w.setCell ⟨X.b, 3, none⟩ (.int .i64 4611686018427387904)).cell? ⟨X.b, 5, none⟩ = some (.int .i64 (j : Int)) := ent_at5 hE
      generalize w.setCell ⟨X.b, 3, none⟩ (.int .i64 4611686018427387904) = W1 at *
      have HT := Lib.hid (turned_w B p m g cap room age M2 (j : Int) W1.drew (by omega) (by rw [HN.out]; simpa using hj) (by rw [HN.out]; omega) ⟨⟨HB.out.full.pb, HB.out.full.nodup⟩, HB.out.full.row, HB.out.full.ents⟩ HB.out.but)
      clear hl c2 c3 f3 f2 hx hE b0 b1
      go_region_with (go_at_call 31; refine HT.out.mono ?_; rintro e W5 ⟨M5, rfl, hp5, hf5, hh5, ht5⟩)
      all_goals
        go_wp2_with fail
        go_ret
        refine ⟨_, M5, rfl, hp5, turned_pat HB.out hp5 hf5 hh5 ⟨ht5.os, ht5.tape, ht5.output, ht5.size, ht5.block⟩, rfl, ?_⟩
        have hXM : X.b ∈ M2.map Ent.b := by rw [HXM.out]; exact at_mem' HX.out hj
        exact (tW.mono (fun b hb => by subst hb; exact .inr (.inr (.inr hXM)))).then ((⟨ht5.os, ht5.tape, ht5.output, ht5.size, ht5.block⟩ : Touch (Foot g M2) W1 W5).mono (fun b hb => foot_sub hb))
  · have t1 : (X.place == pl) = false := by simpa using hpl
    have ev : ∀ W, W = (w.setCell ⟨X.b, 2, none⟩ (.int .i64 pl)).setCell ⟨X.b, 3, none⟩ (.int .i64 1) → EntAt W (hitE pl X) j := fun W hW => by
      have e : hitE pl X = { X with place := pl, hits := 1 } := by unfold hitE; rw [if_neg hpl]
      rw [e, hW]; exact Blk.set_ (Blk.set_ hx 2 _) 3 _
    have EV := Lib.hid ev; clear ev
    have HPL := Lib.hid hpl; clear hpl
    go_enter Try.func13, Try.ntmps13
    go_wp2_with fail
    have hE : EntAt ((w.setCell ⟨X.b, 2, none⟩ (.int .i64 pl)).setCell ⟨X.b, 3, none⟩ (.int .i64 1)) (hitE pl X) j := EV.out _ rfl
    have tW : Touch (fun b => b = X.b) w ((w.setCell ⟨X.b, 2, none⟩ (.int .i64 pl)).setCell ⟨X.b, 3, none⟩ (.int .i64 1)) := (Touch.setCell (a := ⟨X.b, 2, none⟩) (Touch.refl (fun b => b = X.b) w) (.inl rfl) _).setCell (a := ⟨X.b, 3, none⟩) (.inl rfl) _
    have HB := HW.out _ tW hE
    have c5 : ((w.setCell ⟨X.b, 2, none⟩ (.int .i64 pl)).setCell ⟨X.b, 3, none⟩ (.int .i64 1)).cell? ⟨X.b, 5, none⟩ = some (.int .i64 (j : Int)) := ent_at5 hE
    generalize (w.setCell ⟨X.b, 2, none⟩ (.int .i64 pl)).setCell ⟨X.b, 3, none⟩ (.int .i64 1) = W1 at *
    have HT := Lib.hid (turned_w B p m g cap room age M2 (j : Int) W1.drew (by omega) (by rw [HN.out]; simpa using hj) (by rw [HN.out]; omega) ⟨⟨HB.out.full.pb, HB.out.full.nodup⟩, HB.out.full.row, HB.out.full.ents⟩ HB.out.but)
    clear hl c2 c3 f3 f2 hx hE b0 b1
    go_region_with (go_at_call 31; refine HT.out.mono ?_; rintro e W5 ⟨M5, rfl, hp5, hf5, hh5, ht5⟩)
    all_goals
      go_wp2_with fail
      go_ret
      refine ⟨_, M5, rfl, hp5, turned_pat HB.out hp5 hf5 hh5 ⟨ht5.os, ht5.tape, ht5.output, ht5.size, ht5.block⟩, rfl, ?_⟩
      have hXM : X.b ∈ M2.map Ent.b := by rw [HXM.out]; exact at_mem' HX.out hj
      exact (tW.mono (fun b hb => by subst hb; exact .inr (.inr (.inr hXM)))).then ((⟨ht5.os, ht5.tape, ht5.output, ht5.size, ht5.block⟩ : Touch (Foot g M2) W1 W5).mono (fun b hb => foot_sub hb))
end Go.Proofs.Ytcgfkmjlgblkcaa.Pat
