/- Lists of entries in memory; the walks of fine and New. -/
import Derived.Test.YtcgfkmjlgblkcaaPatN
import Derived.Carry
import Derived.Laws.EntriesVeiled
namespace Go.Proofs.Ytcgfkmjlgblkcaa.Pat
set_option linter.unusedVariables false
set_option linter.unusedSimpArgs false
open Go.RowKit Go.Proofs.Ytcgfkmjlgblkcaa.Mem Go.Proofs.Ytcgfkmjlgblkcaa.Own

/-- What is learnt of a key. -/
structure Rec where
  route : ByteArray
  name : ByteArray
  place : Int
  hits : Int
instance : Inhabited Rec := ⟨⟨.empty, .empty, 0, 0⟩⟩
def Ent.r (x : Ent) : Rec := ⟨x.route, x.name, x.place, x.hits⟩
def Rec.v (x : Rec) : Value := .agg #[.string x.route, .string x.name, .int .i64 x.place, .int .i64 x.hits]
def Rec.cs (x : Rec) : List Value := [.string x.route, .string x.name, .int .i64 x.place, .int .i64 x.hits]
def ra (R : List Rec) (i : Nat) : Rec := R.getD i default
theorem ra_get (R : List Rec) (j : Nat) (h : j < R.length) : R[j]? = some (ra R j) := by
  unfold ra
  rw [List.getD_eq_getElem?_getD, List.getElem?_eq_getElem h]; rfl
theorem ra_mem {R : List Rec} {j : Nat} (h : j < R.length) : ra R j ∈ R := List.mem_of_getElem? (ra_get R j h)
def rFine (x : Rec) : Prop := 0 ≤ x.place ∧ 0 ≤ x.hits ∧ x.hits ≤ 4611686018427387904
instance (x : Rec) : Decidable (rFine x) := by unfold rFine; exact inferInstance
/-- The numbers that an int holds, the strings that there are. -/
def rWf (x : Rec) : Prop := x.route.size ≤ maxLen ∧ x.name.size ≤ maxLen ∧ -9223372036854775808 ≤ x.place ∧ x.place ≤ 9223372036854775807 ∧ -9223372036854775808 ≤ x.hits ∧ x.hits ≤ 9223372036854775807
/-- A list of entries that lies in memory, from an address on. -/
structure RecsAt (w : World) (a0 : Option Addr) (R : List Rec) : Prop where
  at_ : ∀ i, i < R.length → ∃ b off, a0 = some ⟨b, off, none⟩ ∧ b < w.heap.size ∧ w.cell? ⟨b, off + i * 4, none⟩ = some (.string (ra R i).route) ∧ w.cell? ⟨b, off + i * 4 + 1, none⟩ = some (.string (ra R i).name) ∧
    w.cell? ⟨b, off + i * 4 + 2, none⟩ = some (.int .i64 (ra R i).place) ∧ w.cell? ⟨b, off + i * 4 + 3, none⟩ = some (.int .i64 (ra R i).hits)
theorem RecsAt.below {w w' : World} {a0 : Option Addr} {R : List Rec} (h : RecsAt w a0 R) (hb : Below w.heap.size w w') : RecsAt w' a0 R := by
  refine ⟨fun i hi => ?_⟩
  obtain ⟨b, off, rfl, hlt, h0, h1, h2, h3⟩ := h.at_ i hi
  exact ⟨b, off, rfl, Nat.lt_of_lt_of_le hlt hb.size, (hb.cell (p := ⟨b, _, none⟩) hlt).trans h0, (hb.cell (p := ⟨b, _, none⟩) hlt).trans h1, (hb.cell (p := ⟨b, _, none⟩) hlt).trans h2, (hb.cell (p := ⟨b, _, none⟩) hlt).trans h3⟩
def FinePost (w : World) (x : Rec) (b : Bool) (e : Ending) (w' : World) : Prop := e = .returned (.bool b) ∧ Below w.heap.size w w'
set_option maxHeartbeats 1000000 in
theorem fine_yes (x : Rec) (w : World) (h : rFine x) : Calls Try.prog 29 #[.agg #[.string x.route, .string x.name, .int .i64 x.place, .int .i64 x.hits]] w (FinePost w x true) := by
  obtain ⟨h0, h1, h2⟩ := h
  have t0 : decide (0 ≤ x.place) = true := decide_eq_true h0
  have t1 : decide (0 ≤ x.hits) = true := decide_eq_true h1
  have t2 : decide (x.hits ≤ 4611686018427387904) = true := decide_eq_true h2
  go_enter Try.func29, Try.ntmps29
  go_wp2_with fail
  go_ret
  exact ⟨rfl, (Below.refl _ w).alloc (Nat.le_refl _) _⟩
set_option maxHeartbeats 1000000 in
theorem fine_no (x : Rec) (w : World) (h : ¬ rFine x) : Calls Try.prog 29 #[.agg #[.string x.route, .string x.name, .int .i64 x.place, .int .i64 x.hits]] w (FinePost w x false) := by
  by_cases h0 : 0 ≤ x.place
  · have t0 : decide (0 ≤ x.place) = true := decide_eq_true h0
    by_cases h1 : 0 ≤ x.hits
    · have t1 : decide (0 ≤ x.hits) = true := decide_eq_true h1
      have t2 : decide (x.hits ≤ 4611686018427387904) = false := decide_eq_false (fun h2 => h ⟨h0, h1, h2⟩)
      go_enter Try.func29, Try.ntmps29
      go_wp2_with fail
      go_ret
      exact ⟨rfl, (Below.refl _ w).alloc (Nat.le_refl _) _⟩
    · have t1 : decide (0 ≤ x.hits) = false := decide_eq_false h1
      go_enter Try.func29, Try.ntmps29
      go_wp2_with fail
      go_ret
      exact ⟨rfl, (Below.refl _ w).alloc (Nat.le_refl _) _⟩
  · have t0 : decide (0 ≤ x.place) = false := decide_eq_false h0
    go_enter Try.func29, Try.ntmps29
    go_wp2_with fail
    go_ret
    exact ⟨rfl, (Below.refl _ w).alloc (Nat.le_refl _) _⟩
def sameKey (x y : Rec) : Prop := x.route = y.route ∧ x.name = y.name
instance (x y : Rec) : Decidable (sameKey x y) := by unfold sameKey; exact inferInstance
/-- Entries with which a pattern may begin. -/
def OkR (room : Int) (R : List Rec) : Prop := ((R.length : Int) ≤ room ∨ R = []) ∧ (∀ x ∈ R, rFine x) ∧ R.Pairwise fun x y => ¬ sameKey x y
/-- A pattern's entries by their ages: the list that the document speaks of. -/
structure Aged (M L : List Ent) : Prop where
  perm : M.Perm L
  rise : L.Pairwise fun x y => x.age < y.age
def NewNil (w : World) (k : Int) (e : Ending) (w' : World) : Prop := e = .returned (.tuple #[.pointer none, .int .i64 k]) ∧ Below w.heap.size w w'
def NewOk (w : World) (room : Int) (R : List Rec) (e : Ending) (w' : World) : Prop :=
  ∃ (p m : Nat) (v : Value) (M L : List Ent), e = .returned (.tuple #[.pointer (some ⟨p, 0, none⟩), .int .i64 0]) ∧ Pat w' w.heap.size p m v room (R.length : Int) M ∧ Aged M L ∧ L.map Ent.r = R ∧ Below w.heap.size w w'
set_option maxHeartbeats 1000000 in
theorem new_range (room : Int) (a0 : Option Addr) (n cap : Nat) (w : World) (h : room < 0 ∨ 4096 < room) : Calls Try.prog 11 #[.int .i64 room, .slice a0 n cap] w (NewNil w 2) := by
  by_cases h0 : room < 0
  · have t0 : decide (room < 0) = true := decide_eq_true h0
    go_enter Try.func11, Try.ntmps11
    go_wp2_with fail
    go_ret2
    exact ⟨rfl, Below.refl _ _⟩
  · have t0 : decide (room < 0) = false := decide_eq_false h0
    have t1 : decide (4096 < room) = true := decide_eq_true (by omega)
    go_enter Try.func11, Try.ntmps11
    go_wp2_with fail
    go_ret2
    exact ⟨rfl, Below.refl _ _⟩
def BeginPost (w : World) (room : Int) (R : List Rec) (e : Ending) (w' : World) : Prop := (OkR room R → NewOk w room R e w') ∧ (¬ OkR room R → NewNil w 1 e w')
/-- At the loop's head. -/
def NewRel (w : World) (room : Int) (R : List Rec) (p m k : Nat) (wr : World) : Prop :=
  ∃ (v : Value) (M L : List Ent), Pat wr w.heap.size p m v room (k : Int) M ∧ Aged M L ∧ L.map Ent.r = R.take k ∧ Below w.heap.size w wr ∧ (0 < k → (R.length : Int) ≤ room)
theorem aged_mem {M L : List Ent} (h : Aged M L) {R : List Rec} {k : Nat} (hL : L.map Ent.r = R.take k) {y : Ent} (hy : y ∈ M) : ∃ j, j < k ∧ j < R.length ∧ ra R j = y.r := by
  have hm : y.r ∈ R.take k := by rw [← hL]; exact List.mem_map_of_mem (h.perm.mem_iff.1 hy)
  obtain ⟨j, hj, e⟩ := List.getElem_of_mem hm
  have hj' : j < k ∧ j < R.length := by simp at hj; omega
  refine ⟨j, hj'.1, hj'.2, ?_⟩
  have := ra_get R j hj'.2
  rw [List.getElem_take] at e
  rw [List.getElem?_eq_getElem hj'.2] at this
  rw [← e]; exact (Option.some.inj this).symm
theorem not_ok_key {room : Int} {M L : List Ent} (h : Aged M L) {R : List Rec} {k : Nat} (hL : L.map Ent.r = R.take k) (hk : k < R.length) {y : Ent} (hy : y ∈ M) (e1 : y.route = (ra R k).route) (e2 : y.name = (ra R k).name) : ¬ OkR room R := by
  intro hok
  obtain ⟨j, hj, hjl, e⟩ := aged_mem h hL hy
  have hp := List.pairwise_iff_getElem.1 hok.2.2 j k hjl hk hj
  have a1 := ra_get R j hjl
  have a2 := ra_get R k hk
  rw [List.getElem?_eq_getElem hjl] at a1
  rw [List.getElem?_eq_getElem hk] at a2
  rw [Option.some.inj a1, Option.some.inj a2, e] at hp
  exact hp ⟨e1, e2⟩
theorem ok_end {room : Int} {M L : List Ent} (h : Aged M L) {R : List Rec} (hL : L.map Ent.r = R) (hf : ∀ x ∈ M, Fine x) (hk : M.Pairwise fun x y => ¬ (x.route = y.route ∧ x.name = y.name)) (hl : 0 < R.length → (R.length : Int) ≤ room) : OkR room R := by
  refine ⟨?_, fun x hx => ?_, ?_⟩
  · by_cases e : R = []
    · exact .inr e
    · exact .inl (hl (List.length_pos_iff.2 e))
  · rw [← hL] at hx
    obtain ⟨y, hy, rfl⟩ := List.mem_map.1 hx
    have := hf y (h.perm.mem_iff.2 hy)
    exact ⟨this.place.1, this.hits.1, this.hits.2⟩
  · rw [← hL, List.pairwise_map]
    exact (h.perm.pairwise_iff (fun {a b} h k => h ⟨k.1.symm, k.2.symm⟩)).1 hk
theorem aged_add {M M' L : List Ent} (h : Aged M L) {x : Ent} (hp : M'.Perm (M ++ [x])) (hx : ∀ y ∈ M, y.age < x.age) : Aged M' (L ++ [x]) := by
  refine ⟨hp.trans (h.perm.append_right _), ?_⟩
  rw [List.pairwise_append]
  exact ⟨h.rise, by simp, fun a ha b hb => by simp at hb; subst hb; exact hx a (h.perm.mem_iff.2 ha)⟩
theorem new_start (w : World) (room : Int) (R : List Rec) : NewRel w room R (w.heap.size + 1) w.heap.size 0 ((w.alloc (Obj.map #[] 0)).alloc
      (Obj.cells #[.int .i64 room, .int .i64 0, .map (some w.heap.size), .slice none 0 0, .func (.func 27) #[] #[], .func (.func 28) #[] #[]] 70)) := by
  have hb := Blk.new (w.alloc (Obj.map #[] 0)) 70 #[.int .i64 room, .int .i64 0, .map (some w.heap.size), .slice none 0 0, .func (.func 27) #[] #[], .func (.func 28) #[] #[]]
  rw [show (w.alloc (Obj.map #[] 0)).heap.size = w.heap.size + 1 by simp] at hb
  refine ⟨.slice none 0 0, [], [], ⟨⟨hb, by simp, World.ownsRow_nil _ _ _ _, fun j hj => absurd hj (by simp), fun j h0 hj => absurd hj (by simp)⟩, ⟨by simp, by simp, ?_⟩, by simp, by simp, by simp, ⟨by omega, by omega, by simp⟩, by omega⟩, ⟨List.Perm.refl _, by simp⟩, by simp, ?_, fun h => absurd h (by omega)⟩
  · refine ⟨.map [], (World.ownsMap_made w Try.prog 77 ptrElem).alloc _, rfl, by simp, fun r s _ _ _ => rfl⟩
  · exact ((Below.refl _ w).alloc (Nat.le_refl _) _).alloc (by simp) _
set_option maxHeartbeats 4000000 in
set_option maxRecDepth 100000 in
theorem new_w (room : Int) (a0 : Option Addr) (n cap : Nat) (R : List Rec) (w : World) (h0 : 0 ≤ room) (h1 : room ≤ 4096) (hn : n = R.length) (hnm : n < 17592186044400) (hR : RecsAt w a0 R) (hw : ∀ x ∈ R, rWf x) :
    Calls Try.prog 11 #[.int .i64 room, .slice a0 n cap] w (BeginPost w room R) := by
  have t0 : decide (room < 0) = false := decide_eq_false (by omega)
  have t1 : decide (4096 < room) = false := decide_eq_false (by omega)
  have HRR := Lib.hid hR; clear hR
  have HWF := Lib.hid hw; clear hw
  have HN := Lib.hid hn; clear hn
  have hmm := @run_makeMap Try.prog
  go_enter Try.func11, Try.ntmps11
  go_wp2_with fail
  have hst := new_start w room R
  obtain ⟨p, hp⟩ : ∃ p, p = w.heap.size + 1 := ⟨_, rfl⟩
  obtain ⟨m, hm⟩ : ∃ m, m = w.heap.size := ⟨_, rfl⟩
  have HST := Lib.hid hst; clear hst
  have HPP := Lib.hid hp
  have HMM := Lib.hid hm
  rw [← hp]
  clear hmm hp hm t0 t1
  go_loopw [29] (fun i wr => ∃ k : Nat, k ≤ n ∧ i = .int .i64 k ∧ Hid (NewRel w room R p m k wr)) (fun i _ => n - (intOf i).toNat)
  case atStart => exact ⟨0, Nat.zero_le _, rfl, Lib.hid (by rw [HPP.out, HMM.out]; exact HST.out)⟩
  case round =>
    obtain ⟨k, hk, rfl, hrel⟩ := hrel
    by_cases hkn : k < n
    · obtain ⟨v, M, L, hpat, hag, hL, hbel, hroom⟩ := hrel.out
      have hkR : k < R.length := by rw [← HN.out]; exact hkn
      obtain ⟨b, off, rfl, hblt, c0, c1, c2, c3⟩ := (HRR.out.below hbel).at_ k hkR
      have hwf := HWF.out (ra R k) (ra_mem hkR)
      have hlen0 : M.length ≤ k := by
        have e := congrArg List.length hL
        have := hag.perm.length_eq
        simp at e; omega
      have hX : ∃ x, ra R k = x := ⟨_, rfl⟩
      obtain ⟨x, hX⟩ := hX
      rw [hX] at c0 c1 c2 c3 hwf
      have HXX := Lib.hid hX
      have HKR := Lib.hid hkR
      have hWB : Below w.heap.size w (wr.alloc (.cells #[.string x.route, .string x.name, .int .i64 x.place, .int .i64 x.hits] 31)) := hbel.alloc hbel.size _
      have hpatW := hpat.touch ((Touch.refl noS wr).alloc (.cells #[.string x.route, .string x.name, .int .i64 x.place, .int .i64 x.hits] 31)) (fun _ _ => id)
      have hxb := Blk.new wr 31 #[.string x.route, .string x.name, .int .i64 x.place, .int .i64 x.hits]
      have hpw : p < wr.heap.size := Blk.lt hpat.pb
      have tk : decide ((k : Int) < (n : Int)) = true := by simp; omega
      have hsz : wr.heap.size < (wr.alloc (.cells #[.string x.route, .string x.name, .int .i64 x.place, .int .i64 x.hits] 31)).heap.size := by simp
      clear hX hkR
      have hr0 : (0 : Int) ≤ (k : Int) := by omega
      have hr1 : (k : Int) < (n : Int) := by omega
      go_wp2_with fail
      generalize hW : wr.alloc (.cells #[.string x.route, .string x.name, .int .i64 x.place, .int .i64 x.hits] 31) = W at *
      have e0 : W.cell? ⟨wr.heap.size, 0, none⟩ = some (.string x.route) := Blk.cell hxb 0
      have e1 : W.cell? ⟨wr.heap.size, 1, none⟩ = some (.string x.name) := Blk.cell hxb 1
      have e2 : W.cell? ⟨wr.heap.size, 2, none⟩ = some (.int .i64 x.place) := Blk.cell hxb 2
      have e3 : W.cell? ⟨wr.heap.size, 3, none⟩ = some (.int .i64 x.hits) := Blk.cell hxb 3
      have p2 : W.cell? ⟨p, 2, none⟩ = some (.map (some m)) := Blk.cell hpatW.pb 2
      have HNR := Lib.hid hroom
      clear hW c0 c1 c2 c3 hroom
      by_cases hkn2 : ∃ y ∈ M, y.route = x.route ∧ y.name = x.name
      · obtain ⟨y, hy, y1, y2⟩ := hkn2
        have hlw := fun q => (hpatW.known.drewN q).look y hy
        have hno : ¬ OkR room R := not_ok_key hag hL HKR.out hy (by rw [HXX.out]; exact y1) (by rw [HXX.out]; exact y2)
        rw [y1, y2] at hlw
        clear y1 y2
        go_quiet (fail)
        go_wp2_with fail
        go_ret2
        exact ⟨fun h => absurd h hno, fun _ => ⟨rfl, bdrewN hWB _⟩⟩
      · have hlw := hpatW.known.drew.look_no x.route x.name hwf.1 hwf.2.1 (fun y hy h => hkn2 ⟨y, hy, h⟩)
        by_cases hfine : rFine x
        · have hkeep : ∀ w', Below W.heap.size W w' → (w'.cell? ⟨p, 2, none⟩ = some (.map (some m)) ∧ w'.cell? ⟨wr.heap.size, 0, none⟩ = some (.string x.route) ∧ w'.cell? ⟨wr.heap.size, 1, none⟩ = some (.string x.name) ∧ w'.cell? ⟨wr.heap.size, 2, none⟩ = some (.int .i64 x.place) ∧ w'.cell? ⟨wr.heap.size, 3, none⟩ = some (.int .i64 x.hits) ∧ (Instr.lookup 68 (.map (some m)) (.agg #[.string x.route, .string x.name]) false).run Try.prog w' = .ok (.pointer none) w') := fun w' hb =>
            ⟨(hb.cell (p := ⟨p, 2, none⟩) (Blk.lt hpatW.pb)).trans p2, (hb.cell (p := ⟨wr.heap.size, 0, none⟩) hsz).trans e0, (hb.cell (p := ⟨wr.heap.size, 1, none⟩) hsz).trans e1, (hb.cell (p := ⟨wr.heap.size, 2, none⟩) hsz).trans e2, (hb.cell (p := ⟨wr.heap.size, 3, none⟩) hsz).trans e3, (hpatW.known.touch (Touch.of_below (S := noS) hb) id).look_no x.route x.name hwf.1 hwf.2.1 (fun y hy h => hkn2 ⟨y, hy, h⟩)⟩
          have HKEEP := Lib.hid hkeep
          have HDR : Below W.heap.size W W.drew := ⟨rfl, rfl, rfl, Nat.le_refl _, fun _ _ => rfl⟩
          clear hkeep hlw p2
          have HF := Lib.hid (fun W => fine_yes x W hfine)
          by_cases hroom : room < (n : Int)
          · have tr : decide (room < (n : Int)) = true := decide_eq_true hroom
            go_region_held3 (fun w' => w'.cell? ⟨p, 2, none⟩ = some (.map (some m)) ∧ w'.cell? ⟨wr.heap.size, 0, none⟩ = some (.string x.route) ∧ w'.cell? ⟨wr.heap.size, 1, none⟩ = some (.string x.name) ∧ w'.cell? ⟨wr.heap.size, 2, none⟩ = some (.int .i64 x.place) ∧ w'.cell? ⟨wr.heap.size, 3, none⟩ = some (.int .i64 x.hits) ∧ (Instr.lookup 68 (.map (some m)) (.agg #[.string x.route, .string x.name]) false).run Try.prog w' = .ok (.pointer none) w') (first | exact HKEEP.out _ HDR | exact HKEEP.out _ (undrew hb2)) ((go_at_call 29; refine (HF.out _).mono ?_; rintro e W2 ⟨rfl, hb2⟩))
            all_goals
              go_wp2_with fail
              go_ret2
              refine ⟨fun h => absurd h ?_, fun _ => ⟨rfl, hWB.trans ((undrew hb2).mono hWB.size)⟩⟩
              rintro ⟨h | h, -⟩
              · have := HN.out; omega
              · have := HKR.out; rw [h] at this; simp at this
          · have tr : decide (room < (n : Int)) = false := decide_eq_false hroom
            go_region_held3 (fun w' => w'.cell? ⟨p, 2, none⟩ = some (.map (some m)) ∧ w'.cell? ⟨wr.heap.size, 0, none⟩ = some (.string x.route) ∧ w'.cell? ⟨wr.heap.size, 1, none⟩ = some (.string x.name) ∧ w'.cell? ⟨wr.heap.size, 2, none⟩ = some (.int .i64 x.place) ∧ w'.cell? ⟨wr.heap.size, 3, none⟩ = some (.int .i64 x.hits) ∧ (Instr.lookup 68 (.map (some m)) (.agg #[.string x.route, .string x.name]) false).run Try.prog w' = .ok (.pointer none) w') (first | exact HKEEP.out _ HDR | exact HKEEP.out _ (undrew hb2)) ((go_at_call 29; refine (HF.out _).mono ?_; rintro e W2 ⟨rfl, hb2⟩))
            all_goals
              clear HKEEP
              have hb := undrew hb2
              have hpat2 := hpatW.touch (Touch.of_below (S := noS) hb) (fun _ _ => id)
              have q0 : W2.cell? ⟨wr.heap.size, 0, none⟩ = some (.string x.route) := (hb.cell (p := ⟨wr.heap.size, 0, none⟩) hsz).trans e0
              have q1 : W2.cell? ⟨wr.heap.size, 1, none⟩ = some (.string x.name) := (hb.cell (p := ⟨wr.heap.size, 1, none⟩) hsz).trans e1
              have q2 : W2.cell? ⟨wr.heap.size, 2, none⟩ = some (.int .i64 x.place) := (hb.cell (p := ⟨wr.heap.size, 2, none⟩) hsz).trans e2
              have q3 : W2.cell? ⟨wr.heap.size, 3, none⟩ = some (.int .i64 x.hits) := (hb.cell (p := ⟨wr.heap.size, 3, none⟩) hsz).trans e3
              have hbw2 : Below w.heap.size w W2 := hWB.trans (hb.mono hWB.size)
              have HC := Lib.hid (come_w w.heap.size p m v room (k : Int) M x.route x.name x.place x.hits W2 hpat2 (by omega) (by omega) hwf.1 hwf.2.1 (fun y hy h => hkn2 ⟨y, hy, h⟩) ⟨⟨hfine.1, hwf.2.2.2.1⟩, hfine.2⟩ hbw2.size)
              clear hb2 hb e0 e1 e2 e3
              go_wp2_with fail
              refine HC.out.mono ?_
              rintro e W5 ⟨v5, M5, b5, rfl, hb5, hp5, h5, ho5, t5⟩
              go_wp2_with fail
              go_roundw
              case rel =>
                refine ⟨k + 1, by omega, by go_num, Lib.hid ⟨v5, M5, L ++ [entOf b5 (k : Int) x.route x.name x.place x.hits], by exact_mod_cast h5, aged_add hag hp5 (fun y hy => (hpat.young y hy).2), ?_, ?_, ?_⟩⟩
                · rw [List.map_append, hL, List.take_succ_eq_append_getElem HKR.out]
                  have e := ra_get R k HKR.out
                  rw [List.getElem?_eq_getElem HKR.out] at e
                  rw [Option.some.inj e, HXX.out]; rfl
                · refine hbw2.trans (t5.below (fun c hc => ?_) hbw2.size)
                  rcases hc with e | e | e | e
                  · subst e; exact hpat.low.1
                  · subst e; exact hpat.low.2.1
                  · exact (hpat.row.lt c e).1
                  · obtain ⟨y, hy, rfl⟩ := List.mem_map.1 e
                    exact hpat.low.2.2 y hy
                · intro _; have := HN.out; omega
              case measure => simp [intOf]; omega
        · have HF := Lib.hid (fun W => fine_no x W hfine)
          have hno : ¬ OkR room R := fun h => hfine (by rw [← HXX.out]; exact h.2.1 _ (ra_mem HKR.out))
          first | go_region_with (go_at_call 29; refine (HF.out _).mono ?_; rintro e W2 ⟨rfl, hb2⟩) | fail
          all_goals
            go_wp2_with fail
            go_ret2
            exact ⟨fun h => absurd h hno, fun _ => ⟨rfl, hWB.trans ((undrew hb2).mono hWB.size)⟩⟩
    · obtain rfl : n = k := by omega
      have tk : decide ((n : Int) < (n : Int)) = false := by simp
      go_wp2_with fail
      go_ret2
      obtain ⟨v, M, L, hpat, hag, hL, hbel, hroom⟩ := hrel.out
      have hL' : L.map Ent.r = R := by rw [hL, HN.out, List.take_length]
      refine ⟨fun _ => ⟨p, m, v, M, L, rfl, ?_, hag, hL', hbel⟩, fun h => absurd (ok_end hag hL' hpat.fine hpat.known.keys (fun h => hroom (by have := HN.out; omega))) h⟩
      rw [← HN.out]; exact hpat
end Go.Proofs.Ytcgfkmjlgblkcaa.Pat
