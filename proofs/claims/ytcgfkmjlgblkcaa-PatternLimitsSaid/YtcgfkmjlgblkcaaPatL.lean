/- A pattern's memory; the walks of come, Guess, Size. -/
import Derived.Test.YtcgfkmjlgblkcaaPatM
import Derived.Deep.RegionWith
import Derived.Deep.RegionHeld3
namespace Go.Proofs.Ytcgfkmjlgblkcaa.Pat
set_option linter.unusedVariables false
set_option linter.unusedSimpArgs false
open Go.RowKit Go.Proofs.Ytcgfkmjlgblkcaa.Mem Go.Proofs.Ytcgfkmjlgblkcaa.Own

structure Fine (x : Ent) : Prop where
  place : 0 ≤ x.place ∧ x.place ≤ 9223372036854775807
  hits : 0 ≤ x.hits ∧ x.hits ≤ 4611686018427387904
structure Pat (w : World) (B p m : Nat) (v : Value) (room age : Int) (M : List Ent) : Prop extends St w B p m v room age M where
  known : Known w m age.toNat M
  young : ∀ x ∈ M, 0 ≤ x.age ∧ x.age < age
  ages : M.Pairwise fun x y => x.age ≠ y.age
  fine : ∀ x ∈ M, Fine x
  low : B ≤ p ∧ B ≤ m ∧ ∀ x ∈ M, B ≤ x.b
  age0 : 0 ≤ age
def FootP (p m : Nat) (v : Value) (M : List Ent) (b : Nat) : Prop := b = p ∨ b = m ∨ v.ownBlock = some b ∨ b ∈ M.map Ent.b
theorem map_ne {w : World} {m n g : Nat} {M : List Ent} {t : TypeId} {cs : Array Value} (h : Known w m n M) (k : Blk w g t cs) : g ≠ m := by
  obtain ⟨D, ⟨es, clock, hb, -⟩, -⟩ := h.own
  rintro rfl
  unfold Blk at k
  rw [k] at hb; cases hb
theorem St.touch {w w' : World} {B p m : Nat} {v : Value} {room age : Int} {M : List Ent} {S : Nat → Prop} (h : St w B p m v room age M) (ht : Touch S w w') (hs : ∀ b, FootV p v M b → ¬ S b) : St w' B p m v room age M :=
  ⟨ht.blk h.pb (hs p (.inl rfl)), h.nodup, ht.own h.row (fun g hg => hs g (.inr (.inl hg))), fun j hj => ht.blk (h.ents j hj) (hs _ (.inr (.inr (at_mem hj)))), h.heap⟩
theorem Pat.touch {w w' : World} {B p m : Nat} {v : Value} {room age : Int} {M : List Ent} {S : Nat → Prop} (h : Pat w B p m v room age M) (ht : Touch S w w') (hs : ∀ b, FootP p m v M b → ¬ S b) : Pat w' B p m v room age M :=
  ⟨h.toSt.touch ht (fun b hb => hs b (by rcases hb with h | h | h; exact .inl h; exact .inr (.inr (.inl h)); exact .inr (.inr (.inr h)))), h.known.touch ht (hs m (.inr (.inl rfl))), h.young, h.ages, h.fine, h.low, h.age0⟩
theorem Pat.mp {w : World} {B p m : Nat} {v : Value} {room age : Int} {M : List Ent} (h : Pat w B p m v room age M) : p ≠ m ∧ (∀ j, j < M.length → (at_ M j).b ≠ m) ∧ v.ownBlock ≠ some m := by
  refine ⟨map_ne h.known h.pb, fun j hj => map_ne h.known (h.ents j hj), ?_⟩
  rcases h.row.2 with ⟨rfl, -⟩ | ⟨g, cap, cur, rfl, -, hg, -⟩
  · simp [Value.ownBlock]
  · intro e
    simp [Value.ownBlock] at e
    exact map_ne h.known hg e
theorem undrew {B : Nat} {A W : World} (h : Below B A.drew W) : Below B A W := ⟨h.os, h.tape, h.output, h.size, h.block⟩
def noS (_ : Nat) : Prop := False
theorem mem_at {M : List Ent} {x : Ent} (h : x ∈ M) : ∃ j, j < M.length ∧ at_ M j = x := by
  obtain ⟨j, hj, e⟩ := List.getElem_of_mem h
  refine ⟨j, hj, ?_⟩
  have := at_get M j hj
  rw [List.getElem?_eq_getElem hj] at this
  rw [← e]; exact (Option.some.inj this).symm
/-- An entry that comes. -/
def entOf (b : Nat) (age : Int) (r n : ByteArray) (pl hi : Int) : Ent := ⟨b, r, n, pl, hi, age⟩
def ComePost (w : World) (B p m : Nat) (v : Value) (room age : Int) (M : List Ent) (r n : ByteArray) (pl hi : Int) (e : Ending) (w' : World) : Prop :=
  ∃ (v' : Value) (M' : List Ent) (b : Nat), e = .returned (.tuple #[]) ∧ w.heap.size ≤ b ∧ M'.Perm (M ++ [entOf b age r n pl hi]) ∧ Pat w' B p m v' room (age + 1) M' ∧
    (∀ g, v'.ownBlock = some g → v.ownBlock = some g ∨ w.heap.size ≤ g) ∧ Touch (FootP p m v M) w w'
set_option maxHeartbeats 4000000 in
set_option maxRecDepth 100000 in
theorem come_w (B p m : Nat) (v : Value) (room age : Int) (M : List Ent) (r n : ByteArray) (pl hi : Int) (w : World) (h : Pat w B p m v room age M) (hM : M.length < 17592186044400) (ha : age < 4611686018427387904)
    (hr : r.size ≤ maxLen) (hn : n.size ≤ maxLen) (hx : ∀ y ∈ M, ¬ (y.route = r ∧ y.name = n)) (hf : Fine (entOf 0 0 r n pl hi)) (hB : B ≤ w.heap.size) :
    Calls Try.prog 30 #[.pointer (some ⟨p, 0, none⟩), .agg #[.string r, .string n, .int .i64 pl, .int .i64 hi]] w (ComePost w B p m v room age M r n pl hi) := by
  have p1 : w.cell? ⟨p, 1, none⟩ = some (.int .i64 age) := Blk.cell h.pb 1
  have hlt : p < w.heap.size := Blk.lt h.pb
  have g0 := h.age0
  have HX := Lib.hid hx; clear hx
  have HR := Lib.hid hr; clear hr
  have HNN := Lib.hid hn; clear hn
  go_enter Try.func30, Try.ntmps30
  go_wp2_with fail
  go_region
  have t1 : Touch noS w ((w.alloc (Obj.cells #[.string r, .string n, .int .i64 pl, .int .i64 hi] 31)).alloc (Obj.cells #[.string r, .string n, .int .i64 pl, .int .i64 hi, .int .i64 age, .int .i64 0] 74)).drew := (((Touch.refl _ w).alloc _).alloc _).drew
  have x1 : EntAt ((w.alloc (Obj.cells #[.string r, .string n, .int .i64 pl, .int .i64 hi] 31)).alloc (Obj.cells #[.string r, .string n, .int .i64 pl, .int .i64 hi, .int .i64 age, .int .i64 0] 74)).drew (entOf (w.heap.size + 1) age r n pl hi) 0 := by
    have := Blk.new (w.alloc (Obj.cells #[.string r, .string n, .int .i64 pl, .int .i64 hi] 31)) 74 #[.string r, .string n, .int .i64 pl, .int .i64 hi, .int .i64 age, .int .i64 0]
    rw [show (w.alloc (Obj.cells #[.string r, .string n, .int .i64 pl, .int .i64 hi] 31)).heap.size = w.heap.size + 1 by simp] at this
    exact this
  generalize ((w.alloc (Obj.cells #[.string r, .string n, .int .i64 pl, .int .i64 hi] 31)).alloc (Obj.cells #[.string r, .string n, .int .i64 pl, .int .i64 hi, .int .i64 age, .int .i64 0] 74)).drew = W1 at *
  have h1 := h.touch t1 (fun _ _ => id)
  clear p1
  have p1 : W1.cell? ⟨p, 1, none⟩ = some (.int .i64 age) := Blk.cell h1.pb 1
  have f1 := Blk.frozen h1.pb 1
  obtain ⟨b, hb⟩ : ∃ b, b = w.heap.size + 1 := ⟨_, rfl⟩
  rw [← hb] at x1
  have hxp : ∀ j, j < M.length → (at_ M j).b ≠ p := fun j hj e => blk_ne h.pb (h.ents j hj) (by decide) e.symm
  have hpb : b ≠ p := by omega
  have s2 : St (W1.setCell ⟨p, 1, none⟩ (.int .i64 (age + 1))) B p m v room (age + 1) M := by
    refine ⟨Blk.set_ h1.pb 1 _, h1.nodup, ?_, fun j hj => (h1.ents j hj).far (a := ⟨p, 1, none⟩) (hxp j hj) _, h1.heap⟩
    exact h1.row.kept (row := some p) ⟨rfl, rfl, rfl, by simp, fun b _ hn => Below.heap_setCell _ _ _ _ (by intro e; exact hn (by rw [e]))⟩ (.inr (fun e => own_ne h1.row h1.pb (by decide) e.symm))
  have k2 : Known (W1.setCell ⟨p, 1, none⟩ (.int .i64 (age + 1))) m age.toNat M := h1.known.touch (S := fun b => b = p) (Touch.setCell (S := fun b => b = p) (Touch.refl _ W1) (a := ⟨p, 1, none⟩) (.inl rfl) _) (fun e => h1.mp.1 e.symm)
  have x2 : EntAt (W1.setCell ⟨p, 1, none⟩ (.int .i64 (age + 1))) (entOf b age r n pl hi) 0 := x1.far (a := ⟨p, 1, none⟩) hpb _
  have t2 : Touch (FootP p m v M) w (W1.setCell ⟨p, 1, none⟩ (.int .i64 (age + 1))) := (t1.mono (fun _ h => h.elim)).setCell (a := ⟨p, 1, none⟩) (.inl (.inl rfl)) _
  have hz : W1.heap.size = (W1.setCell ⟨p, 1, none⟩ (.int .i64 (age + 1))).heap.size := by simp
  have HBB := Lib.hid hb
  have HZ := Lib.hid hz
  clear hz
  generalize hW2 : W1.setCell ⟨p, 1, none⟩ (.int .i64 (age + 1)) = W2 at s2 k2 x2 t2
  have HW := Lib.hid hW2
  rw [← hb]
  go_wp2_with fail

  clear p1 f1 hW2
  have p2 : W2.cell? ⟨p, 2, none⟩ = some (.map (some m)) := Blk.cell s2.pb 2
  have hpl : p < W2.heap.size := Blk.lt s2.pb
  clear hb
  have hag : age.toNat < maxLen := by unfold maxLen; omega
  have HAG := Lib.hid hag
  clear hag ha
  have HKY : Calls Try.prog 33 #[.pointer (some ⟨b, 0, none⟩)] W2.drew (fun e w' => e = .returned (.agg #[.string r, .string n]) ∧ Below W2.drew.heap.size W2.drew w') := key_w (entOf b age r n pl hi) 0 W2.drew x2
  have HKY := Lib.hid HKY
  go_region_with (go_at_call 33; refine HKY.out.mono ?_; rintro e W3 ⟨rfl, hb3'⟩; have hb3 := undrew hb3'; clear hb3'; have p3 : W3.cell? ⟨p, 2, none⟩ = some (.map (some m)) := (hb3.cell (p := ⟨p, 2, none⟩) hpl).trans p2; obtain ⟨W4, hrun, k4, g4⟩ := (k2.touch (Touch.of_below (S := noS) hb3) id).put HAG.out (entOf b age r n pl hi) HR.out HNN.out HX.out; have hrun' : (Instr.mapUpdate 68 (.map (some m)) (.agg #[.string r, .string n]) (.pointer (some ⟨b, 0, none⟩))).run Try.prog W3 = .ok () W4 := hrun)
  all_goals
    clear hrun hrun' p2 p3
    have t4 : Touch (fun b => b = m) W2 W4 := (Touch.of_below hb3).grown g4 (fun b hb => .inl (by injection hb with hb; exact hb.symm))
    have hmp := h.mp
    have s4 : St W4 B p m v room (age + 1) M := s2.touch t4 (fun c hc e => by
      subst e
      rcases hc with e | e | e
      · exact hmp.1 e.symm
      · exact hmp.2.2 e
      · obtain ⟨y, hy, e⟩ := List.mem_map.1 e
        obtain ⟨j, hj, rfl⟩ := mem_at hy
        exact hmp.2.1 j hj e)
    have x4 : EntAt W4 (entOf b age r n pl hi) 0 := t4.blk x2 (fun e => map_ne k2 x2 e)
    have hnew : (entOf b age r n pl hi).b ∉ M.map Ent.b := by
      intro hm
      obtain ⟨y, hy, e⟩ := List.mem_map.1 hm
      obtain ⟨j, hj, rfl⟩ := mem_at hy
      have h2 : (at_ M j).b < w.heap.size := Blk.lt (h.ents j hj)
      have h3 : (entOf b age r n pl hi).b = b := rfl
      have := HBB.out
      omega
    have hsz : w.heap.size ≤ W4.heap.size := Nat.le_trans t2.size t4.size
    have HP := Lib.hid (push_w B p m v room (age + 1) M (entOf b age r n pl hi) 0 W4 hM s4 x4 hnew (by omega))
    have hbp : (entOf b age r n pl hi).b = b := rfl
    clear hbp
    go_wp2_with fail
    refine HP.out.mono ?_; rintro e W5 ⟨v5, M5, rfl, hp5, s5, ho5, t5⟩
    go_wp2_with fail
    go_end0
    have hmx : (entOf b age r n pl hi).b ≠ m := map_ne k2 x2
    have tt := (t2.trans t4 (fun c hc => .inl (.inr (.inl hc)))).trans t5 (fun c hc => by
      rcases hc with e | e | e
      · exact .inl (.inl e)
      · exact .inl (.inr (.inr (.inl e)))
      · rw [List.map_append] at e
        rcases List.mem_append.1 e with e | e
        · exact .inl (.inr (.inr (.inr e)))
        · right
          have e' : c = b := by simpa [entOf] using e
          have := HBB.out; omega)
    refine ⟨v5, M5, b, rfl, by have := HBB.out; omega, hp5, ⟨s5, ?_, fun x hx => ?_, ?_, fun x hx => ?_, ⟨h.low.1, h.low.2.1, fun x hx => ?_⟩, by omega⟩, fun g hg => ?_, tt⟩
    · have e1 : (age + 1).toNat = age.toNat + 1 := by omega
      rw [e1]
      refine (k4.perm hp5).touch t5 ?_
      rintro (e | e | e)
      · exact hmp.1 e.symm
      · exact hmp.2.2 e
      · rw [List.map_append] at e
        rcases List.mem_append.1 e with e | e
        · obtain ⟨y, hy, e⟩ := List.mem_map.1 e
          obtain ⟨j, hj, rfl⟩ := mem_at hy
          exact hmp.2.1 j hj e
        · simp at e; exact hmx e.symm
    · rcases List.mem_append.1 (hp5.mem_iff.1 hx) with hx | hx
      · have := h.young x hx; omega
      · simp at hx; subst hx; exact ⟨g0, by show age < age + 1; omega⟩
    · refine (hp5.symm.pairwise_iff (fun {a b} h => Ne.symm h)).1 ?_
      rw [List.pairwise_append]
      refine ⟨h.ages, by simp, fun a ha c hc => ?_⟩
      simp at hc; subst hc
      have := (h.young a ha).2
      show a.age ≠ age
      omega
    · rcases List.mem_append.1 (hp5.mem_iff.1 hx) with hx | hx
      · exact h.fine x hx
      · simp at hx; subst hx; exact ⟨hf.place, hf.hits⟩
    · rcases List.mem_append.1 (hp5.mem_iff.1 hx) with hx | hx
      · exact h.low.2.2 x hx
      · simp at hx; subst hx; show B ≤ b; have := HBB.out; omega
    · rcases ho5 g hg with e | e
      · exact .inl e
      · exact .inr (by omega)
end Go.Proofs.Ytcgfkmjlgblkcaa.Pat
