/- The walk of Learn at a key that isn't known. -/
import Derived.Test.YtcgfkmjlgblkcaaPatG
namespace Go.Proofs.Ytcgfkmjlgblkcaa.Pat
set_option linter.unusedVariables false
set_option linter.unusedSimpArgs false
open Go.RowKit Go.Proofs.Ytcgfkmjlgblkcaa.Mem Go.Proofs.Ytcgfkmjlgblkcaa.Own

theorem Known.drewN {w : World} {m n : Nat} {M : List Ent} (h : Known w m n M) (q : Nat) : Known (w.drewN q) m n M := ⟨h.small, h.keys, h.own⟩
theorem Known.drew {w : World} {m n : Nat} {M : List Ent} (h : Known w m n M) : Known w.drew m n M := ⟨h.small, h.keys, h.own⟩
def NewPost (w : World) (B p m : Nat) (v : Value) (room age : Int) (M M1 : List Ent) (r n : ByteArray) (pl : Int) (e : Ending) (w' : World) : Prop :=
  ∃ (v' : Value) (M' : List Ent) (b : Nat), e = .returned (.int .i64 0) ∧ w.heap.size ≤ b ∧ M'.Perm (M1 ++ [entOf b age r n pl 1]) ∧ Pat w' B p m v' room (age + 1) M' ∧
    (∀ g, v'.ownBlock = some g → v.ownBlock = some g ∨ w.heap.size ≤ g) ∧ Touch (FootP p m v M) w w'
section
variable (B p m : Nat) (v : Value) (room age : Int) (M : List Ent) (w : World) (r n : ByteArray) (pl : Int)
set_option maxHeartbeats 1000000 in
set_option maxRecDepth 100000 in
theorem learn_none (h : Pat w B p m v room age M) (hr : r.size ≤ maxLen) (hn : n.size ≤ maxLen) (h0 : 0 ≤ pl) (hx : ∀ x ∈ M, ¬ (x.route = r ∧ x.name = n)) (hroom : room ≤ 0) :
    Calls Try.prog 13 #[.pointer (some ⟨p, 0, none⟩), .string r, .string n, .int .i64 pl] w fun e w' => e = .returned (.int .i64 0) ∧ w' = w := by
  have p2 : w.cell? ⟨p, 2, none⟩ = some (.map (some m)) := Blk.cell h.pb 2
  have p0 : w.cell? ⟨p, 0, none⟩ = some (.int .i64 room) := Blk.cell h.pb 0
  have hl := h.known.look_no r n hr hn hx
  have t0 : decide (pl < 0) = false := decide_eq_false (by omega)
  have t1 : decide (0 < room) = false := decide_eq_false (by omega)
  clear h hx hr hn
  go_enter Try.func13, Try.ntmps13
  go_wp2_with fail
  go_ret
  exact ⟨rfl, rfl⟩
set_option maxHeartbeats 2000000 in
set_option maxRecDepth 100000 in
theorem learn_new (h : Pat w B p m v room age M) (hM : M.length < 17592186044400) (ha : age < 4611686018427387904) (hr : r.size ≤ maxLen) (hn : n.size ≤ maxLen) (h0 : 0 ≤ pl) (h1 : pl ≤ 9223372036854775807) (hx : ∀ x ∈ M, ¬ (x.route = r ∧ x.name = n)) (hroom : (M.length : Int) < room) (hB : B ≤ w.heap.size) :
    Calls Try.prog 13 #[.pointer (some ⟨p, 0, none⟩), .string r, .string n, .int .i64 pl] w (NewPost w B p m v room age M M r n pl) := by
  have p2 : w.cell? ⟨p, 2, none⟩ = some (.map (some m)) := Blk.cell h.pb 2
  have p0 : w.cell? ⟨p, 0, none⟩ = some (.int .i64 room) := Blk.cell h.pb 0
  have hl := h.known.look_no r n hr hn hx
  have t0 : decide (pl < 0) = false := decide_eq_false (by omega)
  have t1 : decide (0 < room) = true := decide_eq_true (by omega)
  have t2 : ((M.length : Int) == room) = false := by simp; omega
  have hlw := fun q => (h.known.drewN q).len 3
  have HC := Lib.hid (fun W (hp : Pat W B p m v room age M) hB => come_w B p m v room age M r n pl 1 W hp hM ha hr hn hx ⟨⟨h0, h1⟩, by show (0 : Int) ≤ 1 ∧ (1 : Int) ≤ _; omega⟩ hB)
  have HP := Lib.hid h
  clear h hx hr hn ha
  go_enter Try.func13, Try.ntmps13
  go_wp2_with fail
  go_quiet (fail)
  go_wp2_with fail
  refine (HC.out _ (HP.out.touch ((Touch.refl noS w).drewN nq) (fun _ _ => id)) hB).mono ?_
  rintro e w5 ⟨v5, M5, b, rfl, hb, hp5, h5, ho5, t5⟩
  go_wp2_with fail
  go_ret
  exact ⟨v5, M5, b, rfl, hb, hp5, h5, ho5, ⟨t5.os, t5.tape, t5.output, t5.size, t5.block⟩⟩
set_option maxHeartbeats 4000000 in
set_option maxRecDepth 100000 in
theorem learn_full (h : Pat w B p m v room age M) (hM : M.length < 17592186044400) (ha : age < 4611686018427387904) (hr : r.size ≤ maxLen) (hn : n.size ≤ maxLen) (h0 : 0 ≤ pl) (h1 : pl ≤ 9223372036854775807) (hx : ∀ x ∈ M, ¬ (x.route = r ∧ x.name = n)) (hroom : (M.length : Int) = room) (h00 : 0 < M.length) (hB : B ≤ w.heap.size) :
    Calls Try.prog 13 #[.pointer (some ⟨p, 0, none⟩), .string r, .string n, .int .i64 pl] w (fun e w' => ∃ M1, (at_ M 0 :: M1).Perm M ∧ NewPost w B p m v room age M M1 r n pl e w') := by
  have p2 : w.cell? ⟨p, 2, none⟩ = some (.map (some m)) := Blk.cell h.pb 2
  have p0 : w.cell? ⟨p, 0, none⟩ = some (.int .i64 room) := Blk.cell h.pb 0
  have hl := h.known.look_no r n hr hn hx
  have t0 : decide (pl < 0) = false := decide_eq_false (by omega)
  have t1 : decide (0 < room) = true := decide_eq_true (by omega)
  have t2 : ((M.length : Int) == room) = true := by simp; omega
  have hlw := fun q => (h.known.drewN q).len 3
  have hpw : p < w.heap.size := Blk.lt h.pb
  have HC := Lib.hid (fun W v M (hp : Pat W B p m v room age M) (hM : M.length < 17592186044400) hx hB => come_w B p m v room age M r n pl 1 W hp hM ha hr hn hx ⟨⟨h0, h1⟩, by show (0 : Int) ≤ 1 ∧ (1 : Int) ≤ _; omega⟩ hB)
  have HPOP := Lib.hid (fun W (hs : St W B p m v room age M) => pop_w B p m v room age M W hM hs h00)
  have HX := Lib.hid hx
  have hmp := h.mp
  have h00b : (at_ M 0).b ∈ M.map Ent.b := at_mem h00
  have HM0 := Lib.hid h00b
  have HP := Lib.hid h
  have HMP := Lib.hid hmp
  generalize hX : at_ M 0 = X at *
  have HXX := Lib.hid hX
  clear hX
  clear h hx hr hn ha hmp hroom h00b
  go_enter Try.func13, Try.ntmps13
  go_wp2_with fail
  go_quiet (fail)
  go_wp2_with fail
  clear hlw hl p0
  have hs1 : St (w.drewN nq) B p m v room age M := HP.out.toSt.touch ((Touch.refl noS w).drewN nq) (fun _ _ => id)
  have k1 : Known (w.drewN nq) m age.toNat M := HP.out.known.drewN nq
  have tt1 : Touch (FootP p m v M) w (w.drewN nq) := (Touch.refl _ w).drewN nq
  have p2' : (w.drewN nq).cell? ⟨p, 2, none⟩ = some (.map (some m)) := p2
  have hpw' : p < (w.drewN nq).heap.size := hpw
  clear p2 hpw
  generalize w.drewN nq = W1 at *
  go_region_with (first
    | (go_at_call 32; refine (HPOP.out W1.drew ⟨hs1.pb, hs1.nodup, hs1.row, hs1.ents, hs1.heap⟩).mono ?_; rintro e W2 ⟨v2, M2, k2, rfl, hp2, s2, x2, ho2, tp⟩; have tp2 : Touch (FootV p v M) W1 W2 := ⟨tp.os, tp.tape, tp.output, tp.size, tp.block⟩; have q2 : W2.cell? ⟨p, 2, none⟩ = some (.map (some m)) := Blk.cell s2.pb 2; have k3 : Known W2 m age.toNat M := k1.touch tp2 (fun hc => by
        rcases hc with e | e | e
        · exact HMP.out.1 e.symm
        · exact HMP.out.2.2 e
        · obtain ⟨y, hy, e⟩ := List.mem_map.1 e
          obtain ⟨j, hj, rfl⟩ := mem_at hy
          exact HMP.out.2.1 j hj e); rw [HXX.out] at x2 hp2 ⊢; clear tp)
    | (go_at_call 33; refine (key_w X k2 W2 x2).mono ?_; rintro e W3 ⟨rfl, hb3⟩; have q3 : W3.cell? ⟨p, 2, none⟩ = some (.map (some m)) := (hb3.cell (p := ⟨p, 2, none⟩) (Blk.lt s2.pb)).trans q2; obtain ⟨W4, hrun, k4, g4⟩ := ((k3.perm hp2).touch (Touch.of_below (S := noS) hb3) id).del 0))
  all_goals
    clear hrun q3 q2 p2'
    have hsub : ∀ x, x ∈ M2 → x ∈ M := fun x hx => hp2.mem_iff.1 (List.mem_cons_of_mem _ hx)
    have hsubb : ∀ b, b ∈ M2.map Ent.b → b ∈ M.map Ent.b := fun b hb => by
      obtain ⟨y, hy, rfl⟩ := List.mem_map.1 hb
      exact List.mem_map_of_mem (hsub y hy)
    have t24 : Touch (fun b => b = m) W2 W4 := (Touch.of_below hb3).grown g4 (fun b hb => .inl (by injection hb with hb; exact hb.symm))
    have s4 : St W4 B p m v2 room age M2 := s2.touch t24 (fun c hc e => by
      subst e
      rcases hc with e | e | e
      · exact HMP.out.1 e.symm
      · rw [ho2] at e; exact HMP.out.2.2 e
      · obtain ⟨y, hy, e⟩ := List.mem_map.1 (hsubb _ e)
        obtain ⟨j, hj, rfl⟩ := mem_at hy
        exact HMP.out.2.1 j hj e)
    have t4 : Touch (FootP p m v M) w W4 := (tt1.trans tp2 (fun c hc => .inl (by rcases hc with e | e | e; exact .inl e; exact .inr (.inr (.inl e)); exact .inr (.inr (.inr e))))).trans t24 (fun c hc => .inl (.inr (.inl hc)))
    have hM2 : M2.length < M.length := by have := hp2.length_eq; simp at this; omega
    have hp := HP.out
    have pat4 : Pat W4 B p m v2 room age M2 := by
      refine ⟨s4, k4, fun x hx => hp.young x (hsub x hx), ?_, fun x hx => hp.fine x (hsub x hx), ⟨hp.low.1, hp.low.2.1, fun x hx => hp.low.2.2 x (hsub x hx)⟩, hp.age0⟩
      exact (List.pairwise_cons.1 ((hp2.symm.pairwise_iff (fun {a b} h => Ne.symm h)).1 hp.ages)).2
    have hsz : w.heap.size ≤ W4.heap.size := t4.size
    have HPAT := Lib.hid (HC.out W4 v2 M2 pat4 (by omega) (fun x hx => HX.out x (hsub x hx)) (by omega))
    clear hp pat4
    go_wp2_with fail
    refine HPAT.out.mono ?_
    rintro e w5 ⟨v5, M5, b, rfl, hb, hp5, h5, ho5, t5⟩
    go_wp2_with fail
    go_ret
    refine ⟨M2, hp2, v5, M5, b, rfl, by omega, hp5, h5, fun g hg => ?_, t4.trans t5 (fun c hc => .inl ?_)⟩
    · rcases ho5 g hg with e | e
      · rw [ho2] at e; exact .inl e
      · exact .inr (by omega)
    · rcases hc with e | e | e | e
      · exact .inl e
      · exact .inr (.inl e)
      · rw [ho2] at e; exact .inr (.inr (.inl e))
      · exact .inr (.inr (.inr (hsubb _ e)))
end
end Go.Proofs.Ytcgfkmjlgblkcaa.Pat
