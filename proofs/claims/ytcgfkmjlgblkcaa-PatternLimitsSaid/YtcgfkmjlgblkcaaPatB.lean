/- The walk of All. -/
import Derived.Test.YtcgfkmjlgblkcaaPatA
import Derived.Deep.Onto
namespace Go.Proofs.Ytcgfkmjlgblkcaa.Pat
set_option linter.unusedVariables false
set_option linter.unusedSimpArgs false
open Go.RowKit Go.Proofs.Ytcgfkmjlgblkcaa.Mem Go.Proofs.Ytcgfkmjlgblkcaa.Own

def AllPost (w : World) (M : List Ent) (e : Ending) (w' : World) : Prop :=
  ∃ (v' : Value) (S : List Ent), e = .returned v' ∧ S.Perm M ∧ S.Pairwise (fun a b => cfE a b < 0) ∧ RowR w' w.heap.size v' (S.map Ent.r) ∧ Below w.heap.size w w'
theorem ptrs_one (M : List Ent) : ∀ u ∈ ptrs M, u.oneCell' = true := by
  intro u hu
  obtain ⟨x, _, rfl⟩ := List.mem_map.1 hu
  rfl
set_option maxHeartbeats 4000000 in
set_option maxRecDepth 100000 in
theorem all_w (B p m : Nat) (v : Value) (room age : Int) (M : List Ent) (w : World) (h : Pat w B p m v room age M) (hM : M.length < 17592186044) :
    Calls Try.prog 10 #[.pointer (some ⟨p, 0, none⟩)] w (AllPost w M) := by
  have p3 : w.cell? ⟨p, 3, none⟩ = some v := Blk.cell h.pb 3
  have HC := Lib.hid (clone_w B M.length v (ptrs M) w h.row (by omega) (ptrs_one M))
  have HH := Lib.hid h
  clear h
  go_enter Try.func10, Try.ntmps10
  go_wp2_with fail
  refine HC.out.mono ?_; rintro e w1 ⟨v1, rfl, ho1, hb1⟩
  obtain ⟨q, cap, rfl⟩ := own_form ho1
  clear p3
  by_cases hn : M.length = 0
  · have hs := Lib.hid (fun W => AnyF.slices_SortFunc_none (P := Try.prog) (ρ := Try.sortL_ren) { Try.sortL with } q cap (.func (.func 24) #[] #[]) W)
    have hM0 : M = [] := List.eq_nil_of_length_eq_zero hn
    subst hM0
    simp only [List.length_nil] at *
    go_wp2_with fail
    refine (hs.out _).mono ?_; rintro e w2 ⟨rfl, rfl⟩
    go_wp2_with fail
    refine wp_loop_rounds 1 ?_
    rw [rounds_succ]
    go_wp2_with fail
    go_ret
    exact ⟨_, [], rfl, List.Perm.refl _, by simp, World.ownsRow_nil _ _ _ _, hb1⟩
  · obtain ⟨n, hMn⟩ : ∃ n, M.length = n + 1 := ⟨M.length - 1, by omega⟩
    obtain ⟨g, rfl, hbg, hgl, hcell⟩ := own_cells ho1 (by omega)
    have hp := HH.out
    have hfz := fun j => ho1.frozenAt j
    obtain ⟨cur, hcur⟩ := own_blk ho1
    have hE1 : ∀ j, j < M.length → EntAt w1 (at_ M j) j := fun j hj => Blk.below (hp.ents j hj) hb1 (Blk.lt (hp.ents j hj))
    have HS := Lib.hid (sort_w M n g cap w1 hMn (by omega) hp.ages hE1 (fun j hj => hcell j _ (ptrs_at M j hj)) hfz (fun j hj => blk_ne (hE1 j hj) hcur (by decide)))
    have HE1 := Lib.hid hE1
    have HMN := Lib.hid hMn
    have hne := fun j hj => blk_ne (hE1 j hj) hcur (by decide)
    have HNE := Lib.hid hne
    have hm : n < 17592186044 := by omega
    clear hp hE1 hfz hcell hne
    rw [hMn]
    clear hMn hn
    go_wp2_with fail
    refine HS.out.mono ?_; rintro e w2 ⟨rfl, S, hp2, hpw, ht2, hc2⟩
    have HP2 := Lib.hid hp2
    have HPW := Lib.hid hpw
    have HC2 := Lib.hid hc2
    clear hp2 hpw hc2
    go_wp2_with fail
    obtain ⟨i0, hi, hz0, hz1, hz2⟩ := info_parts l_info
    go_loopw [4, 17] (fun v i wr => ∃ k : Nat, k ≤ n + 1 ∧ i = .int .i64 k ∧ Below w2.heap.size w2 wr ∧ RowR wr w2.heap.size v ((S.take k).map Ent.r)) (fun _ i _ => n + 1 - (intOf i).toNat)
    case atStart => exact ⟨0, Nat.zero_le _, rfl, Below.refl _ _, World.ownsRow_nil _ _ _ _⟩
    case round =>
      obtain ⟨k, hk, rfl, hbel, hrow⟩ := hrel
      have hSl : S.length = n + 1 := by rw [HP2.out.length_eq, HMN.out]
      by_cases hkn : k < n + 1
      · have cg : wr.cell? ⟨g, k, none⟩ = some (.pointer (some ⟨(at_ S k).b, 0, none⟩)) := by
          have c := HC2.out k (by rw [HMN.out]; exact hkn)
          exact (hbel.cell (p := ⟨g, k, none⟩) (World.block_lt_of_cell? w2 _ c)).trans c
        have hmem : at_ S k ∈ M := HP2.out.mem_iff.1 (List.mem_of_getElem? (at_get S k (by rw [hSl]; exact hkn)))
        obtain ⟨j, hj, hjx⟩ := mem_at hmem
        have hent : EntAt wr (at_ S k) j := by
          have e1 := HE1.out j hj
          have e2 := HNE.out j hj
          rw [hjx] at e1 e2
          have e3 := ht2.blk e1 e2
          exact Blk.below e3 hbel (Blk.lt e3)
        obtain ⟨x, hx⟩ : ∃ x, at_ S k = x := ⟨_, rfl⟩
        rw [hx] at cg hent
        have HX := Lib.hid hx
        have c0 : wr.cell? ⟨x.b, 0, none⟩ = some (.string x.route) := Blk.cell hent 0
        have c1 : wr.cell? ⟨x.b, 1, none⟩ = some (.string x.name) := Blk.cell hent 1
        have c2 : wr.cell? ⟨x.b, 2, none⟩ = some (.int .i64 x.place) := Blk.cell hent 2
        have c3 : wr.cell? ⟨x.b, 3, none⟩ = some (.int .i64 x.hits) := Blk.cell hent 3
        have tk : decide ((k : Int) < (n : Int) + 1) = true := by simp; omega
        have h0 : (0 : Int) ≤ (k : Int) := by omega
        have h1 : (k : Int) < (n : Int) + 1 := by omega
        have hlen : ((S.take k).map Ent.r).length = k := by simp; omega
        have hrow' : wr.ownsRow w2.heap.size 31 4 u4 k (flat ((S.take k).map Ent.r)) := by have := hrow; unfold RowR at this; rwa [hlen] at this
        have hwz := hbel.size
        have HSL := Lib.hid hSl
        clear hx hlen hSl hrow hmem hjx hent
        go_wp2_with (at_builtin; refine App.wpList_append_where _ rfl _ _ 26 rfl w2.heap.size 31 i0 (.agg #[.string .empty, .string .empty, .int .i64 0, .int .i64 0]) 4 48 Try.underlying26 hi hz0 hz1 hz2 rfl (by decide) _ _ _ rfl (hrow'.alloc _) ⟨wr.heap.size, 0, none⟩ 1 1 x.r.cs rfl rfl ?c1 (cs_one x.r) ?c3 ?c4 ?c5 ?_)
        case c1 => exact cs_new wr x.r
        case c3 => unfold maxLen; omega
        case c4 => omega
        case c5 => simp; omega
        intro v' w4 hown' hgrow hwh
        go_wp2_with fail
        go_roundw
        case rel =>
          refine ⟨k + 1, by omega, by go_num, ?_, ?_⟩
          · exact ownBlock_new hgrow (hbel.alloc hwz _) (fun b hb => (hrow'.lt b hb).1)
          · have hkS : k < S.length := by rw [HSL.out]; exact hkn
            unfold RowR
            rw [List.take_succ_eq_append_getElem hkS, List.map_append, List.map_singleton, flat_snoc, List.length_append, List.length_map, List.length_take, List.length_singleton]
            have e := at_get S k hkS
            rw [List.getElem?_eq_getElem hkS] at e
            rw [Option.some.inj e, HX.out, Nat.min_eq_left (Nat.le_of_lt hkS), List.map_take]
            exact hown'
        case measure => simp [intOf]; omega
      · obtain rfl : k = n + 1 := by omega
        have tk : decide (((n + 1 : Nat) : Int) < (n : Int) + 1) = false := by simp
        have e : S.take (n + 1) = S := by rw [← hSl, List.take_length]
        rw [e] at hrow
        clear e hSl
        go_wp2_with fail
        go_ret
        have hz2 := ht2.size
        have hz1' := hb1.size
        have hb12 : Below w.heap.size w w2 := hb1.trans (ht2.below (fun b hb => by subst hb; exact hbg) hz1')
        refine ⟨_, S, rfl, HP2.out, HPW.out, ?_, hb12.trans (hbel.mono (by omega))⟩
        exact World.ownsRow.mono hrow (by omega)
end Go.Proofs.Ytcgfkmjlgblkcaa.Pat
