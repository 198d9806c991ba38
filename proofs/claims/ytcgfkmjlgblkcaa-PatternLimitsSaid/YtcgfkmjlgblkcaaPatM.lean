/- A pattern's map: keys of two strings, entries' blocks. -/
import Derived.Test.YtcgfkmjlgblkcaaPatP
import Derived.Maps.OwnSet
import Derived.DeepKeys4
import Derived.KernelRfl
namespace Go.Proofs.Ytcgfkmjlgblkcaa.Pat
set_option linter.unusedVariables false
set_option linter.unusedSimpArgs false
open Go.RowKit Go.Proofs.Ytcgfkmjlgblkcaa.Mem Go.Proofs.Ytcgfkmjlgblkcaa.Own

theorem laidOut' : laidOutB Try.prog = true := by kernel_rfl
theorem keyLaw : WideMaps.KeyLaw Try.prog 77 :=
  deep_law_laid laidOut' (m := 3) (by omega) (of_decide_eq_true (by kernel_rfl)) (by kernel_rfl) (by kernel_rfl)
theorem keyed : Maps.Keyed Try.prog 77 := Maps.Keyed.of_law keyLaw
theorem types_ne : Try.prog.types.size ≠ 0 := of_decide_eq_true (by kernel_rfl)
theorem key_type : Try.prog.keyType 77 = true := by kernel_rfl
theorem key_cells : Try.prog.cellsOf 77 = 2 := by kernel_rfl
theorem str_cells : Try.prog.cellsOf 9 = 1 := by kernel_rfl
theorem key_lits (d : Nat) {r n : ByteArray} (hr : r.size ≤ maxLen) (hn : n.size ≤ maxLen) : Try.prog.keyLits (d + 2) 77 [.string r, .string n] = some [.string r.data.toList, .string n.data.toList] := by
  simp [Program.keyLits, Try.underlying77, key_cells, str_cells, Try.underlying9, hr, hn]
theorem key_formed (r n : ByteArray) : (Value.agg #[.string r, .string n]).formed Try.prog 77 = true := by
  simp [Value.formed, Try.underlying77, key_cells]
theorem keyOf_struct (r n : ByteArray) : keyOf Try.prog 77 (.agg #[.string r, .string n]) = (Try.prog.keyLits (Try.prog.types.size + 1) 77 [.string r, .string n]).map fun ls => .string (keyBytes ls) := by
  generalize hm : Try.prog.types.size + 1 = q
  unfold keyOf
  rw [Try.underlying77]
  simp only [key_type, key_formed, hm, Bool.and_self, if_true]
  rfl
noncomputable def kl (r n : ByteArray) : Lit := @Classical.epsilon _ ⟨.bool false⟩ fun l => keyOf Try.prog 77 (.agg #[.string r, .string n]) = some l
theorem kl_of {r n : ByteArray} (hr : r.size ≤ maxLen) (hn : n.size ≤ maxLen) : keyOf Try.prog 77 (.agg #[.string r, .string n]) = some (kl r n) := by
  have h : (keyOf Try.prog 77 (.agg #[.string r, .string n])).isSome = true := by
    obtain ⟨m, hm⟩ := Nat.exists_eq_succ_of_ne_zero types_ne
    have h1 : Try.prog.keyLits (Try.prog.types.size + 1) 77 [.string r, .string n] = some [.string r.data.toList, .string n.data.toList] := by
      rw [hm]; exact key_lits m hr hn
    rw [keyOf_struct, h1]; rfl
  exact Classical.epsilon_spec (Option.isSome_iff_exists.1 h)
theorem key_of {v : Value} {l : Lit} (h : keyOf Try.prog 77 v = some l) : WideAt.IsKeyLit l := keyed.key h
theorem kl_key {r n : ByteArray} (hr : r.size ≤ maxLen) (hn : n.size ≤ maxLen) : WideAt.IsKeyLit (kl r n) := by
  have h := kl_of hr hn
  generalize kl r n = l at *
  exact key_of h
theorem kl_inj {r n r' n' : ByteArray} (hr : r.size ≤ maxLen) (hn : n.size ≤ maxLen) (hr' : r'.size ≤ maxLen) (hn' : n'.size ≤ maxLen) (h : kl r n = kl r' n') : r = r' ∧ n = n' := by
  have h1 := kl_of hr hn
  have h2 := kl_of hr' hn'
  rw [← h] at h2
  have h3 := keyed.inj h1 h2
  simp at h3
  exact h3
/-- How an entry's pointer reads. -/
def ptrElem : Value → Option (DataW Unit × List MemPlace)
  | .pointer none => some (.nil, [])
  | .pointer (some ⟨b, 0, none⟩) => some (.lit (.int .i64 b), [])
  | _ => none
theorem ptrElem_some {v : Value} {b : Nat} {ps : List MemPlace} (h : ptrElem v = some (.lit (.int .i64 b), ps)) : v = .pointer (some ⟨b, 0, none⟩) := by
  unfold ptrElem at h
  split at h
  · simp at h
  · simp at h; congr 3; omega
  · cases h
theorem ptrElem_nil {v : Value} {ps : List MemPlace} (h : ptrElem v = some (.nil, ps)) : v = .pointer none := by
  unfold ptrElem at h
  split at h
  · rfl
  · simp at h
  · cases h
theorem zeroE (w : World) : (zeroValue 63).run Try.prog w = .ok (.pointer none) w := by kernel_rfl
/-- The map knows just these. -/
structure Known (w : World) (m : Nat) (n : Nat) (M : List Ent) : Prop where
  small : ∀ x ∈ M, x.route.size ≤ maxLen ∧ x.name.size ≤ maxLen
  keys : M.Pairwise fun x y => ¬ (x.route = y.route ∧ x.name = y.name)
  own : ∃ D : DataW Unit, w.ownsMap Try.prog 77 ptrElem m n D ∧ Maps.size D = M.length ∧ (∀ x ∈ M, Maps.has D (kl x.route x.name) = true ∧ D.atKey (kl x.route x.name) .nil = .lit (.int .i64 x.b)) ∧
    ∀ r s : ByteArray, r.size ≤ maxLen → s.size ≤ maxLen → (∀ x ∈ M, ¬ (x.route = r ∧ x.name = s)) → Maps.has D (kl r s) = false
section
variable {w w' : World} {m n : Nat} {M M' : List Ent}
theorem Known.lt (h : Known w m n M) : m < w.heap.size := by obtain ⟨D, h1, -⟩ := h.own; exact h1.lt
theorem Known.perm (h : Known w m n M) (hp : M'.Perm M) : Known w m n M' := by
  refine ⟨fun x hx => h.small x (hp.mem_iff.1 hx), (hp.symm.pairwise_iff (fun {a b} h k => h ⟨k.1.symm, k.2.symm⟩)).1 h.keys, ?_⟩
  obtain ⟨D, h1, h2, h3, h4⟩ := h.own
  exact ⟨D, h1, h2.trans hp.length_eq.symm, fun x hx => h3 x (hp.mem_iff.1 hx), fun r s hr hs hx => h4 r s hr hs (fun x hx' => hx x (hp.mem_iff.2 hx'))⟩
theorem Known.kept {row : Option Nat} (h : Known w m n M) (hg : w.grownBy w' row) (hne : some m ≠ row) : Known w' m n M := by
  obtain ⟨D, h1, r⟩ := h.own
  exact ⟨h.small, h.keys, D, h1.kept hg hne, r⟩
theorem Touch.grown' {S : Nat → Prop} (h : Touch S w w') (hs : ¬ S m) (hlt : m < w.heap.size) : w'.heap[m]? = w.heap[m]? := h.block m hlt hs
theorem Known.touch {S : Nat → Prop} (h : Known w m n M) (ht : Touch S w w') (hs : ¬ S m) : Known w' m n M := by
  have hlt := h.lt
  obtain ⟨D, ⟨es, clock, hb, r0⟩, r⟩ := h.own
  exact ⟨h.small, h.keys, D, ⟨es, clock, (ht.block m hlt hs).trans hb, r0⟩, r⟩
/-- What is said of the keys alone, another reading of the entries. -/
theorem Known.same (h : Known w m n M) {f : Ent → Ent} (hf : ∀ x, (f x).b = x.b ∧ (f x).route = x.route ∧ (f x).name = x.name) : Known w m n (M.map f) := by
  obtain ⟨D, h1, h2, h3, h4⟩ := h.own
  refine ⟨fun x hx => ?_, ?_, D, h1, by simpa using h2, fun x hx => ?_, fun r s hr hs hx => ?_⟩
  · obtain ⟨y, hy, rfl⟩ := List.mem_map.1 hx
    rw [(hf y).2.1, (hf y).2.2]; exact h.small y hy
  · rw [List.pairwise_map]
    exact h.keys.imp (fun {a b} hk k => hk (by rw [(hf a).2.1, (hf a).2.2, (hf b).2.1, (hf b).2.2] at k; exact k))
  · obtain ⟨y, hy, rfl⟩ := List.mem_map.1 hx
    rw [(hf y).2.1, (hf y).2.2, (hf y).1]; exact h3 y hy
  · exact h4 r s hr hs (fun x hx' k => hx (f x) (List.mem_map_of_mem hx') (by rw [(hf x).2.1, (hf x).2.2]; exact k))
/-- A look-up. -/
theorem Known.look (h : Known w m n M) (x : Ent) (hx : x ∈ M) : (Instr.lookup 68 (.map (some m)) (.agg #[.string x.route, .string x.name]) false).run Try.prog w = .ok (.pointer (some ⟨x.b, 0, none⟩)) w := by
  obtain ⟨D, h1, h2, h3, h4⟩ := h.own
  obtain ⟨s1, s2⟩ := h.small x hx
  obtain ⟨v, ps, hr, hv⟩ := h1.lookup keyed Try.underlying68 (zeroE w) (zd := .nil) (zp := []) rfl (kl_of s1 s2)
  rw [(h3 x hx).2] at hv
  rw [hr, ptrElem_some hv]
theorem Known.look_no (h : Known w m n M) (r s : ByteArray) (hr : r.size ≤ maxLen) (hs : s.size ≤ maxLen) (hx : ∀ x ∈ M, ¬ (x.route = r ∧ x.name = s)) : (Instr.lookup 68 (.map (some m)) (.agg #[.string r, .string s]) false).run Try.prog w = .ok (.pointer none) w := by
  obtain ⟨D, h1, h2, h3, h4⟩ := h.own
  obtain ⟨v, ps, hrun, hv⟩ := h1.lookup keyed Try.underlying68 (zeroE w) (zd := .nil) (zp := []) rfl (kl_of hr hs)
  rw [Maps.atKey_of_not_has (h4 r s hr hs hx)] at hv
  rw [hrun, ptrElem_nil hv]
theorem Known.len (h : Known w m n M) (ty : TypeId) : (Builtin.len_ #[68] ty #[.map (some m)]).run Try.prog w = .ok (.int .i64 (M.length : Int)) w := by
  obtain ⟨D, h1, h2, h3, h4⟩ := h.own
  rw [h1.len Try.underlying68 ty, h2]
/-- One more. -/
theorem Known.put (h : Known w m n M) (hn : n < maxLen) (x : Ent) (s1 : x.route.size ≤ maxLen) (s2 : x.name.size ≤ maxLen) (hx : ∀ y ∈ M, ¬ (y.route = x.route ∧ y.name = x.name)) :
    ∃ w', (Instr.mapUpdate 68 (.map (some m)) (.agg #[.string x.route, .string x.name]) (.pointer (some ⟨x.b, 0, none⟩))).run Try.prog w = .ok () w' ∧ Known w' m (n + 1) (M ++ [x]) ∧ w.grownBy w' (some m) := by
  obtain ⟨D, h1, h2, h3, h4⟩ := h.own
  have hk := kl_of s1 s2
  have hv : ptrElem (.pointer (some ⟨x.b, 0, none⟩)) = some (.lit (.int .i64 (x.b : Int)), []) := rfl
  obtain ⟨w', hrun, hown, hg⟩ := World.ownsMap.update (t := 68) (e := 63) h1 keyed Try.underlying68 hn hk hv
  have hT := h1.tidy keyed
  have hL := kl_key s1 s2
  have hM := h1.isMap
  have hs1 := Maps.has_put_same hM hL (.lit (.int .i64 (x.b : Int)))
  have hs2 := Maps.atKey_put_same hM hL (.lit (.int .i64 (x.b : Int))) .nil
  refine ⟨w', hrun, ⟨fun y hy => ?_, ?_, _, hown, ?_, fun y hy => ?_, fun r s hr hs hy => ?_⟩, hg⟩
  · rcases List.mem_append.1 hy with hy | hy
    · exact h.small y hy
    · simp at hy; subst hy; exact ⟨s1, s2⟩
  · rw [List.pairwise_append]
    exact ⟨h.keys, by simp, fun a ha b hb => by simp at hb; subst hb; exact hx a ha⟩
  · rw [Maps.size_put hT, h4 _ _ s1 s2 hx, h2]; simp
  · rcases List.mem_append.1 hy with hy | hy
    · have hne : kl y.route y.name ≠ kl x.route x.name := fun e => hx y hy (kl_inj (h.small y hy).1 (h.small y hy).2 s1 s2 e)
      rw [Maps.has_put_other hne, Maps.atKey_put_other hne]; exact h3 y hy
    · simp at hy; subst hy
      exact ⟨hs1, hs2⟩
  · have hne : kl r s ≠ kl x.route x.name := fun e => hy x (by simp) (by obtain ⟨a, b⟩ := kl_inj hr hs s1 s2 e; exact ⟨a.symm, b.symm⟩)
    rw [Maps.has_put_other hne]
    exact h4 r s hr hs (fun z hz => hy z (List.mem_append.2 (.inl hz)))
/-- One goes. -/
theorem Known.del {x : Ent} (h : Known w m n (x :: M)) (ty : TypeId) :
    ∃ w', (Builtin.delete_ #[68, 77] ty #[.map (some m), .agg #[.string x.route, .string x.name]]).run Try.prog w = .ok (.tuple #[]) w' ∧ Known w' m n M ∧ w.grownBy w' (some m) := by
  obtain ⟨D, h1, h2, h3, h4⟩ := h.own
  obtain ⟨s1, s2⟩ := h.small x (by simp)
  have hk := kl_of s1 s2
  obtain ⟨w', hrun, hown, hg⟩ := h1.drop keyed Try.underlying68 hk ty
  have hT := h1.tidy keyed
  obtain ⟨k1, k2⟩ := List.pairwise_cons.1 h.keys
  refine ⟨w', hrun, ⟨fun y hy => h.small y (by simp [hy]), k2, _, hown, ?_, fun y hy => ?_, fun r s hr hs hy => ?_⟩, hg.grown⟩
  · have := Maps.size_del (k := kl x.route x.name) hT
    rw [(h3 x (by simp)).1, h2] at this
    simp at this
    exact this
  · have hne : kl y.route y.name ≠ kl x.route x.name := fun e => k1 y hy (by obtain ⟨a, b⟩ := kl_inj (h.small y (by simp [hy])).1 (h.small y (by simp [hy])).2 s1 s2 e; exact ⟨a.symm, b.symm⟩)
    rw [Maps.has_del_other hne, Maps.atKey_del_other hne]; exact h3 y (by simp [hy])
  · by_cases e : kl r s = kl x.route x.name
    · rw [e]; exact Maps.has_del_same
    · rw [Maps.has_del_other e]
      refine h4 r s hr hs (fun z hz => ?_)
      rcases List.mem_cons.1 hz with rfl | hz
      · exact fun k => e (by rw [k.1, k.2])
      · exact hy z hz
end
end Go.Proofs.Ytcgfkmjlgblkcaa.Pat
