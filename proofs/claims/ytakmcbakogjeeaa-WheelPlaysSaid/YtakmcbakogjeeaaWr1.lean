/- The document's wheel (layer 25): its row, cut and appended; New, At; no condition. -/
import Derived.Test.YtakmcbakogjeeaaWh19
import Derived.Test.YtakmcbakogjeeaaWRow
set_option linter.unusedVariables false
set_option linter.unusedSimpArgs false
namespace Go.Proofs.Ytakmcbakogjeeaa.Wr
open Go Go.RowKit Go.Maps Go.Proofs.Ytakmcbakogjeeaa.Rm Go.Proofs.Ytakmcbakogjeeaa.Rw Go.Proofs.Ytakmcbakogjeeaa.Wh
open Go.Proofs.YtakmcbakogjeeaaW.PrintWords Go.Proofs.YtakmcbakogjeeaaW.PrintLast Go.Proofs.YtakmcbakogjeeaaW.PrintMore
variable {W W' W2 : World} {b g : Nat} {now : Int} {L l l2 : List Tm} {v v2 : Value}
/-- A row of the document's timers, which may begin inside a block. -/
abbrev RdAt (W : World) (b : Nat) (v : Value) (l : List Tm) : Prop := WRow W b 89 2 v l.length (tcells l)
theorem tcells_drop : ∀ (l : List Tm) (i : Nat), (tcells l).drop (i * 2) = tcells (l.drop i)
  | _, 0 => by simp
  | [], i + 1 => by simp [tcells]
  | t :: l, i + 1 => by rw [tcells_cons, show (i + 1) * 2 = i * 2 + 1 + 1 by omega, List.drop_succ_cons, List.drop_succ_cons, tcells_drop l i, List.drop_succ_cons]
theorem infoR : (Try.prog.info? 89).map (fun i => (i.zero, i.size, i.bytes)) = some (some (.agg #[.int .i64 0, .int .i64 0]), 2, 16) := by kernel_rfl
theorem run_cutlo {P : Program} (t e : TypeId) {i : TypeInfo} (ht : P.underlying t = some (.slice e)) (hi : P.info? e = some i) (size : Nat) (hsz : i.size = size) (A : Option Addr) (n c lo : Nat) (h1 : lo ≤ n) (hc : n ≤ c) :
    ∀ W : World, (Instr.slice t (.slice A n c) (some (.int .i64 lo)) none none).run P W = .ok (.slice (if c = lo then A else A.map (·.add (lo * size))) (n - lo) (c - lo)) W := by
  intro W
  have e1 : (0 ≤ (lo : Int) ∧ (lo : Int) ≤ ((n : Nat) : Int)) = True := eq_true ⟨by omega, by omega⟩
  subst hsz
  simp only [Instr.slice, Instr.sliceBounds, Instr.sliceBound, asIntOf, Sem.run_bind, run_underlying ht, Result.andThen_ok, Sem.run_pure, e1, if_true, sizeOf, typeInfo, hi]
  simp [hi, hc, h1]
theorem run_cuthi {P : Program} (t e : TypeId) {i : TypeInfo} (ht : P.underlying t = some (.slice e)) (hi : P.info? e = some i) (size : Nat) (hsz : i.size = size) (A : Option Addr) (n c hi' : Nat) (h1 : hi' ≤ c) :
    ∀ W : World, (Instr.slice t (.slice A n c) none (some (.int .i64 hi')) none).run P W = .ok (.slice (if c = 0 then A else A.map (·.add (0 * size))) hi' c) W := by
  intro W
  have e1 : (0 ≤ (hi' : Int) ∧ (hi' : Int) ≤ ((c : Nat) : Int)) = True := eq_true ⟨by omega, by omega⟩
  subst hsz
  simp only [Instr.slice, Instr.sliceBounds, Instr.sliceBound, asIntOf, Sem.run_bind, run_underlying ht, Result.andThen_ok, Sem.run_pure, e1, if_true, sizeOf, typeInfo, hi]
  simp [hi, h1]
theorem rd_from {A : Option Addr} {c : Nat} (h : RdAt W b (.slice A l.length c) l) {i : Nat} (hi : i ≤ l.length) : ∃ A' c', (∀ W', (Instr.slice 85 (.slice A l.length c) (some (.int .i64 i)) none none).run Try.prog W' = .ok (.slice A' (l.length - i) c') W') ∧ RdAt W b (.slice A' (l.length - i) c') (l.drop i) := by
  obtain ⟨i0, hi0, hz0, hz1, hz2⟩ := info_parts infoR
  obtain ⟨_, hc, _⟩ := wr_room h
  refine ⟨_, _, run_cutlo 85 89 Try.underlying85 hi0 2 hz1 A l.length c i hi hc, ?_⟩
  have := wr_cut (lo := i) (hi := l.length) (cp := c) h hi (Nat.le_refl _) hc (Nat.le_refl _)
  show WRow W b _ 2 _ (l.drop i).length (tcells (l.drop i))
  rw [List.length_drop]
  rw [tcells_drop, List.take_of_length_le (by rw [tcells_len, List.length_drop]; omega)] at this
  exact this
theorem rd_to {A : Option Addr} {c : Nat} (h : RdAt W b (.slice A l.length c) l) {i : Nat} (hi : i ≤ l.length) : ∃ A' c', (∀ W', (Instr.slice 85 (.slice A l.length c) none (some (.int .i64 i)) none).run Try.prog W' = .ok (.slice A' i c') W') ∧ RdAt W b (.slice A' i c') (l.take i) := by
  obtain ⟨i0, hi0, hz0, hz1, hz2⟩ := info_parts infoR
  obtain ⟨_, hc, _⟩ := wr_room h
  refine ⟨_, _, run_cuthi 85 89 Try.underlying85 hi0 2 hz1 A l.length c i (by omega), ?_⟩
  have := wr_cut (lo := 0) (hi := i) (cp := c) h (Nat.zero_le _) hi (by omega) (Nat.le_refl _)
  show WRow W b _ 2 _ (l.take i).length (tcells (l.take i))
  rw [List.length_take, Nat.min_eq_left hi]
  rw [Nat.zero_mul, List.drop_zero, Nat.sub_zero, Nat.sub_zero, tcells_take] at this
  simpa using this
theorem rd_slice (h : RdAt W b v l) : ∃ A c, v = .slice A l.length c := by
  obtain ⟨A, c, h1, _⟩ := wr_slice h
  exact ⟨A, c, h1⟩
theorem rd_cells {A : Option Addr} {c : Nat} (h : RdAt W b (.slice A l.length c) l) {j : Nat} {t : Tm} (hj : l[j]? = some t) : ∃ g off, A = some ⟨g, off, none⟩ ∧ W.cell? ⟨g, off + j * 2, none⟩ = some (.int .i64 t.1) ∧ W.cell? ⟨g, off + j * 2 + 1, none⟩ = some (.int .i64 t.2) := by
  obtain ⟨A', c', h1, _, h3⟩ := wr_slice h
  have hjl := (List.getElem?_eq_some_iff.1 hj).1
  obtain ⟨g, off, h4⟩ := h3 (by omega)
  injection h1 with h1 _ _
  subst h1; subst h4
  obtain ⟨c0, c1⟩ := tcells_at l j t hj
  exact ⟨g, off, rfl, (wr_cell h _ _ c0).1, by have := (wr_cell h _ _ c1).1; rwa [← Nat.add_assoc] at this⟩
/-- A row appended to a row. -/
theorem rd_app (h : RdAt W b v l) (hx : RdAt W b v2 l2) (hbw : b ≤ W.heap.size) (hl : l.length + l2.length ≤ 1099511627776) : ∃ A c w1,
    (∀ ty, (Builtin.append_ #[85, 85] ty #[v, v2]).run Try.prog W = .ok (.slice A (l.length + l2.length) c) w1) ∧ RdAt w1 b (.slice A (l.length + l2.length) c) (l ++ l2) ∧ W.grownBy w1 v.ownBlock ∧ ((Value.slice A (l.length + l2.length) c).ownBlock = v.ownBlock ∨ ∃ k, (Value.slice A (l.length + l2.length) c).ownBlock = some k ∧ W.heap.size ≤ k) := by
  obtain ⟨i0, hi, hz0, hz1, hz2⟩ := info_parts infoR
  obtain ⟨A, c, rfl, hnc, _⟩ := wr_slice h
  obtain ⟨A2, c2, rfl, hnc2, hA2⟩ := wr_slice hx
  by_cases h2 : l2.length = 0
  · have e2 : l2 = [] := List.length_eq_zero_iff.1 h2
    subst e2
    refine ⟨A, c, W, fun ty => ?_, by simpa using h, ⟨rfl, rfl, rfl, Nat.le_refl _, fun _ _ _ => rfl⟩, .inl rfl⟩
    cases A2 <;> cases A <;> simp [Builtin.append_, run_underlying Try.underlying85, sizeOf, typeInfo, hi, Builtin.lenOf, hnc, Builtin.firstCells, storeCells, loadCells, loadCellsFrom]
  · obtain ⟨g2, o2, rfl⟩ := hA2 (by omega)
    obtain ⟨v1, w1, hr, g1, g3, g4⟩ := wr_append (P := Try.prog) W b 85 0 89 i0 _ 2 16 Try.underlying85 hi hz0 hz1 hz2 rfl (by decide) _ l.length (tcells l) h ⟨g2, o2, none⟩ l2.length c2 (tcells l2) (tcells_len l2)
      (fun j u hu => by rw [add_at]; exact (wr_cell hx j u hu).1) (one_tcells l2) (by omega) (by unfold maxLen; omega) (by omega) hbw
    have hrow : RdAt w1 b v1 (l ++ l2) := by
      show WRow w1 b _ 2 v1 (l ++ l2).length (tcells (l ++ l2))
      rw [List.length_append, tcells_app]
      exact g1
    obtain ⟨A', c', rfl⟩ := rd_slice hrow
    rw [List.length_append] at hr hrow g4
    exact ⟨A', c', w1, fun ty => hr, hrow, g3, g4⟩
/-- The document's wheel in block g, its row. -/
structure RwAt (W : World) (b g : Nat) (now : Int) (v : Value) (L : List Tm) : Prop where
  hg : b ≤ g
  blk : W.heap[g]? = some (.cells #[.int .i64 now, v] 87 (0, 0))
  row : RdAt W b v L
theorem RwAt.lt (h : RwAt W b g now v L) : g < W.heap.size := (Array.getElem?_eq_some_iff.1 h.blk).1
theorem RwAt.c (h : RwAt W b g now v L) : W.cell? ⟨g, 0, none⟩ = some (.int .i64 now) ∧ W.cell? ⟨g, 1, none⟩ = some v := by
  refine ⟨?_, ?_⟩ <;> (rw [cell_of_row W g _ _ _ _ h.blk]; rfl)
theorem RwAt.free (h : RwAt W b g now v L) (i : Nat) : W.frozen? ⟨g, i, none⟩ = false := blk_frozen h.blk i
theorem RwAt.move (h : RwAt W b g now v L) (hk : ∀ k, (k = g ∨ v.ownBlock = some k) → W'.heap[k]? = W.heap[k]?) : RwAt W' b g now v L := ⟨h.hg, (hk g (.inl rfl)).trans h.blk, wr_move h.row (fun k e => hk k (.inr e))⟩
theorem RwAt.below (h : RwAt W b g now v L) (hb : Below W.heap.size W W') : RwAt W' b g now v L := h.move (fun k hk => hb.block k (by
  rcases hk with rfl | hk
  · exact h.lt
  · exact wr_lt h.row k hk))
/-- What a change of the document's wheel leaves: what lies below, and all that is no row of its types. -/
structure Rk (W W' : World) (b : Nat) : Prop where
  bel : Below b W W'
  kt : ∀ (k : Nat) (cs : Array Value) (t : TypeId) (z : Nat × Nat), W.heap[k]? = some (Obj.cells cs t z) → t ≠ 89 → t ≠ 87 → W'.heap[k]? = some (Obj.cells cs t z)
  mp : ∀ (k : Nat) es c, W.heap[k]? = some (Obj.map es c) → W'.heap[k]? = some (Obj.map es c)
theorem Rk.refl (b : Nat) (W : World) : Rk W W b := ⟨Below.refl _ _, fun _ _ _ _ h _ _ => h, fun _ _ _ h => h⟩
theorem Rk.trans (h1 : Rk W W' b) (h2 : Rk W' W2 b) : Rk W W2 b := ⟨h1.bel.trans h2.bel, fun k cs t z hk a1 a2 => h2.kt k cs t z (h1.kt k cs t z hk a1 a2) a1 a2, fun k es c hk => h2.mp k es c (h1.mp k es c hk)⟩
theorem Rk.of_below (h : Below W.heap.size W W') (hb : b ≤ W.heap.size) : Rk W W' b := ⟨h.mono hb, fun k cs t z hk _ _ => (h.block k (Array.getElem?_eq_some_iff.1 hk).1).trans hk, fun k es c hk => (h.block k (Array.getElem?_eq_some_iff.1 hk).1).trans hk⟩
/-- A row turned: its own block alone. -/
theorem Rk.of_row {v : Value} {l : List Tm} (h : RdAt W b v l) (hg : W.grownBy W' v.ownBlock) (hb : b ≤ W.heap.size) : Rk W W' b := by
  refine ⟨⟨hg.os, hg.tape, hg.output, hg.size, fun k hk => hg.block k (by omega) (fun e => by have := (wr_typed h k e.symm).1; omega)⟩, fun k cs t z hk a1 _ => (hg.block k (Array.getElem?_eq_some_iff.1 hk).1 (fun e => ?_)).trans hk, fun k es c hk => (hg.block k (Array.getElem?_eq_some_iff.1 hk).1 (fun e => ?_)).trans hk⟩
  · obtain ⟨_, cs', hc⟩ := wr_typed h k e.symm
    rw [hk] at hc
    injection hc with hc
    injection hc with _ hc
    exact a1 hc
  · obtain ⟨_, cs', hc⟩ := wr_typed h k e.symm
    rw [hk] at hc
    cases hc
theorem Rk.of_set {i : Nat} {u : Value} (h : RwAt W b g now v L) : Rk W (W.setCell ⟨g, i, none⟩ u) b := by
  have hf : ∀ k, k ≠ g → (W.setCell ⟨g, i, none⟩ u).heap[k]? = W.heap[k]? := fun k hk => Below.heap_setCell W ⟨g, i, none⟩ _ k hk
  refine ⟨(Below.refl b W).setCell (p := ⟨g, i, none⟩) h.hg u, fun k cs t z hk _ a2 => (hf k (fun e => ?_)).trans hk, fun k es c hk => (hf k (fun e => ?_)).trans hk⟩
  · rw [e, h.blk] at hk
    injection hk with hk
    injection hk with _ hk
    exact a2 hk.symm
  · rw [e, h.blk] at hk
    cases hk
/-- The row put anew. -/
theorem RwAt.put (h : RwAt W b g now v L) {L' : List Tm} {v' : Value} (hr : RdAt W b v' L') : RwAt (W.setCell ⟨g, 1, none⟩ v') b g now v' L' := by
  refine ⟨h.hg, blk_set h.blk 1 v', wr_move hr (fun k hk => Below.heap_setCell W ⟨g, 1, none⟩ _ k (fun e => ?_))⟩
  obtain ⟨_, cs, hc⟩ := wr_typed hr k hk
  rw [e, h.blk] at hc
  injection hc with hc
  injection hc with _ hc
  exact absurd hc (by decide)
theorem RwAt.setNow (h : RwAt W b g now v L) (now' : Int) : RwAt (W.setCell ⟨g, 0, none⟩ (.int .i64 now')) b g now' v L := by
  refine ⟨h.hg, blk_set h.blk 0 _, wr_move h.row (fun k hk => Below.heap_setCell W ⟨g, 0, none⟩ _ k (fun e => ?_))⟩
  obtain ⟨_, cs, hc⟩ := wr_typed h.row k hk
  rw [e, h.blk] at hc
  injection hc with hc
  injection hc with _ hc
  exact absurd hc (by decide)
end Go.Proofs.Ytakmcbakogjeeaa.Wr
