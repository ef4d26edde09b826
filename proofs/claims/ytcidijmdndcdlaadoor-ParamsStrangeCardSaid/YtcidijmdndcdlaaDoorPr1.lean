/- Parameters (layer 3): the struct's cells, the row of fields; no condition. -/
import Derived.Test.YtcidijmdndcdlaaDoorPmPure
import Derived.Test.YtcidijmdndcdlaaDoorQOctx
import Derived.Test.YtcidijmdndcdlaaDoorMin
import Derived.BigRegion
import Derived.BigQuiet
import Derived.Laws.Rows
import Derived.Laws.Tables
import Derived.Deep.WholeRow
import Derived.Deep.MidRow
set_option linter.unusedVariables false
set_option linter.unusedSimpArgs false
namespace Go.Proofs.YtcidijmdndcdlaaDoor.Pr
open Go Go.RowKit Go.Proofs.YtcidijmdndcdlaaDoor.Pm
open Go.Proofs.YtcidijmdndcdlaaDoorW.PrintWords Go.Proofs.YtcidijmdndcdlaaDoorW.PrintLast Go.Proofs.YtcidijmdndcdlaaDoorW.PrintMore
theorem list12 {α : Type} {l : List α} (h : l.length = 12) : ∃ a0 a1 a2 a3 a4 a5 a6 a7 a8 a9 a10 a11, l = [a0, a1, a2, a3, a4, a5, a6, a7, a8, a9, a10, a11] := by
  match l, h with
  | [a0, a1, a2, a3, a4, a5, a6, a7, a8, a9, a10, a11], _ => exact ⟨a0, a1, a2, a3, a4, a5, a6, a7, a8, a9, a10, a11, rfl⟩
theorem list16 {α : Type} {l : List α} (h : l.length = 16) : ∃ b0 b1 b2 b3 b4 b5 b6 b7 b8 b9 b10 b11 b12 b13 b14 b15, l = [b0, b1, b2, b3, b4, b5, b6, b7, b8, b9, b10, b11, b12, b13, b14, b15] := by
  match l, h with
  | [b0, b1, b2, b3, b4, b5, b6, b7, b8, b9, b10, b11, b12, b13, b14, b15], _ => exact ⟨b0, b1, b2, b3, b4, b5, b6, b7, b8, b9, b10, b11, b12, b13, b14, b15, rfl⟩
def foff (k : Nat) : Nat := if k < 10 then k else k + 1
/-- The struct's cells. -/
def pmRow (p : Pm) (vo vf va : Value) : Array Value :=
  ((p.n.take 10).map (Value.int .i64) ++ (.bool p.still :: ((p.n.drop 10).map (Value.int .i64) ++ (vo :: vf :: va :: .bool p.hasAgain :: (p.reset.map (Value.int .u8) ++ [.bool p.hasReset]))))).toArray
structure Sz (p : Pm) : Prop where
  n : p.n.length = 12
  r : p.reset.length = 16
theorem pm_lit {p : Pm} (h : Sz p) : ∃ a0 a1 a2 a3 a4 a5 a6 a7 a8 a9 a10 a11 b0 b1 b2 b3 b4 b5 b6 b7 b8 b9 b10 b11 b12 b13 b14 b15, p.n = [a0, a1, a2, a3, a4, a5, a6, a7, a8, a9, a10, a11] ∧ p.reset = [b0, b1, b2, b3, b4, b5, b6, b7, b8, b9, b10, b11, b12, b13, b14, b15] := by
  obtain ⟨a0, a1, a2, a3, a4, a5, a6, a7, a8, a9, a10, a11, h1⟩ := list12 h.n
  obtain ⟨b0, b1, b2, b3, b4, b5, b6, b7, b8, b9, b10, b11, b12, b13, b14, b15, h2⟩ := list16 h.r
  exact ⟨a0, a1, a2, a3, a4, a5, a6, a7, a8, a9, a10, a11, b0, b1, b2, b3, b4, b5, b6, b7, b8, b9, b10, b11, b12, b13, b14, b15, h1, h2⟩
theorem row_size {p : Pm} (h : Sz p) (vo vf va : Value) : (pmRow p vo vf va).size = 34 := by
  obtain ⟨a0, a1, a2, a3, a4, a5, a6, a7, a8, a9, a10, a11, b0, b1, b2, b3, b4, b5, b6, b7, b8, b9, b10, b11, b12, b13, b14, b15, h1, h2⟩ := pm_lit h
  unfold pmRow; rw [h1, h2]; rfl
theorem row_one {p : Pm} (h : Sz p) {vo vf va : Value} (ho : vo.oneCell' = true) (hf : vf.oneCell' = true) (ha : va.oneCell' = true) : (pmRow p vo vf va).all (·.oneCell') = true := by
  obtain ⟨a0, a1, a2, a3, a4, a5, a6, a7, a8, a9, a10, a11, b0, b1, b2, b3, b4, b5, b6, b7, b8, b9, b10, b11, b12, b13, b14, b15, h1, h2⟩ := pm_lit h
  unfold pmRow; rw [h1, h2]
  simp [Value.oneCell']
  exact ⟨ho, hf, ha⟩
theorem row_at {p : Pm} (h : Sz p) (vo vf va : Value) :
    (∀ k, k < 12 → (pmRow p vo vf va)[foff k]? = some (.int .i64 (p.nk k))) ∧ (pmRow p vo vf va)[10]? = some (.bool p.still) ∧ (pmRow p vo vf va)[13]? = some vo ∧ (pmRow p vo vf va)[14]? = some vf ∧
    (pmRow p vo vf va)[15]? = some va ∧ (pmRow p vo vf va)[16]? = some (.bool p.hasAgain) ∧ (∀ j x, p.reset[j]? = some x → (pmRow p vo vf va)[17 + j]? = some (.int .u8 x)) ∧ (pmRow p vo vf va)[33]? = some (.bool p.hasReset) := by
  obtain ⟨a0, a1, a2, a3, a4, a5, a6, a7, a8, a9, a10, a11, b0, b1, b2, b3, b4, b5, b6, b7, b8, b9, b10, b11, b12, b13, b14, b15, h1, h2⟩ := pm_lit h
  unfold pmRow Pm.nk
  rw [h1, h2]
  refine ⟨fun k hk => ?_, rfl, rfl, rfl, rfl, rfl, fun j x hj => ?_, rfl⟩
  · have hc : k = 0 ∨ k = 1 ∨ k = 2 ∨ k = 3 ∨ k = 4 ∨ k = 5 ∨ k = 6 ∨ k = 7 ∨ k = 8 ∨ k = 9 ∨ k = 10 ∨ k = 11 := by omega
    rcases hc with rfl | rfl | rfl | rfl | rfl | rfl | rfl | rfl | rfl | rfl | rfl | rfl <;> rfl
  · have hj' : j < 16 := (List.getElem?_eq_some_iff.1 hj).1
    have hc : j = 0 ∨ j = 1 ∨ j = 2 ∨ j = 3 ∨ j = 4 ∨ j = 5 ∨ j = 6 ∨ j = 7 ∨ j = 8 ∨ j = 9 ∨ j = 10 ∨ j = 11 ∨ j = 12 ∨ j = 13 ∨ j = 14 ∨ j = 15 := by omega
    rcases hc with rfl | rfl | rfl | rfl | rfl | rfl | rfl | rfl | rfl | rfl | rfl | rfl | rfl | rfl | rfl | rfl <;> (injection hj with hj; subst hj; rfl)
theorem row_setn {p : Pm} (h : Sz p) (vo vf va : Value) (k : Nat) (hk : k < 12) (v : Int) : (pmRow p vo vf va).setIfInBounds (foff k) (.int .i64 v) = pmRow { p with n := p.n.set k v } vo vf va := by
  obtain ⟨a0, a1, a2, a3, a4, a5, a6, a7, a8, a9, a10, a11, b0, b1, b2, b3, b4, b5, b6, b7, b8, b9, b10, b11, b12, b13, b14, b15, h1, h2⟩ := pm_lit h
  unfold pmRow
  simp only
  rw [h1, h2]
  have hc : k = 0 ∨ k = 1 ∨ k = 2 ∨ k = 3 ∨ k = 4 ∨ k = 5 ∨ k = 6 ∨ k = 7 ∨ k = 8 ∨ k = 9 ∨ k = 10 ∨ k = 11 := by omega
  rcases hc with rfl | rfl | rfl | rfl | rfl | rfl | rfl | rfl | rfl | rfl | rfl | rfl <;> rfl
theorem row_set {p : Pm} (h : Sz p) (vo vf va v : Value) (b : Bool) :
    (pmRow p vo vf va).setIfInBounds 10 (.bool b) = pmRow { p with still := b } vo vf va ∧ (pmRow p vo vf va).setIfInBounds 13 v = pmRow p v vf va ∧ (pmRow p vo vf va).setIfInBounds 14 v = pmRow p vo v va ∧ (pmRow p vo vf va).setIfInBounds 15 v = pmRow p vo vf v ∧
    (pmRow p vo vf va).setIfInBounds 16 (.bool b) = pmRow { p with hasAgain := b } vo vf va ∧ (pmRow p vo vf va).setIfInBounds 33 (.bool b) = pmRow { p with hasReset := b } vo vf va := by
  obtain ⟨a0, a1, a2, a3, a4, a5, a6, a7, a8, a9, a10, a11, b0, b1, b2, b3, b4, b5, b6, b7, b8, b9, b10, b11, b12, b13, b14, b15, h1, h2⟩ := pm_lit h
  unfold pmRow
  simp only
  rw [h1, h2]
  exact ⟨rfl, rfl, rfl, rfl, rfl, rfl⟩
/-- The block of a struct. -/
def PmAt (W : World) (g : Nat) (p : Pm) (vo vf va : Value) : Prop := W.heap[g]? = some (.cells (pmRow p vo vf va) 25 (0, 0))
theorem PmAt.below {W W' : World} {g : Nat} {p : Pm} {vo vf va : Value} (h : PmAt W g p vo vf va) {n : Nat} (hb : Below n W W') (hg : g < n) : PmAt W' g p vo vf va := (hb.block g hg).trans h
theorem PmAt.lt {W : World} {g : Nat} {p : Pm} {vo vf va : Value} (h : PmAt W g p vo vf va) : g < W.heap.size := (Array.getElem?_eq_some_iff.1 h).1
theorem PmAt.num {W : World} {g : Nat} {p : Pm} {vo vf va : Value} (h : PmAt W g p vo vf va) (hs : Sz p) {k : Nat} (hk : k < 12) : W.cell? ⟨g, foff k, none⟩ = some (.int .i64 (p.nk k)) := by
  rw [cell_of_row W g _ _ _ _ h]; exact (row_at hs vo vf va).1 k hk
theorem PmAt.cells {W : World} {g : Nat} {p : Pm} {vo vf va : Value} (h : PmAt W g p vo vf va) (hs : Sz p) :
    W.cell? ⟨g, 10, none⟩ = some (.bool p.still) ∧ W.cell? ⟨g, 13, none⟩ = some vo ∧ W.cell? ⟨g, 14, none⟩ = some vf ∧ W.cell? ⟨g, 15, none⟩ = some va ∧ W.cell? ⟨g, 16, none⟩ = some (.bool p.hasAgain) ∧ W.cell? ⟨g, 33, none⟩ = some (.bool p.hasReset) := by
  obtain ⟨_, r1, r2, r3, r4, r5, _, r6⟩ := row_at hs vo vf va
  refine ⟨?_, ?_, ?_, ?_, ?_, ?_⟩ <;> (rw [cell_of_row W g _ _ _ _ h]; assumption)
/-- The row of fields. -/
def fldCells (g : Nat) : Array Value := #[.int .i64 1, .pointer (some ⟨g, 0, none⟩), .int .i64 0, .int .i64 4611686018427387903, .int .i64 0, .int .i64 3, .pointer (some ⟨g, 1, none⟩), .int .i64 1200, .int .i64 4611686018427387903, .int .i64 65527, .int .i64 4, .pointer (some ⟨g, 2, none⟩), .int .i64 0, .int .i64 4611686018427387903, .int .i64 0, .int .i64 5, .pointer (some ⟨g, 3, none⟩), .int .i64 0, .int .i64 4611686018427387903, .int .i64 0, .int .i64 6, .pointer (some ⟨g, 4, none⟩), .int .i64 0, .int .i64 4611686018427387903, .int .i64 0, .int .i64 7, .pointer (some ⟨g, 5, none⟩), .int .i64 0, .int .i64 4611686018427387903, .int .i64 0, .int .i64 8, .pointer (some ⟨g, 6, none⟩), .int .i64 0, .int .i64 1152921504606846976, .int .i64 0, .int .i64 9, .pointer (some ⟨g, 7, none⟩), .int .i64 0, .int .i64 1152921504606846976, .int .i64 0, .int .i64 10, .pointer (some ⟨g, 8, none⟩), .int .i64 0, .int .i64 20, .int .i64 3, .int .i64 11, .pointer (some ⟨g, 9, none⟩), .int .i64 0, .int .i64 16383, .int .i64 25, .int .i64 14, .pointer (some ⟨g, 11, none⟩), .int .i64 2, .int .i64 4611686018427387903, .int .i64 2, .int .i64 32, .pointer (some ⟨g, 12, none⟩), .int .i64 0, .int .i64 4611686018427387903, .int .i64 0]
def FldAt (W : World) (b g : Nat) : Prop := W.heap[b]? = some (.cells (fldCells g) 57 (0, 0))
theorem FldAt.below {W W' : World} {b g : Nat} (h : FldAt W b g) {n : Nat} (hb : Below n W W') (hg : b < n) : FldAt W' b g := (hb.block b hg).trans h
theorem FldAt.lt {W : World} {b g : Nat} (h : FldAt W b g) : b < W.heap.size := (Array.getElem?_eq_some_iff.1 h).1
theorem FldAt.cells {W : World} {b g : Nat} (h : FldAt W b g) {k : Nat} (hk : k < 12) :
    W.cell? ⟨b, k * 5, none⟩ = some (.int .i64 (fid k)) ∧ W.cell? ⟨b, k * 5 + 1, none⟩ = some (.pointer (some ⟨g, foff k, none⟩)) ∧ W.cell? ⟨b, k * 5 + 2, none⟩ = some (.int .i64 (fleast k)) ∧
    W.cell? ⟨b, k * 5 + 3, none⟩ = some (.int .i64 (fmost k)) ∧ W.cell? ⟨b, k * 5 + 4, none⟩ = some (.int .i64 (fnone k)) := by
  rw [cell_of_row W b _ _ _ _ h, cell_of_row W b _ _ _ _ h, cell_of_row W b _ _ _ _ h, cell_of_row W b _ _ _ _ h, cell_of_row W b _ _ _ _ h]
  have hc : k = 0 ∨ k = 1 ∨ k = 2 ∨ k = 3 ∨ k = 4 ∨ k = 5 ∨ k = 6 ∨ k = 7 ∨ k = 8 ∨ k = 9 ∨ k = 10 ∨ k = 11 := by omega
  rcases hc with rfl | rfl | rfl | rfl | rfl | rfl | rfl | rfl | rfl | rfl | rfl | rfl <;> exact ⟨rfl, rfl, rfl, rfl, rfl⟩
set_option maxRecDepth 100000 in
set_option maxHeartbeats 4000000 in
theorem fields_s {W : World} (g : Nat) : Calls Tryd.prog 19 #[.pointer (some ⟨g, 0, none⟩)] W fun e w' =>
    ∃ b, e = .returned (.slice (some ⟨b, 0, none⟩) 12 12) ∧ FldAt w' b g ∧ W.heap.size ≤ b ∧ Below W.heap.size W w' := by
  go_enter Tryd.func19, Tryd.ntmps19
  go_wp2_with fail
  go_region
  go_wp2
  go_ret
  exact ⟨_, rfl, heap_alloc_new W _, Nat.le_refl _, Bl.drew (Bl.alloc (Below.refl _ _) _)⟩
end Go.Proofs.YtcidijmdndcdlaaDoor.Pr
