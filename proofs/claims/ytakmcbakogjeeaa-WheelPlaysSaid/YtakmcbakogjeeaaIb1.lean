/- Boxes (layer 6): what lies in memory, and the methods that turn no piece; no condition. -/
import Derived.Test.YtakmcbakogjeeaaChecked
import Derived.Test.YtakmcbakogjeeaaRawMap
import Derived.Test.YtakmcbakogjeeaaWWords
import Derived.Test.YtakmcbakogjeeaaWLast
import Derived.Test.YtakmcbakogjeeaaWMore
import Derived.WalkKit
import Derived.Below
import Derived.RowKit3
import Derived.RangeFuncBox
import Derived.Maps.OwnOps
import Derived.Deep.RegionHeld3
import Derived.Deep.QuietTactic
import Derived.Deep.DeepCutAuto
import Derived.BigQuiet
import Derived.Outline
set_option linter.unusedVariables false
set_option linter.unusedSimpArgs false
namespace Go.Proofs.Ytakmcbakogjeeaa.Ib
open Go Go.RowKit Go.Maps Go.Proofs.Ytakmcbakogjeeaa.Rm
open Go.Proofs.YtakmcbakogjeeaaW.PrintWords Go.Proofs.YtakmcbakogjeeaaW.PrintLast Go.Proofs.YtakmcbakogjeeaaW.PrintMore
theorem law : Keyed Try.prog 3 := int_keyed Try.underlying3
/-- The numbers of a box. -/
structure Hd where
  room : Int
  place : Int
  limit : Int
  reach : Int
  final : Int
  known : Bool
def Hd.cells (h : Hd) (m : Nat) : Array Value := #[.bool true, .int .i64 h.room, .int .i64 h.place, .int .i64 h.limit, .int .i64 h.reach, .int .i64 h.final, .bool h.known, .map (some m)]
/-- A box in block g, its pieces in map m. -/
structure BoxAt (W : World) (b g m n : Nat) (h : Hd) (kv : KV) : Prop where
  hg : b ≤ g
  hm : b ≤ m
  blk : W.heap[g]? = some (.cells (h.cells m) 44 (0, 0))
  mp : W.ownsMap Try.prog 3 rawElem m n (mapD kv)
section
variable {W W' : World} {b g m n : Nat} {h : Hd} {kv : KV}
theorem BoxAt.lt (x : BoxAt W b g m n h kv) : g < W.heap.size := (Array.getElem?_eq_some_iff.1 x.blk).1
theorem BoxAt.cell (x : BoxAt W b g m n h kv) (i : Nat) : W.cell? ⟨g, i, none⟩ = (h.cells m)[i]? := cell_of_row W g _ _ _ _ x.blk
theorem BoxAt.free (x : BoxAt W b g m n h kv) (i : Nat) : W.frozen? ⟨g, i, none⟩ = false := blk_frozen x.blk i
theorem BoxAt.c (x : BoxAt W b g m n h kv) : W.cell? ⟨g, 0, none⟩ = some (.bool true) ∧ W.cell? ⟨g, 1, none⟩ = some (.int .i64 h.room) ∧ W.cell? ⟨g, 2, none⟩ = some (.int .i64 h.place) ∧ W.cell? ⟨g, 3, none⟩ = some (.int .i64 h.limit) ∧
    W.cell? ⟨g, 4, none⟩ = some (.int .i64 h.reach) ∧ W.cell? ⟨g, 5, none⟩ = some (.int .i64 h.final) ∧ W.cell? ⟨g, 6, none⟩ = some (.bool h.known) ∧ W.cell? ⟨g, 7, none⟩ = some (.map (some m)) :=
  ⟨x.cell 0, x.cell 1, x.cell 2, x.cell 3, x.cell 4, x.cell 5, x.cell 6, x.cell 7⟩
theorem map_ne_cells {b' : Nat} {n' : Nat} {kv' : KV} (hm : W.ownsMap Try.prog 3 rawElem b' n' (mapD kv')) {k : Nat} {cs : Array Value} {t : TypeId} {z : Nat × Nat} (hk : W.heap[k]? = some (.cells cs t z)) : b' ≠ k := by
  rintro rfl
  obtain ⟨es, clock, hb, _⟩ := hm
  rw [hb] at hk
  cases hk
theorem BoxAt.below (x : BoxAt W b g m n h kv) (hb : Below W.heap.size W W') : BoxAt W' b g m n h kv :=
  ⟨x.hg, x.hm, (hb.block g x.lt).trans x.blk, x.mp.kept (grown_of_below hb none) (by simp)⟩
/-- One number set. -/
theorem BoxAt.put (x : BoxAt W b g m n h kv) (i : Nat) (v : Value) (h' : Hd) (he : (h.cells m).setIfInBounds i v = h'.cells m) : BoxAt (W.setCell ⟨g, i, none⟩ v) b g m n h' kv := by
  refine ⟨x.hg, x.hm, ?_, x.mp.setCell (map_ne_cells x.mp x.blk) v⟩
  rw [← he]
  exact blk_set x.blk i v
theorem bl_then {W0 A B : World} {k : Nat} (h : Below k W0 A) (hk : k ≤ A.heap.size) (hb : Below A.heap.size A B) : Below k W0 B := h.trans (hb.mono hk)
theorem bl_drewN {W : World} (k : Nat) : Below W.heap.size W (W.drewN k) := by
  induction k with
  | zero => exact Below.refl _ _
  | succ k ih => exact ih.drew
theorem none_s (x : BoxAt W b g m n h kv) : Calls Try.prog 74 #[.pointer (some ⟨g, 0, none⟩)] W fun e w' => e = .returned (.bool false) ∧ W = w' := by
  have c0 := x.c.1
  clear x
  go_enter Try.func74, Try.ntmps74
  go_wp2
  go_ret
  exact ⟨rfl, rfl⟩
/-- New. -/
theorem new_s (w : World) (room : Int) (h0 : 0 ≤ room) (h1 : room ≤ 1048576) : Calls Try.prog 15 #[.int .i64 room] w fun e w' => ∃ g, e = .returned (.tuple #[.pointer (some ⟨g, 0, none⟩), .int .i64 0]) ∧ BoxAt w' w.heap.size g w.heap.size 0 ⟨room, 0, room, 0, 0, false⟩ [] ∧ Below w.heap.size w w' := by
  have hm := (made w Try.prog 3).alloc (.cells (Hd.cells ⟨room, 0, room, 0, 0, false⟩ w.heap.size) 44)
  have hb := heap_alloc_new (w.alloc (.map #[] 0)) (.cells (Hd.cells ⟨room, 0, room, 0, 0, false⟩ w.heap.size) 44)
  rw [World.size_alloc] at hb
  have HM := Aside0.mk hm
  have HB := Aside0.mk hb
  clear hm hb
  have hmk : ∀ W : World, (Instr.makeMap 42 none).run Try.prog W = .ok (.map (some W.heap.size)) (W.alloc (.map #[] 0)) := fun W => by kernel_rfl
  go_enter Try.func15, Try.ntmps15
  go_wp2
  go_ret2
  exact ⟨_, rfl, ⟨by omega, Nat.le_refl _, HB.out, HM.out⟩, (below_alloc (Below.refl _ w) _).alloc (by simp) _⟩
theorem final_s (x : BoxAt W b g m n h kv) : Calls Try.prog 17 #[.pointer (some ⟨g, 0, none⟩)] W fun e w' => e = .returned (.tuple #[.int .i64 (if h.known then h.final else 0), .bool h.known]) ∧ W = w' := by
  obtain ⟨c0, c1, c2, c3, c4, c5, c6, c7⟩ := x.c
  have X := Aside0.mk x
  clear x
  obtain ⟨rm, pl, li, re, fi, kn⟩ := h
  simp only at c1 c2 c3 c4 c5 c6 ⊢
  cases kn <;> (go_enter Try.func17, Try.ntmps17; go_wp2_with (go_at_call 74; refine (none_s X.out).mono ?_; rintro e w' ⟨rfl, rfl⟩); go_ret2; exact ⟨rfl, rfl⟩)
theorem reach_s (x : BoxAt W b g m n h kv) : Calls Try.prog 18 #[.pointer (some ⟨g, 0, none⟩)] W fun e w' => e = .returned (.int .i64 h.reach) ∧ W = w' := by
  obtain ⟨c0, c1, c2, c3, c4, c5, c6, c7⟩ := x.c
  have X := Aside0.mk x
  clear x
  go_enter Try.func18, Try.ntmps18
  go_wp2_with (go_at_call 74; refine (none_s X.out).mono ?_; rintro e w' ⟨rfl, rfl⟩)
  go_ret
  exact ⟨rfl, rfl⟩
/-- May a piece end there? -/
def endsV (h : Hd) (e : Int) (fin : Bool) : Int :=
  if (h.known && (decide (e > h.final) || (fin && !(e == h.final)))) || (fin && decide (e < h.reach)) then 33 else if e > h.limit then 30 else 0
set_option maxHeartbeats 16000000 in
theorem ends_s (x : BoxAt W b g m n h kv) (e0 : Int) (fin : Bool) : Calls Try.prog 75 #[.pointer (some ⟨g, 0, none⟩), .int .i64 e0, .bool fin] W fun e w' => e = .returned (.int .i64 (endsV h e0 fin)) ∧ W = w' := by
  obtain ⟨c0, c1, c2, c3, c4, c5, c6, c7⟩ := x.c
  clear x
  obtain ⟨rm, pl, li, re, fi, kn⟩ := h
  simp only at c1 c2 c3 c4 c5 c6
  unfold endsV
  simp only
  obtain ⟨q3, hq3⟩ : ∃ q, decide (e0 < re) = q := ⟨_, rfl⟩
  rw [hq3]
  by_cases he : e0 = fi
  · subst he
    have h1 : decide (e0 > e0) = false := by simp
    have h2 : (e0 == e0) = true := by simp
    rw [h1, h2]
    by_cases hl : e0 > li
    · rw [if_pos hl]
      cases kn <;> cases fin <;> cases q3 <;> (go_enter Try.func75, Try.ntmps75; go_wp2; go_ret; exact ⟨rfl, rfl⟩)
    · rw [if_neg hl]
      have hl' : e0 ≤ li := by omega
      clear hl
      cases kn <;> cases fin <;> cases q3 <;> (go_enter Try.func75, Try.ntmps75; go_wp2; go_ret; exact ⟨rfl, rfl⟩)
  · have h2 : (e0 == fi) = false := by simp [he]
    obtain ⟨q1, hq1⟩ : ∃ q, decide (e0 > fi) = q := ⟨_, rfl⟩
    rw [hq1, h2]
    have h3 : (e0 != fi) = true := by simp [he]
    have h4 : decide (e0 = fi) = false := by simp [he]
    by_cases hl : e0 > li
    · rw [if_pos hl]
      cases kn <;> cases fin <;> cases q1 <;> cases q3 <;> (go_enter Try.func75, Try.ntmps75; go_wp2; go_ret; exact ⟨rfl, rfl⟩)
    · rw [if_neg hl]
      have hl' : e0 ≤ li := by omega
      clear hl
      cases kn <;> cases fin <;> cases q1 <;> cases q3 <;> (go_enter Try.func75, Try.ntmps75; go_wp2; go_ret; exact ⟨rfl, rfl⟩)
/-- End. -/
def endV (h : Hd) (f : Int) : Int := if f < 0 ∨ f > 4611686018427387903 then 2 else endsV h f true
def endH (h : Hd) (f : Int) : Hd := if endV h f = 0 then { h with known := true, final := f, reach := f } else h
set_option maxHeartbeats 4000000 in
theorem end_s (x : BoxAt W b g m n h kv) (f : Int) (hb : b ≤ W.heap.size) : Calls Try.prog 16 #[.pointer (some ⟨g, 0, none⟩), .int .i64 f] W fun e w' => e = .returned (.int .i64 (endV h f)) ∧ BoxAt w' b g m n (endH h f) kv ∧ Below b W w' := by
  obtain ⟨c0, c1, c2, c3, c4, c5, c6, c7⟩ := x.c
  have f4 := x.free 4
  have f5 := x.free 5
  have f6 := x.free 6
  have X := Aside0.mk x
  clear x
  unfold endH endV
  by_cases h0 : f < 0
  · rw [if_pos (.inl h0), if_neg (by decide)]
    go_enter Try.func16, Try.ntmps16
    go_wp2_with (go_at_call 74; refine (none_s X.out).mono ?_; rintro e w' ⟨rfl, rfl⟩)
    go_ret
    exact ⟨rfl, X.out, Below.refl _ _⟩
  · by_cases h1 : f > 4611686018427387903
    · rw [if_pos (.inr h1), if_neg (by decide)]
      have h0' : 0 ≤ f := by omega
      clear h0
      go_enter Try.func16, Try.ntmps16
      go_wp2_with (go_at_call 74; refine (none_s X.out).mono ?_; rintro e w' ⟨rfl, rfl⟩)
      go_ret
      exact ⟨rfl, X.out, Below.refl _ _⟩
    · rw [if_neg (show ¬ (f < 0 ∨ f > 4611686018427387903) by omega)]
      have h0' : 0 ≤ f := by omega
      have h1' : f ≤ 4611686018427387903 := by omega
      have CE := Aside0.mk (ends_s X.out f true)
      obtain ⟨v, hv⟩ : ∃ v, endsV h f true = v := ⟨_, rfl⟩
      rw [hv] at CE ⊢
      clear h0 h1 hv
      by_cases hz : v = 0
      · subst hz
        rw [if_pos rfl]
        go_enter Try.func16, Try.ntmps16
        go_wp2_with (first
          | (go_at_call 74; refine (none_s X.out).mono ?_; rintro e w' ⟨rfl, rfl⟩)
          | (go_at_call 75; refine CE.out.mono ?_; rintro e w' ⟨rfl, rfl⟩))
        go_ret
        have y1 := X.out.put 6 (.bool true) { h with known := true } rfl
        have y2 := y1.put 5 (.int .i64 f) { h with known := true, final := f } rfl
        have y3 := y2.put 4 (.int .i64 f) { h with known := true, final := f, reach := f } rfl
        exact ⟨rfl, y3, (((Below.refl b W).setCell (p := ⟨g, 6, none⟩) X.out.hg _).setCell (p := ⟨g, 5, none⟩) X.out.hg _).setCell (p := ⟨g, 4, none⟩) X.out.hg _⟩
      · rw [if_neg hz]
        have hvb : (v == 0) = false := by simp [hz]
        go_enter Try.func16, Try.ntmps16
        go_wp2_with (first
          | (go_at_call 74; refine (none_s X.out).mono ?_; rintro e w' ⟨rfl, rfl⟩)
          | (go_at_call 75; refine CE.out.mono ?_; rintro e w' ⟨rfl, rfl⟩))
        go_ret
        exact ⟨rfl, X.out, Below.refl _ _⟩
end
end Go.Proofs.Ytakmcbakogjeeaa.Ib
