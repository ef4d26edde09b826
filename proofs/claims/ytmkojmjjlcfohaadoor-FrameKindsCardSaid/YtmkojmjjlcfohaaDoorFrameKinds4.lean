/- FrameKinds: Allowed of the code (slices.Contains by the shelf's contract); no condition. -/
import Derived.Test.YtmkojmjjlcfohaaDoorFrameKinds3
import Derived.Shelf.SlicesG.Turned
import Derived.Ground.SlgnProg
import Derived.WalkKit
set_option linter.unusedVariables false
set_option linter.unusedSimpArgs false
namespace Go.Proofs
open Go.Shelf
shelf_lay_g SlLaysN.n31 Slgn 31 at Tryd 35 as Tryd.laysC
end Go.Proofs
namespace Go.Proofs.YtmkojmjjlcfohaaDoor
open Go.RowKit Go.Shelf
theorem contains_at (b n c : Nat) (zs : List Int) (x : Int) (w : World) (hn : n = zs.length) (hbig : n ≤ 100) (hc : ∀ j, j < zs.length → w.cell? ⟨b, 0 + j, none⟩ = some (.int .i64 (zs.getD j 0))) (r : Bool) (hr : r = (zs.take n).contains x) :
    Calls Tryd.prog 35 #[.slice (some ⟨b, 0, none⟩) n c, .int .i64 x] w fun e w' => e = .returned (.bool r) ∧ w = w' := by
  have hcon := AnyG.slices_Contains_int Tryd.laysC b 0 n c zs x w (by omega) (by omega) hc
  change Calls Tryd.prog 35 _ _ _ at hcon
  subst hr
  exact hcon.mono fun e w' h => ⟨h.1, h.2.symm⟩
theorem contains_first (k : Int) (w : World) (o : Obj) : Calls Tryd.prog 35 #[.slice (some ⟨w.heap.size, 0, none⟩) 6 6, .int .i64 k] ((w.alloc (.cells #[.int .i64 0, .int .i64 1, .int .i64 2, .int .i64 3, .int .i64 6, .int .i64 28] 3)).alloc o) fun e w' => e = .returned (.bool (decide (k = 0 ∨ k = 1 ∨ k = 2 ∨ k = 3 ∨ k = 6 ∨ k = 28))) ∧ ((w.alloc (.cells #[.int .i64 0, .int .i64 1, .int .i64 2, .int .i64 3, .int .i64 6, .int .i64 28] 3)).alloc o) = w' := by
  refine contains_at _ 6 6 [0, 1, 2, 3, 6, 28] k _ rfl (by decide) ?_ _ (by rw [Bool.eq_iff_iff]; simp)
  intro j hj
  have hj' : j < 6 := hj
  have cj : j = 0 ∨ j = 1 ∨ j = 2 ∨ j = 3 ∨ j = 4 ∨ j = 5 := by omega
  rcases cj with rfl | rfl | rfl | rfl | rfl | rfl <;> (go_simp; try rfl)
theorem contains_late (k : Int) (w : World) (o : Obj) : Calls Tryd.prog 35 #[.slice (some ⟨w.heap.size + 1, 0, none⟩) 7 7, .int .i64 k] ((w.alloc o).alloc (.cells #[.int .i64 2, .int .i64 3, .int .i64 6, .int .i64 7, .int .i64 27, .int .i64 25, .int .i64 30] 3)) fun e w' => e = .returned (.bool (decide (k = 2 ∨ k = 3 ∨ k = 6 ∨ k = 7 ∨ k = 27 ∨ k = 25 ∨ k = 30))) ∧ ((w.alloc o).alloc (.cells #[.int .i64 2, .int .i64 3, .int .i64 6, .int .i64 7, .int .i64 27, .int .i64 25, .int .i64 30] 3)) = w' := by
  refine contains_at _ 7 7 [2, 3, 6, 7, 27, 25, 30] k _ rfl (by decide) ?_ _ (by rw [Bool.eq_iff_iff]; simp)
  intro j hj
  have hj' : j < 7 := hj
  have cj : j = 0 ∨ j = 1 ∨ j = 2 ∨ j = 3 ∨ j = 4 ∨ j = 5 ∨ j = 6 := by omega
  rcases cj with rfl | rfl | rfl | rfl | rfl | rfl | rfl <;> (go_simp; try rfl)
set_option maxRecDepth 100000 in
set_option maxHeartbeats 1000000 in
theorem allow_c (k p : Int) (w : World) : Calls Tryd.prog 11 #[.int .i64 k, .int .i64 p] w fun e w' => e = .returned (.bool (allowB k p)) ∧ Below w.heap.size w w' := by
  go_enter Tryd.func11, Tryd.ntmps11
  go_wp2_with (first
    | (go_at_call 36; refine (known_c _ _).mono ?_; rintro e w' ⟨rfl, rfl⟩)
    | (go_at_call 35; with_reducible refine (contains_first _ _ _).mono ?_; rintro e w' ⟨rfl, rfl⟩)
    | (go_at_call 35; with_reducible refine (contains_late _ _ _).mono ?_; rintro e w' ⟨rfl, rfl⟩))
  all_goals
    go_ret
    refine ⟨?_, by repeat (first | exact Below.refl _ _ | apply Bl.alloc)⟩
    refine congrArg (fun b => Ending.returned (Value.bool b)) ?_
    rw [Bool.eq_iff_iff]
    try simp only [beq_iff_eq, beq_eq_false_iff_ne, ne_eq, bne_iff_ne] at *
    simp [allowB, knownB] at *
    try omega
end Go.Proofs.YtmkojmjjlcfohaaDoor
