/- The walks of the pacer's calls on a pacer that no call made; no condition. -/
import Derived.Test.YtpilpgdlgkndmabChecked
import Derived.WalkKit
import Derived.Below
set_option linter.unusedVariables false
set_option linter.unusedSimpArgs false
namespace Go.Proofs.Ytpilpgdlgkndmab
open Go.RowKit

/-- No call made it: nil, or all fields zero. -/
structure Zero (w : World) (g : Nat) : Prop where
  c0 : w.cell? ⟨g, 0, none⟩ = some (.int .i64 0)
  c1 : w.cell? ⟨g, 1, none⟩ = some (.int .i64 0)
  c2 : w.cell? ⟨g, 2, none⟩ = some (.int .i64 0)

theorem none_nil (w : World) : Calls Try.prog 7 #[.pointer none] w fun e w' => e = .returned (.bool true) ∧ w = w' := by
  go_enter Try.func7, Try.ntmps7
  go_wp2
  go_ret
  exact ⟨rfl, rfl⟩
theorem none_zero (w : World) (g : Nat) (h : Zero w g) : Calls Try.prog 7 #[.pointer (some ⟨g, 0, none⟩)] w fun e w' => e = .returned (.bool true) ∧ w = w' := by
  obtain ⟨c0, c1, c2⟩ := h
  go_enter Try.func7, Try.ntmps7
  go_wp2
  go_ret
  exact ⟨rfl, rfl⟩

theorem when_nil (x y z : Int) (w : World) : Calls Try.prog 4 #[.pointer none, .int .i64 x, .int .i64 y, .int .i64 z] w fun e w' => e = .returned (.tuple #[.int .i64 0, .int .i64 1]) ∧ w = w' := by
  go_enter Try.func4, Try.ntmps4
  go_wp2_with (go_at_call 7; refine (none_nil _).mono ?_; rintro e w' ⟨rfl, rfl⟩)
  go_ret2
  exact ⟨rfl, rfl⟩
theorem when_zero (x y z : Int) (w : World) (g : Nat) (h : Zero w g) : Calls Try.prog 4 #[.pointer (some ⟨g, 0, none⟩), .int .i64 x, .int .i64 y, .int .i64 z] w fun e w' => e = .returned (.tuple #[.int .i64 0, .int .i64 1]) ∧ w = w' := by
  go_enter Try.func4, Try.ntmps4
  go_wp2_with (go_at_call 7; refine (none_zero _ g h).mono ?_; rintro e w' ⟨rfl, rfl⟩)
  go_ret2
  exact ⟨rfl, rfl⟩
theorem sent_nil (x y z u : Int) (w : World) : Calls Try.prog 5 #[.pointer none, .int .i64 x, .int .i64 y, .int .i64 z, .int .i64 u] w fun e w' => e = .returned (.int .i64 1) ∧ w = w' := by
  go_enter Try.func5, Try.ntmps5
  go_wp2_with (go_at_call 7; refine (none_nil _).mono ?_; rintro e w' ⟨rfl, rfl⟩)
  go_ret
  exact ⟨rfl, rfl⟩
theorem sent_zero (x y z u : Int) (w : World) (g : Nat) (h : Zero w g) : Calls Try.prog 5 #[.pointer (some ⟨g, 0, none⟩), .int .i64 x, .int .i64 y, .int .i64 z, .int .i64 u] w fun e w' => e = .returned (.int .i64 1) ∧ w = w' := by
  go_enter Try.func5, Try.ntmps5
  go_wp2_with (go_at_call 7; refine (none_zero _ g h).mono ?_; rintro e w' ⟨rfl, rfl⟩)
  go_ret
  exact ⟨rfl, rfl⟩
theorem balloc {w W : World} (h : Below w.heap.size w W) (o : Obj) : Below w.heap.size w (W.alloc o) := h.alloc h.size o
theorem Zero.below {w w' : World} {g : Nat} (h : Zero w g) (hb : Below w.heap.size w w') : Zero w' g := by
  obtain ⟨c0, c1, c2⟩ := h
  exact ⟨(hb.cell (World.block_lt_of_cell? w _ c0)).trans c0, (hb.cell (World.block_lt_of_cell? w _ c1)).trans c1, (hb.cell (World.block_lt_of_cell? w _ c2)).trans c2⟩
theorem budget_nil (x y z : Int) (w : World) : Calls Try.prog 6 #[.pointer none, .int .i64 x, .int .i64 y, .int .i64 z] w fun e w' => e = .returned (.int .i64 0) ∧ Below w.heap.size w w' := by
  go_enter Try.func6, Try.ntmps6
  go_wp2_with (go_at_call 7; refine (none_nil _).mono ?_; rintro e w' ⟨rfl, rfl⟩)
  go_ret
  exact ⟨rfl, by repeat (first | exact Below.refl _ _ | apply balloc)⟩
theorem budget_zero (x y z : Int) (w : World) (g : Nat) (h : Zero w g) : Calls Try.prog 6 #[.pointer (some ⟨g, 0, none⟩), .int .i64 x, .int .i64 y, .int .i64 z] w fun e w' => e = .returned (.int .i64 0) ∧ Below w.heap.size w w' := by
  go_enter Try.func6, Try.ntmps6
  go_wp2_with (go_at_call 7; refine (none_zero _ g (h.below (by repeat (first | exact Below.refl _ _ | apply balloc)))).mono ?_; rintro e w' ⟨rfl, rfl⟩)
  go_ret
  exact ⟨rfl, by repeat (first | exact Below.refl _ _ | apply balloc)⟩

/-- What the law's loop rests on: the act, and the two pointers. -/
structure Base (w : World) (s z r : Nat) (b n wi rt a : Int) : Prop where
  a0 : w.cell? ⟨s, 0, none⟩ = some (.int .i64 b)
  a1 : w.cell? ⟨s, 1, none⟩ = some (.int .i64 n)
  a2 : w.cell? ⟨s, 2, none⟩ = some (.int .i64 wi)
  a3 : w.cell? ⟨s, 3, none⟩ = some (.int .i64 rt)
  a4 : w.cell? ⟨s, 4, none⟩ = some (.int .i64 a)
  z0 : Zero w z
  r0 : w.cell? ⟨r, 0, none⟩ = some (.pointer none)
  r1 : w.cell? ⟨r, 1, none⟩ = some (.pointer (some ⟨z, 0, none⟩))
theorem Base.below {w w' : World} {s z r : Nat} {b n wi rt a : Int} (h : Base w s z r b n wi rt a) (hb : Below w.heap.size w w') : Base w' s z r b n wi rt a :=
  ⟨(hb.cell (World.block_lt_of_cell? w _ h.a0)).trans h.a0, (hb.cell (World.block_lt_of_cell? w _ h.a1)).trans h.a1, (hb.cell (World.block_lt_of_cell? w _ h.a2)).trans h.a2, (hb.cell (World.block_lt_of_cell? w _ h.a3)).trans h.a3, (hb.cell (World.block_lt_of_cell? w _ h.a4)).trans h.a4, h.z0.below hb,
   (hb.cell (World.block_lt_of_cell? w _ h.r0)).trans h.r0, (hb.cell (World.block_lt_of_cell? w _ h.r1)).trans h.r1⟩
structure Aside (p : Prop) : Prop where mk :: (out : p)
theorem size_alloc (w : World) (o : Obj) : (w.alloc o).heap.size = w.heap.size + 1 := by simp
def Rel (w : World) (b n wi rt a : Int) (i : Value) (W : World) : Prop := ∃ k : Nat, k ≤ 2 ∧ i = .int .i64 k ∧ Below w.heap.size w W ∧ Base W w.heap.size (w.heap.size + 1) (w.heap.size + 2) b n wi rt a
theorem Below.step {w W W1 : World} (h : Below w.heap.size w W) (k : Below W.heap.size W W1) : Below w.heap.size w W1 :=
  h.trans ⟨k.os, k.tape, k.output, k.size, fun i hi => k.block i (Nat.lt_of_lt_of_le hi h.size)⟩
theorem nobody_walk (b n wi rt a : Int) (w : World) : Calls Try.prog 3 #[.agg #[.int .i64 b, .int .i64 n, .int .i64 wi, .int .i64 rt, .int .i64 a]] w fun e w' => e = .returned (.bool true) ∧ Below w.heap.size w w' := by
  go_enter Try.func3, Try.ntmps3
  go_wp2
  go_loopw [11] (fun i W => Rel w b n wi rt a i W) (fun i _ => 2 - (intOf i).toNat)
  case atStart =>
    refine ⟨0, by omega, rfl, by repeat (first | exact Below.refl _ _ | apply balloc), ?_⟩
    constructor
    all_goals first | (constructor <;> go_simp) | go_simp
  case round =>
    obtain ⟨k, hk, rfl, hB, hbase⟩ := hrel
    have HB := Aside.mk hB
    have HBase := Aside.mk hbase
    obtain ⟨a0, a1, a2, a3, a4, z0, r0, r1⟩ := hbase
    clear hB
    have c : k = 0 ∨ k = 1 ∨ k = 2 := by omega
    rcases c with rfl | rfl | rfl
    · go_wp2_with (first
        | (go_at_call 4; refine (when_nil _ _ _ _).mono ?_; rintro e w' ⟨rfl, rfl⟩)
        | (go_at_call 5; refine (sent_nil _ _ _ _ _).mono ?_; rintro e w' ⟨rfl, rfl⟩)
        | (go_at_call 6; refine (budget_nil _ _ _ _).mono ?_; rintro e w1 ⟨rfl, hb1⟩; have HB1 := Aside.mk hb1; clear hb1))
      go_roundw
      case rel => exact ⟨1, by omega, rfl, Below.step HB.out HB1.out, HBase.out.below HB1.out⟩
      case measure => simp [intOf]
    · go_wp2_with (first
        | (go_at_call 4; refine (when_zero _ _ _ _ _ z0).mono ?_; rintro e w' ⟨rfl, rfl⟩)
        | (go_at_call 5; refine (sent_zero _ _ _ _ _ _ z0).mono ?_; rintro e w' ⟨rfl, rfl⟩)
        | (go_at_call 6; refine (budget_zero _ _ _ _ _ z0).mono ?_; rintro e w1 ⟨rfl, hb1⟩; have HB1 := Aside.mk hb1; clear hb1))
      go_roundw
      case rel => exact ⟨2, by omega, rfl, Below.step HB.out HB1.out, HBase.out.below HB1.out⟩
      case measure => simp [intOf]
    · go_wp2
      go_ret
      exact ⟨rfl, HB.out⟩
end Go.Proofs.Ytpilpgdlgkndmab
