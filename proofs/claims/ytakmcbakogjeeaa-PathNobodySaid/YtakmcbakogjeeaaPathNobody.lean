/- The walks of the calls on what no call made (caravel/caravellaw24.PathNobody); no condition. -/
import Derived.Test.YtakmcbakogjeeaaChecked
import Derived.Test.YtakmcbakogjeeaaMin
set_option linter.unusedVariables false
set_option linter.unusedSimpArgs false
namespace Go.Proofs.Ytakmcbakogjeeaa.PaN
open Go.RowKit

/-- No call made it: all fields zero. -/
structure Zero (w : World) (g : Nat) : Prop where
  c0 : w.cell? ⟨g, 0, none⟩ = some (.map none)
  c1 : w.cell? ⟨g, 1, none⟩ = some (.int .i64 0)
theorem Zero.below {w w' : World} {g : Nat} (h : Zero w g) (hb : Below w.heap.size w w') : Zero w' g :=
  ⟨Bl.cell hb h.c0, Bl.cell hb h.c1⟩
def Nob (w : World) (p : Value) : Prop := p = .pointer none ∨ ∃ g, p = .pointer (some ⟨g, 0, none⟩) ∧ Zero w g
theorem Nob.below {w w' : World} {p : Value} (h : Nob w p) (hb : Below w.heap.size w w') : Nob w' p := by
  rcases h with rfl | ⟨g, rfl, h⟩
  · exact .inl rfl
  · exact .inr ⟨g, rfl, h.below hb⟩
set_option maxRecDepth 100000 in
set_option maxHeartbeats 2000000 in
theorem none_any (w : World) (p : Value) (h : Nob w p) : Calls Try.prog 95 #[p] w fun e w' => e = .returned (.bool true) ∧ w = w' := by
  rcases h with rfl | ⟨g, rfl, h⟩
  · have heq : ∀ W : World, (binOp .eql 106 (.map none) (.map none)).run Try.prog W = .ok (.bool true) W := fun _ => by kernel_rfl
    go_enter Try.func95, Try.ntmps95
    go_wp2
    all_goals
      go_ret
      exact ⟨rfl, rfl⟩
  · obtain ⟨c0, c1⟩ := h
    have heq : ∀ W : World, (binOp .eql 106 (.map none) (.map none)).run Try.prog W = .ok (.bool true) W := fun _ => by kernel_rfl
    go_enter Try.func95, Try.ntmps95
    go_wp2
    all_goals
      go_ret
      exact ⟨rfl, rfl⟩

set_option maxRecDepth 100000 in
set_option maxHeartbeats 1000000 in
theorem att_any (w : World) (p : Value) (k : Int) (h : Nob w p) :
    Calls Try.prog 93 #[p, .int .i64 k] w fun e w' => e = .returned (.tuple #[.pointer none, .int .i64 1]) ∧ w = w' := by
  have H := Hd.mk h
  clear h
  go_enter Try.func93, Try.ntmps93
  go_wp2_with (first
    | (go_at_call 95; refine (none_any _ _ (H.out.below (by repeat (first | exact Below.refl _ _ | apply Bl.alloc | apply Bl.drewN | apply Bl.drew)))).mono ?_; rintro e w' ⟨rfl, rfl⟩))
  all_goals
    go_ret2
    exact ⟨rfl, rfl⟩
set_option maxRecDepth 100000 in
set_option maxHeartbeats 1000000 in
theorem came_any (w : World) (p : Value) (k n : Int) (h : Nob w p) :
    Calls Try.prog 48 #[p, .int .i64 k, .int .i64 n] w fun e w' => e = .returned (.tuple #[.bool false, .int .i64 1]) ∧ w = w' := by
  have H := Hd.mk h
  clear h
  go_enter Try.func48, Try.ntmps48
  go_wp2_with (first
    | (go_at_call 95; refine (none_any _ _ (H.out.below (by repeat (first | exact Below.refl _ _ | apply Bl.alloc | apply Bl.drewN | apply Bl.drew)))).mono ?_; rintro e w' ⟨rfl, rfl⟩)
    | (go_at_call 93; refine (att_any _ _ _ (H.out.below (by repeat (first | exact Below.refl _ _ | apply Bl.alloc | apply Bl.drewN | apply Bl.drew)))).mono ?_; rintro e w' ⟨rfl, rfl⟩))
  all_goals
    go_ret2
    exact ⟨rfl, rfl⟩
set_option maxRecDepth 100000 in
set_option maxHeartbeats 1000000 in
theorem answer_any (w : World) (p : Value) (d0 d1 d2 d3 d4 d5 d6 d7 : Int) (h : Nob w p) :
    Calls Try.prog 51 #[p, .agg #[.int .u8 d0, .int .u8 d1, .int .u8 d2, .int .u8 d3, .int .u8 d4, .int .u8 d5, .int .u8 d6, .int .u8 d7]] w fun e w' => e = .returned (.tuple #[.int .i64 0, .bool false]) ∧ Below w.heap.size w w' := by
  rcases h with rfl | ⟨g, rfl, h⟩
  · have H : Hd (Nob w (.pointer none)) := ⟨.inl rfl⟩
    go_enter Try.func51, Try.ntmps51
    go_wp2_with (first
    | (go_at_call 95; refine (none_any _ _ (H.out.below (by repeat (first | exact Below.refl _ _ | apply Bl.alloc | apply Bl.drewN | apply Bl.drew)))).mono ?_; rintro e w' ⟨rfl, rfl⟩))
    all_goals
      go_ret2
      exact ⟨rfl, by repeat (first | exact Below.refl _ _ | apply Bl.alloc | apply Bl.drewN | apply Bl.drew)⟩
  · have H : Hd (Nob w (.pointer (some ⟨g, 0, none⟩))) := ⟨.inr ⟨g, rfl, h⟩⟩
    clear h
    go_enter Try.func51, Try.ntmps51
    go_wp2_with (first
    | (go_at_call 95; refine (none_any _ _ (H.out.below (by repeat (first | exact Below.refl _ _ | apply Bl.alloc | apply Bl.drewN | apply Bl.drew)))).mono ?_; rintro e w' ⟨rfl, rfl⟩))
    all_goals
      go_ret2
      exact ⟨rfl, by repeat (first | exact Below.refl _ _ | apply Bl.alloc | apply Bl.drewN | apply Bl.drew)⟩
set_option maxRecDepth 100000 in
set_option maxHeartbeats 1000000 in
theorem due_any (w : World) (p : Value)  (h : Nob w p) :
    Calls Try.prog 53 #[p] w fun e w' => e = .returned (.tuple #[.int .i64 0, .bool false]) ∧ w = w' := by
  have H := Hd.mk h
  clear h
  go_enter Try.func53, Try.ntmps53
  go_wp2_with (first
    | (go_at_call 95; refine (none_any _ _ (H.out.below (by repeat (first | exact Below.refl _ _ | apply Bl.alloc | apply Bl.drewN | apply Bl.drew)))).mono ?_; rintro e w' ⟨rfl, rfl⟩))
  all_goals
    go_ret2
    exact ⟨rfl, rfl⟩
set_option maxRecDepth 100000 in
set_option maxHeartbeats 1000000 in
theorem use_any (w : World) (p : Value) (k : Int) (h : Nob w p) :
    Calls Try.prog 54 #[p, .int .i64 k] w fun e w' => e = .returned (.tuple #[.int .i64 0, .int .i64 1]) ∧ w = w' := by
  have H := Hd.mk h
  clear h
  go_enter Try.func54, Try.ntmps54
  go_wp2_with (first
    | (go_at_call 95; refine (none_any _ _ (H.out.below (by repeat (first | exact Below.refl _ _ | apply Bl.alloc | apply Bl.drewN | apply Bl.drew)))).mono ?_; rintro e w' ⟨rfl, rfl⟩)
    | (go_at_call 93; refine (att_any _ _ _ (H.out.below (by repeat (first | exact Below.refl _ _ | apply Bl.alloc | apply Bl.drewN | apply Bl.drew)))).mono ?_; rintro e w' ⟨rfl, rfl⟩))
  all_goals
    go_ret2
    exact ⟨rfl, rfl⟩
set_option maxRecDepth 100000 in
set_option maxHeartbeats 1000000 in
theorem told_any (w : World) (p : Value)  (h : Nob w p) :
    Calls Try.prog 52 #[p] w fun e w' => e = .returned (.tuple #[.int .i64 0, .bool false, .int .i64 0]) ∧ w = w' := by
  have H := Hd.mk h
  clear h
  go_enter Try.func52, Try.ntmps52
  go_wp2_with (first
    | (go_at_call 95; refine (none_any _ _ (H.out.below (by repeat (first | exact Below.refl _ _ | apply Bl.alloc | apply Bl.drewN | apply Bl.drew)))).mono ?_; rintro e w' ⟨rfl, rfl⟩))
  all_goals
    go_ret3
    exact ⟨rfl, rfl⟩
set_option maxRecDepth 100000 in
set_option maxHeartbeats 1000000 in
theorem may_any (w : World) (p : Value) (k : Int) (h : Nob w p) :
    Calls Try.prog 47 #[p, .int .i64 k] w fun e w' => e = .returned (.int .i64 0) ∧ w = w' := by
  have H := Hd.mk h
  clear h
  go_enter Try.func47, Try.ntmps47
  go_wp2_with (first
    | (go_at_call 95; refine (none_any _ _ (H.out.below (by repeat (first | exact Below.refl _ _ | apply Bl.alloc | apply Bl.drewN | apply Bl.drew)))).mono ?_; rintro e w' ⟨rfl, rfl⟩)
    | (go_at_call 93; refine (att_any _ _ _ (H.out.below (by repeat (first | exact Below.refl _ _ | apply Bl.alloc | apply Bl.drewN | apply Bl.drew)))).mono ?_; rintro e w' ⟨rfl, rfl⟩))
  all_goals
    go_ret
    exact ⟨rfl, rfl⟩
set_option maxRecDepth 100000 in
set_option maxHeartbeats 1000000 in
theorem sent_any (w : World) (p : Value) (k n : Int) (h : Nob w p) :
    Calls Try.prog 49 #[p, .int .i64 k, .int .i64 n] w fun e w' => e = .returned (.int .i64 1) ∧ w = w' := by
  have H := Hd.mk h
  clear h
  go_enter Try.func49, Try.ntmps49
  go_wp2_with (first
    | (go_at_call 95; refine (none_any _ _ (H.out.below (by repeat (first | exact Below.refl _ _ | apply Bl.alloc | apply Bl.drewN | apply Bl.drew)))).mono ?_; rintro e w' ⟨rfl, rfl⟩)
    | (go_at_call 93; refine (att_any _ _ _ (H.out.below (by repeat (first | exact Below.refl _ _ | apply Bl.alloc | apply Bl.drewN | apply Bl.drew)))).mono ?_; rintro e w' ⟨rfl, rfl⟩))
  all_goals
    go_ret
    exact ⟨rfl, rfl⟩
set_option maxRecDepth 100000 in
set_option maxHeartbeats 1000000 in
theorem ask_any (w : World) (p : Value) (k : Int) (d0 d1 d2 d3 d4 d5 d6 d7 : Int) (n : Int) (h : Nob w p) :
    Calls Try.prog 50 #[p, .int .i64 k, .agg #[.int .u8 d0, .int .u8 d1, .int .u8 d2, .int .u8 d3, .int .u8 d4, .int .u8 d5, .int .u8 d6, .int .u8 d7], .int .i64 n] w fun e w' => e = .returned (.int .i64 1) ∧ Below w.heap.size w w' := by
  rcases h with rfl | ⟨g, rfl, h⟩
  · have H : Hd (Nob w (.pointer none)) := ⟨.inl rfl⟩
    go_enter Try.func50, Try.ntmps50
    go_wp2_with (first
    | (go_at_call 95; refine (none_any _ _ (H.out.below (by repeat (first | exact Below.refl _ _ | apply Bl.alloc | apply Bl.drewN | apply Bl.drew)))).mono ?_; rintro e w' ⟨rfl, rfl⟩)
    | (go_at_call 93; refine (att_any _ _ _ (H.out.below (by repeat (first | exact Below.refl _ _ | apply Bl.alloc | apply Bl.drewN | apply Bl.drew)))).mono ?_; rintro e w' ⟨rfl, rfl⟩))
    all_goals
      go_ret
      exact ⟨rfl, by repeat (first | exact Below.refl _ _ | apply Bl.alloc | apply Bl.drewN | apply Bl.drew)⟩
  · have H : Hd (Nob w (.pointer (some ⟨g, 0, none⟩))) := ⟨.inr ⟨g, rfl, h⟩⟩
    clear h
    go_enter Try.func50, Try.ntmps50
    go_wp2_with (first
    | (go_at_call 95; refine (none_any _ _ (H.out.below (by repeat (first | exact Below.refl _ _ | apply Bl.alloc | apply Bl.drewN | apply Bl.drew)))).mono ?_; rintro e w' ⟨rfl, rfl⟩)
    | (go_at_call 93; refine (att_any _ _ _ (H.out.below (by repeat (first | exact Below.refl _ _ | apply Bl.alloc | apply Bl.drewN | apply Bl.drew)))).mono ?_; rintro e w' ⟨rfl, rfl⟩))
    all_goals
      go_ret
      exact ⟨rfl, by repeat (first | exact Below.refl _ _ | apply Bl.alloc | apply Bl.drewN | apply Bl.drew)⟩
set_option maxRecDepth 100000 in
set_option maxHeartbeats 1000000 in
theorem pass_any (w : World) (p : Value) (n : Int) (h : Nob w p) :
    Calls Try.prog 55 #[p, .int .i64 n] w fun e w' => e = .returned (.slice none 0 0) ∧ Below w.heap.size w w' := by
  rcases h with rfl | ⟨g, rfl, h⟩
  · have H : Hd (Nob w (.pointer none)) := ⟨.inl rfl⟩
    go_enter Try.func55, Try.ntmps55
    go_wp2_with (first
    | (go_at_call 95; refine (none_any _ _ (H.out.below (by repeat (first | exact Below.refl _ _ | apply Bl.alloc | apply Bl.drewN | apply Bl.drew)))).mono ?_; rintro e w' ⟨rfl, rfl⟩))
    all_goals
      go_ret
      exact ⟨rfl, by repeat (first | exact Below.refl _ _ | apply Bl.alloc | apply Bl.drewN | apply Bl.drew)⟩
  · have H : Hd (Nob w (.pointer (some ⟨g, 0, none⟩))) := ⟨.inr ⟨g, rfl, h⟩⟩
    clear h
    go_enter Try.func55, Try.ntmps55
    go_wp2_with (first
    | (go_at_call 95; refine (none_any _ _ (H.out.below (by repeat (first | exact Below.refl _ _ | apply Bl.alloc | apply Bl.drewN | apply Bl.drew)))).mono ?_; rintro e w' ⟨rfl, rfl⟩))
    all_goals
      go_ret
      exact ⟨rfl, by repeat (first | exact Below.refl _ _ | apply Bl.alloc | apply Bl.drewN | apply Bl.drew)⟩
set_option maxRecDepth 100000 in
set_option maxHeartbeats 1000000 in
theorem valid_any (w : World) (p : Value) (k : Int) (h : Nob w p) :
    Calls Try.prog 56 #[p, .int .i64 k] w fun e w' => e = .returned (.int .i64 1) ∧ w = w' := by
  have H := Hd.mk h
  clear h
  go_enter Try.func56, Try.ntmps56
  go_wp2_with (first
    | (go_at_call 95; refine (none_any _ _ (H.out.below (by repeat (first | exact Below.refl _ _ | apply Bl.alloc | apply Bl.drewN | apply Bl.drew)))).mono ?_; rintro e w' ⟨rfl, rfl⟩)
    | (go_at_call 93; refine (att_any _ _ _ (H.out.below (by repeat (first | exact Below.refl _ _ | apply Bl.alloc | apply Bl.drewN | apply Bl.drew)))).mono ?_; rintro e w' ⟨rfl, rfl⟩))
  all_goals
    go_ret
    exact ⟨rfl, rfl⟩
/-- What the law's loop rests on. -/
structure Base (w : World) (s z r : Nat) (k : Int) (y : Int) (n : Int) (d0 : Int) (d1 : Int) (d2 : Int) (d3 : Int) (d4 : Int) (d5 : Int) (d6 : Int) (d7 : Int) : Prop where
  a0 : w.cell? ⟨s, 0, none⟩ = some (.int .i64 k)
  a1 : w.cell? ⟨s, 1, none⟩ = some (.int .i64 y)
  a2 : w.cell? ⟨s, 2, none⟩ = some (.int .i64 n)
  a3 : w.cell? ⟨s, 3, none⟩ = some (.int .u8 d0)
  a4 : w.cell? ⟨s, 4, none⟩ = some (.int .u8 d1)
  a5 : w.cell? ⟨s, 5, none⟩ = some (.int .u8 d2)
  a6 : w.cell? ⟨s, 6, none⟩ = some (.int .u8 d3)
  a7 : w.cell? ⟨s, 7, none⟩ = some (.int .u8 d4)
  a8 : w.cell? ⟨s, 8, none⟩ = some (.int .u8 d5)
  a9 : w.cell? ⟨s, 9, none⟩ = some (.int .u8 d6)
  a10 : w.cell? ⟨s, 10, none⟩ = some (.int .u8 d7)
  z0 : Zero w z
  r0 : w.cell? ⟨r, 0, none⟩ = some (.pointer none)
  r1 : w.cell? ⟨r, 1, none⟩ = some (.pointer (some ⟨z, 0, none⟩))
theorem Base.below {w w' : World} {s z r : Nat} {k : Int} {y : Int} {n : Int} {d0 : Int} {d1 : Int} {d2 : Int} {d3 : Int} {d4 : Int} {d5 : Int} {d6 : Int} {d7 : Int} (h : Base w s z r k y n d0 d1 d2 d3 d4 d5 d6 d7) (hb : Below w.heap.size w w') : Base w' s z r k y n d0 d1 d2 d3 d4 d5 d6 d7 :=
  ⟨Bl.cell hb h.a0, Bl.cell hb h.a1, Bl.cell hb h.a2, Bl.cell hb h.a3, Bl.cell hb h.a4, Bl.cell hb h.a5, Bl.cell hb h.a6, Bl.cell hb h.a7, Bl.cell hb h.a8, Bl.cell hb h.a9, Bl.cell hb h.a10, h.z0.below hb, Bl.cell hb h.r0, Bl.cell hb h.r1⟩
def Rel (w : World) (k : Int) (y : Int) (n : Int) (d0 : Int) (d1 : Int) (d2 : Int) (d3 : Int) (d4 : Int) (d5 : Int) (d6 : Int) (d7 : Int) (i : Value) (W : World) : Prop :=
  ∃ j : Nat, j ≤ 2 ∧ i = .int .i64 j ∧ Below w.heap.size w W ∧ Base W w.heap.size (w.heap.size + 1) (w.heap.size + 2) k y n d0 d1 d2 d3 d4 d5 d6 d7
set_option maxRecDepth 100000 in
set_option maxHeartbeats 2000000 in
theorem nobody_walk (k : Int) (y : Int) (n : Int) (d0 : Int) (d1 : Int) (d2 : Int) (d3 : Int) (d4 : Int) (d5 : Int) (d6 : Int) (d7 : Int) (w : World) :
    Calls Try.prog 12 #[.agg #[.int .i64 k, .int .i64 y, .int .i64 n, .int .u8 d0, .int .u8 d1, .int .u8 d2, .int .u8 d3, .int .u8 d4, .int .u8 d5, .int .u8 d6, .int .u8 d7]] w fun e w' => e = .returned (.bool true) ∧ Below w.heap.size w w' := by
  go_enter Try.func12, Try.ntmps12
  go_wp2
  go_loopw [20] (fun i W => Rel w k y n d0 d1 d2 d3 d4 d5 d6 d7 i W) (fun i _ => 2 - (intOf i).toNat)
  case atStart =>
    refine ⟨0, by omega, rfl, by repeat (first | exact Below.refl _ _ | apply Bl.alloc | apply Bl.drewN | apply Bl.drew), ?_⟩
    constructor
    all_goals first | (constructor <;> go_simp) | go_simp
  case round =>
    obtain ⟨j, hj, rfl, hB, hbase⟩ := hrel
    have HB := Hd.mk hB
    have HBase := Hd.mk hbase
    obtain ⟨a0, a1, a2, a3, a4, a5, a6, a7, a8, a9, a10, z0, r0, r1⟩ := hbase
    clear hB
    have cj : j = 0 ∨ j = 1 ∨ j = 2 := by omega
    rcases cj with rfl | rfl | rfl
    · go_wp2_with (first
        | (go_at_call 48; refine (came_any _ _ _ _ (.inl rfl)).mono ?_; rintro e w' ⟨rfl, rfl⟩)
        | (go_at_call 51; refine (answer_any _ _ _ _ _ _ _ _ _ _ (.inl rfl)).mono ?_; rintro e w1 ⟨rfl, hb⟩; have n0 := Hd.mk (HBase.out.below hb); have n1 := Hd.mk (Bl.then HB.out hb); clear HBase HB a0 a1 a2 a3 a4 a5 a6 a7 a8 a9 a10 z0 r0 r1; have HBase := n0; have HB := n1; clear n0 n1 hb; obtain ⟨a0, a1, a2, a3, a4, a5, a6, a7, a8, a9, a10, z0, r0, r1⟩ := HBase.out)
        | (go_at_call 53; refine (due_any _ _  (.inl rfl)).mono ?_; rintro e w' ⟨rfl, rfl⟩)
        | (go_at_call 54; refine (use_any _ _ _ (.inl rfl)).mono ?_; rintro e w' ⟨rfl, rfl⟩)
        | (go_at_call 52; refine (told_any _ _  (.inl rfl)).mono ?_; rintro e w' ⟨rfl, rfl⟩)
        | (go_at_call 47; refine (may_any _ _ _ (.inl rfl)).mono ?_; rintro e w' ⟨rfl, rfl⟩)
        | (go_at_call 49; refine (sent_any _ _ _ _ (.inl rfl)).mono ?_; rintro e w' ⟨rfl, rfl⟩)
        | (go_at_call 50; refine (ask_any _ _ _ _ _ _ _ _ _ _ _ _ (.inl rfl)).mono ?_; rintro e w1 ⟨rfl, hb⟩; have n0 := Hd.mk (HBase.out.below hb); have n1 := Hd.mk (Bl.then HB.out hb); clear HBase HB a0 a1 a2 a3 a4 a5 a6 a7 a8 a9 a10 z0 r0 r1; have HBase := n0; have HB := n1; clear n0 n1 hb; obtain ⟨a0, a1, a2, a3, a4, a5, a6, a7, a8, a9, a10, z0, r0, r1⟩ := HBase.out)
        | (go_at_call 55; refine (pass_any _ _ _ (.inl rfl)).mono ?_; rintro e w1 ⟨rfl, hb⟩; have n0 := Hd.mk (HBase.out.below hb); have n1 := Hd.mk (Bl.then HB.out hb); clear HBase HB a0 a1 a2 a3 a4 a5 a6 a7 a8 a9 a10 z0 r0 r1; have HBase := n0; have HB := n1; clear n0 n1 hb; obtain ⟨a0, a1, a2, a3, a4, a5, a6, a7, a8, a9, a10, z0, r0, r1⟩ := HBase.out)
        | (go_at_call 56; refine (valid_any _ _ _ (.inl rfl)).mono ?_; rintro e w' ⟨rfl, rfl⟩))
      go_roundw
      case rel => exact ⟨1, by omega, rfl, HB.out, HBase.out⟩
      case measure => simp [intOf]
    · go_wp2_with (first
        | (go_at_call 48; refine (came_any _ _ _ _ (.inr ⟨_, rfl, HBase.out.z0⟩)).mono ?_; rintro e w' ⟨rfl, rfl⟩)
        | (go_at_call 51; refine (answer_any _ _ _ _ _ _ _ _ _ _ (.inr ⟨_, rfl, HBase.out.z0⟩)).mono ?_; rintro e w1 ⟨rfl, hb⟩; have n0 := Hd.mk (HBase.out.below hb); have n1 := Hd.mk (Bl.then HB.out hb); clear HBase HB a0 a1 a2 a3 a4 a5 a6 a7 a8 a9 a10 z0 r0 r1; have HBase := n0; have HB := n1; clear n0 n1 hb; obtain ⟨a0, a1, a2, a3, a4, a5, a6, a7, a8, a9, a10, z0, r0, r1⟩ := HBase.out)
        | (go_at_call 53; refine (due_any _ _  (.inr ⟨_, rfl, HBase.out.z0⟩)).mono ?_; rintro e w' ⟨rfl, rfl⟩)
        | (go_at_call 54; refine (use_any _ _ _ (.inr ⟨_, rfl, HBase.out.z0⟩)).mono ?_; rintro e w' ⟨rfl, rfl⟩)
        | (go_at_call 52; refine (told_any _ _  (.inr ⟨_, rfl, HBase.out.z0⟩)).mono ?_; rintro e w' ⟨rfl, rfl⟩)
        | (go_at_call 47; refine (may_any _ _ _ (.inr ⟨_, rfl, HBase.out.z0⟩)).mono ?_; rintro e w' ⟨rfl, rfl⟩)
        | (go_at_call 49; refine (sent_any _ _ _ _ (.inr ⟨_, rfl, HBase.out.z0⟩)).mono ?_; rintro e w' ⟨rfl, rfl⟩)
        | (go_at_call 50; refine (ask_any _ _ _ _ _ _ _ _ _ _ _ _ (.inr ⟨_, rfl, HBase.out.z0⟩)).mono ?_; rintro e w1 ⟨rfl, hb⟩; have n0 := Hd.mk (HBase.out.below hb); have n1 := Hd.mk (Bl.then HB.out hb); clear HBase HB a0 a1 a2 a3 a4 a5 a6 a7 a8 a9 a10 z0 r0 r1; have HBase := n0; have HB := n1; clear n0 n1 hb; obtain ⟨a0, a1, a2, a3, a4, a5, a6, a7, a8, a9, a10, z0, r0, r1⟩ := HBase.out)
        | (go_at_call 55; refine (pass_any _ _ _ (.inr ⟨_, rfl, HBase.out.z0⟩)).mono ?_; rintro e w1 ⟨rfl, hb⟩; have n0 := Hd.mk (HBase.out.below hb); have n1 := Hd.mk (Bl.then HB.out hb); clear HBase HB a0 a1 a2 a3 a4 a5 a6 a7 a8 a9 a10 z0 r0 r1; have HBase := n0; have HB := n1; clear n0 n1 hb; obtain ⟨a0, a1, a2, a3, a4, a5, a6, a7, a8, a9, a10, z0, r0, r1⟩ := HBase.out)
        | (go_at_call 56; refine (valid_any _ _ _ (.inr ⟨_, rfl, HBase.out.z0⟩)).mono ?_; rintro e w' ⟨rfl, rfl⟩))
      go_roundw
      case rel => exact ⟨2, by omega, rfl, HB.out, HBase.out⟩
      case measure => simp [intOf]
    · go_wp2
      go_ret
      exact ⟨rfl, HB.out⟩
end Go.Proofs.Ytakmcbakogjeeaa.PaN
