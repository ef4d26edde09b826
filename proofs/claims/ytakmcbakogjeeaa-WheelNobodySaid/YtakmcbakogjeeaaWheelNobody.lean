/- The walks of the calls on what no call made (caravel/caravellaw25.WheelNobody); no condition. -/
import Derived.Test.YtakmcbakogjeeaaChecked
import Derived.Test.YtakmcbakogjeeaaMin
set_option linter.unusedVariables false
set_option linter.unusedSimpArgs false
namespace Go.Proofs.Ytakmcbakogjeeaa.WhN
open Go.RowKit

/-- No call made it: all fields zero. -/
structure Zero (w : World) (g : Nat) : Prop where
  c0 : w.cell? ⟨g, 0, none⟩ = some (.bool false)
theorem Zero.below {w w' : World} {g : Nat} (h : Zero w g) (hb : Below w.heap.size w w') : Zero w' g :=
  ⟨Bl.cell hb h.c0⟩
def Nob (w : World) (p : Value) : Prop := p = .pointer none ∨ ∃ g, p = .pointer (some ⟨g, 0, none⟩) ∧ Zero w g
theorem Nob.below {w w' : World} {p : Value} (h : Nob w p) (hb : Below w.heap.size w w') : Nob w' p := by
  rcases h with rfl | ⟨g, rfl, h⟩
  · exact .inl rfl
  · exact .inr ⟨g, rfl, h.below hb⟩
set_option maxRecDepth 100000 in
set_option maxHeartbeats 2000000 in
theorem none_any (w : World) (p : Value) (h : Nob w p) : Calls Try.prog 82 #[p] w fun e w' => e = .returned (.bool true) ∧ w = w' := by
  rcases h with rfl | ⟨g, rfl, h⟩
  · go_enter Try.func82, Try.ntmps82
    go_wp2
    all_goals
      go_ret
      exact ⟨rfl, rfl⟩
  · obtain ⟨c0⟩ := h
    go_enter Try.func82, Try.ntmps82
    go_wp2
    all_goals
      go_ret
      exact ⟨rfl, rfl⟩

set_option maxRecDepth 100000 in
set_option maxHeartbeats 1000000 in
theorem pass_any (w : World) (p : Value) (n : Int) (h : Nob w p) :
    Calls Try.prog 37 #[p, .int .i64 n] w fun e w' => e = .returned (.tuple #[.slice none 0 0, .int .i64 1]) ∧ Below w.heap.size w w' := by
  rcases h with rfl | ⟨g, rfl, h⟩
  · have H : Hd (Nob w (.pointer none)) := ⟨.inl rfl⟩
    go_enter Try.func37, Try.ntmps37
    go_wp2_with (first
    | (go_at_call 82; refine (none_any _ _ (H.out.below (by repeat (first | exact Below.refl _ _ | apply Bl.alloc | apply Bl.drewN | apply Bl.drew)))).mono ?_; rintro e w' ⟨rfl, rfl⟩))
    all_goals
      go_ret2
      exact ⟨rfl, by repeat (first | exact Below.refl _ _ | apply Bl.alloc | apply Bl.drewN | apply Bl.drew)⟩
  · have H : Hd (Nob w (.pointer (some ⟨g, 0, none⟩))) := ⟨.inr ⟨g, rfl, h⟩⟩
    clear h
    go_enter Try.func37, Try.ntmps37
    go_wp2_with (first
    | (go_at_call 82; refine (none_any _ _ (H.out.below (by repeat (first | exact Below.refl _ _ | apply Bl.alloc | apply Bl.drewN | apply Bl.drew)))).mono ?_; rintro e w' ⟨rfl, rfl⟩))
    all_goals
      go_ret2
      exact ⟨rfl, by repeat (first | exact Below.refl _ _ | apply Bl.alloc | apply Bl.drewN | apply Bl.drew)⟩
set_option maxRecDepth 100000 in
set_option maxHeartbeats 1000000 in
theorem next_any (w : World) (p : Value)  (h : Nob w p) :
    Calls Try.prog 38 #[p] w fun e w' => e = .returned (.tuple #[.int .i64 0, .bool false]) ∧ w = w' := by
  have H := Hd.mk h
  clear h
  go_enter Try.func38, Try.ntmps38
  go_wp2_with (first
    | (go_at_call 82; refine (none_any _ _ (H.out.below (by repeat (first | exact Below.refl _ _ | apply Bl.alloc | apply Bl.drewN | apply Bl.drew)))).mono ?_; rintro e w' ⟨rfl, rfl⟩))
  all_goals
    go_ret2
    exact ⟨rfl, rfl⟩
set_option maxRecDepth 100000 in
set_option maxHeartbeats 1000000 in
theorem att_any (w : World) (p : Value) (k : Int) (h : Nob w p) :
    Calls Try.prog 35 #[p, .int .i64 k] w fun e w' => e = .returned (.tuple #[.int .i64 0, .bool false]) ∧ w = w' := by
  have H := Hd.mk h
  clear h
  go_enter Try.func35, Try.ntmps35
  go_wp2_with (first
    | (go_at_call 82; refine (none_any _ _ (H.out.below (by repeat (first | exact Below.refl _ _ | apply Bl.alloc | apply Bl.drewN | apply Bl.drew)))).mono ?_; rintro e w' ⟨rfl, rfl⟩))
  all_goals
    go_ret2
    exact ⟨rfl, rfl⟩
set_option maxRecDepth 100000 in
set_option maxHeartbeats 1000000 in
theorem set_any (w : World) (p : Value) (k n : Int) (h : Nob w p) :
    Calls Try.prog 33 #[p, .int .i64 k, .int .i64 n] w fun e w' => e = .returned (.int .i64 1) ∧ Below w.heap.size w w' := by
  rcases h with rfl | ⟨g, rfl, h⟩
  · have H : Hd (Nob w (.pointer none)) := ⟨.inl rfl⟩
    go_enter Try.func33, Try.ntmps33
    go_wp2_with (first
    | (go_at_call 82; refine (none_any _ _ (H.out.below (by repeat (first | exact Below.refl _ _ | apply Bl.alloc | apply Bl.drewN | apply Bl.drew)))).mono ?_; rintro e w' ⟨rfl, rfl⟩))
    all_goals
      go_ret
      exact ⟨rfl, by repeat (first | exact Below.refl _ _ | apply Bl.alloc | apply Bl.drewN | apply Bl.drew)⟩
  · have H : Hd (Nob w (.pointer (some ⟨g, 0, none⟩))) := ⟨.inr ⟨g, rfl, h⟩⟩
    clear h
    go_enter Try.func33, Try.ntmps33
    go_wp2_with (first
    | (go_at_call 82; refine (none_any _ _ (H.out.below (by repeat (first | exact Below.refl _ _ | apply Bl.alloc | apply Bl.drewN | apply Bl.drew)))).mono ?_; rintro e w' ⟨rfl, rfl⟩))
    all_goals
      go_ret
      exact ⟨rfl, by repeat (first | exact Below.refl _ _ | apply Bl.alloc | apply Bl.drewN | apply Bl.drew)⟩
set_option maxRecDepth 100000 in
set_option maxHeartbeats 1000000 in
theorem stop_any (w : World) (p : Value) (k : Int) (h : Nob w p) :
    Calls Try.prog 36 #[p, .int .i64 k] w fun e w' => e = .returned (.bool false) ∧ Below w.heap.size w w' := by
  rcases h with rfl | ⟨g, rfl, h⟩
  · have H : Hd (Nob w (.pointer none)) := ⟨.inl rfl⟩
    go_enter Try.func36, Try.ntmps36
    go_wp2_with (first
    | (go_at_call 82; refine (none_any _ _ (H.out.below (by repeat (first | exact Below.refl _ _ | apply Bl.alloc | apply Bl.drewN | apply Bl.drew)))).mono ?_; rintro e w' ⟨rfl, rfl⟩)
    | (go_at_call 35; refine (att_any _ _ _ (H.out.below (by repeat (first | exact Below.refl _ _ | apply Bl.alloc | apply Bl.drewN | apply Bl.drew)))).mono ?_; rintro e w' ⟨rfl, rfl⟩))
    all_goals
      go_ret
      exact ⟨rfl, by repeat (first | exact Below.refl _ _ | apply Bl.alloc | apply Bl.drewN | apply Bl.drew)⟩
  · have H : Hd (Nob w (.pointer (some ⟨g, 0, none⟩))) := ⟨.inr ⟨g, rfl, h⟩⟩
    clear h
    go_enter Try.func36, Try.ntmps36
    go_wp2_with (first
    | (go_at_call 82; refine (none_any _ _ (H.out.below (by repeat (first | exact Below.refl _ _ | apply Bl.alloc | apply Bl.drewN | apply Bl.drew)))).mono ?_; rintro e w' ⟨rfl, rfl⟩)
    | (go_at_call 35; refine (att_any _ _ _ (H.out.below (by repeat (first | exact Below.refl _ _ | apply Bl.alloc | apply Bl.drewN | apply Bl.drew)))).mono ?_; rintro e w' ⟨rfl, rfl⟩))
    all_goals
      go_ret
      exact ⟨rfl, by repeat (first | exact Below.refl _ _ | apply Bl.alloc | apply Bl.drewN | apply Bl.drew)⟩
set_option maxRecDepth 100000 in
set_option maxHeartbeats 1000000 in
theorem len_any (w : World) (p : Value)  (h : Nob w p) :
    Calls Try.prog 34 #[p] w fun e w' => e = .returned (.int .i64 0) ∧ w = w' := by
  have H := Hd.mk h
  clear h
  go_enter Try.func34, Try.ntmps34
  go_wp2_with (first
    | (go_at_call 82; refine (none_any _ _ (H.out.below (by repeat (first | exact Below.refl _ _ | apply Bl.alloc | apply Bl.drewN | apply Bl.drew)))).mono ?_; rintro e w' ⟨rfl, rfl⟩))
  all_goals
    go_ret
    exact ⟨rfl, rfl⟩
/-- What the law's loop rests on. -/
structure Base (w : World) (s z r : Nat) (k : Int) (y : Int) (n : Int) : Prop where
  a0 : w.cell? ⟨s, 0, none⟩ = some (.int .i64 k)
  a1 : w.cell? ⟨s, 1, none⟩ = some (.int .i64 y)
  a2 : w.cell? ⟨s, 2, none⟩ = some (.int .i64 n)
  z0 : Zero w z
  r0 : w.cell? ⟨r, 0, none⟩ = some (.pointer none)
  r1 : w.cell? ⟨r, 1, none⟩ = some (.pointer (some ⟨z, 0, none⟩))
theorem Base.below {w w' : World} {s z r : Nat} {k : Int} {y : Int} {n : Int} (h : Base w s z r k y n) (hb : Below w.heap.size w w') : Base w' s z r k y n :=
  ⟨Bl.cell hb h.a0, Bl.cell hb h.a1, Bl.cell hb h.a2, h.z0.below hb, Bl.cell hb h.r0, Bl.cell hb h.r1⟩
def Rel (w : World) (k : Int) (y : Int) (n : Int) (i : Value) (W : World) : Prop :=
  ∃ j : Nat, j ≤ 2 ∧ i = .int .i64 j ∧ Below w.heap.size w W ∧ Base W w.heap.size (w.heap.size + 1) (w.heap.size + 2) k y n
set_option maxRecDepth 100000 in
set_option maxHeartbeats 2000000 in
theorem nobody_walk (k : Int) (y : Int) (n : Int) (w : World) :
    Calls Try.prog 8 #[.agg #[.int .i64 k, .int .i64 y, .int .i64 n]] w fun e w' => e = .returned (.bool true) ∧ Below w.heap.size w w' := by
  go_enter Try.func8, Try.ntmps8
  go_wp2
  go_loopw [15] (fun i W => Rel w k y n i W) (fun i _ => 2 - (intOf i).toNat)
  case atStart =>
    refine ⟨0, by omega, rfl, by repeat (first | exact Below.refl _ _ | apply Bl.alloc | apply Bl.drewN | apply Bl.drew), ?_⟩
    constructor
    all_goals first | (go_simp; done) | (constructor; go_simp; kernel_rfl) | (constructor; go_simp; rfl)
  case round =>
    obtain ⟨j, hj, rfl, hB, hbase⟩ := hrel
    have HB := Hd.mk hB
    have HBase := Hd.mk hbase
    obtain ⟨a0, a1, a2, z0, r0, r1⟩ := hbase
    clear hB
    have cj : j = 0 ∨ j = 1 ∨ j = 2 := by omega
    rcases cj with rfl | rfl | rfl
    · go_wp2_with (first
        | (go_at_call 37; refine (pass_any _ _ _ (.inl rfl)).mono ?_; rintro e w1 ⟨rfl, hb⟩; have n0 := Hd.mk (HBase.out.below hb); have n1 := Hd.mk (Bl.then HB.out hb); clear HBase HB a0 a1 a2 z0 r0 r1; have HBase := n0; have HB := n1; clear n0 n1 hb; obtain ⟨a0, a1, a2, z0, r0, r1⟩ := HBase.out)
        | (go_at_call 38; refine (next_any _ _  (.inl rfl)).mono ?_; rintro e w' ⟨rfl, rfl⟩)
        | (go_at_call 35; refine (att_any _ _ _ (.inl rfl)).mono ?_; rintro e w' ⟨rfl, rfl⟩)
        | (go_at_call 33; refine (set_any _ _ _ _ (.inl rfl)).mono ?_; rintro e w1 ⟨rfl, hb⟩; have n0 := Hd.mk (HBase.out.below hb); have n1 := Hd.mk (Bl.then HB.out hb); clear HBase HB a0 a1 a2 z0 r0 r1; have HBase := n0; have HB := n1; clear n0 n1 hb; obtain ⟨a0, a1, a2, z0, r0, r1⟩ := HBase.out)
        | (go_at_call 36; refine (stop_any _ _ _ (.inl rfl)).mono ?_; rintro e w1 ⟨rfl, hb⟩; have n0 := Hd.mk (HBase.out.below hb); have n1 := Hd.mk (Bl.then HB.out hb); clear HBase HB a0 a1 a2 z0 r0 r1; have HBase := n0; have HB := n1; clear n0 n1 hb; obtain ⟨a0, a1, a2, z0, r0, r1⟩ := HBase.out)
        | (go_at_call 34; refine (len_any _ _  (.inl rfl)).mono ?_; rintro e w' ⟨rfl, rfl⟩))
      go_roundw
      case rel => exact ⟨1, by omega, rfl, HB.out, HBase.out⟩
      case measure => simp [intOf]
    · go_wp2_with (first
        | (go_at_call 37; refine (pass_any _ _ _ (.inr ⟨_, rfl, HBase.out.z0⟩)).mono ?_; rintro e w1 ⟨rfl, hb⟩; have n0 := Hd.mk (HBase.out.below hb); have n1 := Hd.mk (Bl.then HB.out hb); clear HBase HB a0 a1 a2 z0 r0 r1; have HBase := n0; have HB := n1; clear n0 n1 hb; obtain ⟨a0, a1, a2, z0, r0, r1⟩ := HBase.out)
        | (go_at_call 38; refine (next_any _ _  (.inr ⟨_, rfl, HBase.out.z0⟩)).mono ?_; rintro e w' ⟨rfl, rfl⟩)
        | (go_at_call 35; refine (att_any _ _ _ (.inr ⟨_, rfl, HBase.out.z0⟩)).mono ?_; rintro e w' ⟨rfl, rfl⟩)
        | (go_at_call 33; refine (set_any _ _ _ _ (.inr ⟨_, rfl, HBase.out.z0⟩)).mono ?_; rintro e w1 ⟨rfl, hb⟩; have n0 := Hd.mk (HBase.out.below hb); have n1 := Hd.mk (Bl.then HB.out hb); clear HBase HB a0 a1 a2 z0 r0 r1; have HBase := n0; have HB := n1; clear n0 n1 hb; obtain ⟨a0, a1, a2, z0, r0, r1⟩ := HBase.out)
        | (go_at_call 36; refine (stop_any _ _ _ (.inr ⟨_, rfl, HBase.out.z0⟩)).mono ?_; rintro e w1 ⟨rfl, hb⟩; have n0 := Hd.mk (HBase.out.below hb); have n1 := Hd.mk (Bl.then HB.out hb); clear HBase HB a0 a1 a2 z0 r0 r1; have HBase := n0; have HB := n1; clear n0 n1 hb; obtain ⟨a0, a1, a2, z0, r0, r1⟩ := HBase.out)
        | (go_at_call 34; refine (len_any _ _  (.inr ⟨_, rfl, HBase.out.z0⟩)).mono ?_; rintro e w' ⟨rfl, rfl⟩))
      go_roundw
      case rel => exact ⟨2, by omega, rfl, HB.out, HBase.out⟩
      case measure => simp [intOf]
    · go_wp2
      go_ret
      exact ⟨rfl, HB.out⟩
end Go.Proofs.Ytakmcbakogjeeaa.WhN
