/- The walks of the calls on what no call made (caravel/caravellaw06.InboxNobody); no condition. -/
import Derived.Test.YtakmcbakogjeeaaChecked
import Derived.Test.YtakmcbakogjeeaaMin
set_option linter.unusedVariables false
set_option linter.unusedSimpArgs false
namespace Go.Proofs.Ytakmcbakogjeeaa.InN
open Go.RowKit

/-- No call made it: all fields zero. -/
structure Zero (w : World) (g : Nat) : Prop where
  c0 : w.cell? ⟨g, 0, none⟩ = some (.bool false)
  c1 : w.cell? ⟨g, 1, none⟩ = some (.int .i64 0)
  c2 : w.cell? ⟨g, 2, none⟩ = some (.int .i64 0)
  c3 : w.cell? ⟨g, 3, none⟩ = some (.int .i64 0)
  c4 : w.cell? ⟨g, 4, none⟩ = some (.int .i64 0)
  c5 : w.cell? ⟨g, 5, none⟩ = some (.int .i64 0)
  c6 : w.cell? ⟨g, 6, none⟩ = some (.bool false)
  c7 : w.cell? ⟨g, 7, none⟩ = some (.map none)
theorem Zero.below {w w' : World} {g : Nat} (h : Zero w g) (hb : Below w.heap.size w w') : Zero w' g :=
  ⟨Bl.cell hb h.c0, Bl.cell hb h.c1, Bl.cell hb h.c2, Bl.cell hb h.c3, Bl.cell hb h.c4, Bl.cell hb h.c5, Bl.cell hb h.c6, Bl.cell hb h.c7⟩
def Nob (w : World) (p : Value) : Prop := p = .pointer none ∨ ∃ g, p = .pointer (some ⟨g, 0, none⟩) ∧ Zero w g
theorem Nob.below {w w' : World} {p : Value} (h : Nob w p) (hb : Below w.heap.size w w') : Nob w' p := by
  rcases h with rfl | ⟨g, rfl, h⟩
  · exact .inl rfl
  · exact .inr ⟨g, rfl, h.below hb⟩
set_option maxRecDepth 100000 in
set_option maxHeartbeats 2000000 in
theorem none_any (w : World) (p : Value) (h : Nob w p) : Calls Try.prog 74 #[p] w fun e w' => e = .returned (.bool true) ∧ w = w' := by
  rcases h with rfl | ⟨g, rfl, h⟩
  · go_enter Try.func74, Try.ntmps74
    go_wp2
    all_goals
      go_ret
      exact ⟨rfl, rfl⟩
  · obtain ⟨c0, c1, c2, c3, c4, c5, c6, c7⟩ := h
    go_enter Try.func74, Try.ntmps74
    go_wp2
    all_goals
      go_ret
      exact ⟨rfl, rfl⟩

set_option maxRecDepth 100000 in
set_option maxHeartbeats 1000000 in
theorem read_any (w : World) (p : Value) (n : Int) (h : Nob w p) :
    Calls Try.prog 20 #[p, .int .i64 n] w fun e w' => e = .returned (.tuple #[.slice none 0 0, .bool false]) ∧ w = w' := by
  have H := Hd.mk h
  clear h
  go_enter Try.func20, Try.ntmps20
  go_wp2_with (first
    | (go_at_call 74; refine (none_any _ _ (H.out.below (by repeat (first | exact Below.refl _ _ | apply Bl.alloc | apply Bl.drewN | apply Bl.drew)))).mono ?_; rintro e w' ⟨rfl, rfl⟩))
  all_goals
    go_ret2
    exact ⟨rfl, rfl⟩
set_option maxRecDepth 100000 in
set_option maxHeartbeats 1000000 in
theorem final_any (w : World) (p : Value)  (h : Nob w p) :
    Calls Try.prog 17 #[p] w fun e w' => e = .returned (.tuple #[.int .i64 0, .bool false]) ∧ w = w' := by
  have H := Hd.mk h
  clear h
  go_enter Try.func17, Try.ntmps17
  go_wp2_with (first
    | (go_at_call 74; refine (none_any _ _ (H.out.below (by repeat (first | exact Below.refl _ _ | apply Bl.alloc | apply Bl.drewN | apply Bl.drew)))).mono ?_; rintro e w' ⟨rfl, rfl⟩))
  all_goals
    go_ret2
    exact ⟨rfl, rfl⟩
set_option maxRecDepth 100000 in
set_option maxHeartbeats 1000000 in
theorem put_any (w : World) (p : Value) (x : Int) (aa : Option Addr) (n c : Nat) (b : Bool) (h : Nob w p) :
    Calls Try.prog 19 #[p, .int .i64 x, .slice aa n c, .bool b] w fun e w' => e = .returned (.int .i64 1) ∧ Below w.heap.size w w' := by
  rcases h with rfl | ⟨g, rfl, h⟩
  · have H : Hd (Nob w (.pointer none)) := ⟨.inl rfl⟩
    go_enter Try.func19, Try.ntmps19
    go_wp2_with (first
    | (go_at_call 74; refine (none_any _ _ (H.out.below (by repeat (first | exact Below.refl _ _ | apply Bl.alloc | apply Bl.drewN | apply Bl.drew)))).mono ?_; rintro e w' ⟨rfl, rfl⟩))
    all_goals
      go_ret
      exact ⟨rfl, by repeat (first | exact Below.refl _ _ | apply Bl.alloc | apply Bl.drewN | apply Bl.drew)⟩
  · have H : Hd (Nob w (.pointer (some ⟨g, 0, none⟩))) := ⟨.inr ⟨g, rfl, h⟩⟩
    clear h
    go_enter Try.func19, Try.ntmps19
    go_wp2_with (first
    | (go_at_call 74; refine (none_any _ _ (H.out.below (by repeat (first | exact Below.refl _ _ | apply Bl.alloc | apply Bl.drewN | apply Bl.drew)))).mono ?_; rintro e w' ⟨rfl, rfl⟩))
    all_goals
      go_ret
      exact ⟨rfl, by repeat (first | exact Below.refl _ _ | apply Bl.alloc | apply Bl.drewN | apply Bl.drew)⟩
set_option maxRecDepth 100000 in
set_option maxHeartbeats 1000000 in
theorem endd_any (w : World) (p : Value) (n : Int) (h : Nob w p) :
    Calls Try.prog 16 #[p, .int .i64 n] w fun e w' => e = .returned (.int .i64 1) ∧ w = w' := by
  have H := Hd.mk h
  clear h
  go_enter Try.func16, Try.ntmps16
  go_wp2_with (first
    | (go_at_call 74; refine (none_any _ _ (H.out.below (by repeat (first | exact Below.refl _ _ | apply Bl.alloc | apply Bl.drewN | apply Bl.drew)))).mono ?_; rintro e w' ⟨rfl, rfl⟩))
  all_goals
    go_ret
    exact ⟨rfl, rfl⟩
set_option maxRecDepth 100000 in
set_option maxHeartbeats 1000000 in
theorem grow_any (w : World) (p : Value) (n : Int) (h : Nob w p) :
    Calls Try.prog 23 #[p, .int .i64 n] w fun e w' => e = .returned (.int .i64 1) ∧ w = w' := by
  have H := Hd.mk h
  clear h
  go_enter Try.func23, Try.ntmps23
  go_wp2_with (first
    | (go_at_call 74; refine (none_any _ _ (H.out.below (by repeat (first | exact Below.refl _ _ | apply Bl.alloc | apply Bl.drewN | apply Bl.drew)))).mono ?_; rintro e w' ⟨rfl, rfl⟩))
  all_goals
    go_ret
    exact ⟨rfl, rfl⟩
set_option maxRecDepth 100000 in
set_option maxHeartbeats 1000000 in
theorem ready_any (w : World) (p : Value)  (h : Nob w p) :
    Calls Try.prog 24 #[p] w fun e w' => e = .returned (.int .i64 0) ∧ w = w' := by
  have H := Hd.mk h
  clear h
  go_enter Try.func24, Try.ntmps24
  go_wp2_with (first
    | (go_at_call 74; refine (none_any _ _ (H.out.below (by repeat (first | exact Below.refl _ _ | apply Bl.alloc | apply Bl.drewN | apply Bl.drew)))).mono ?_; rintro e w' ⟨rfl, rfl⟩))
  all_goals
    go_ret
    exact ⟨rfl, rfl⟩
set_option maxRecDepth 100000 in
set_option maxHeartbeats 1000000 in
theorem limit_any (w : World) (p : Value)  (h : Nob w p) :
    Calls Try.prog 22 #[p] w fun e w' => e = .returned (.int .i64 0) ∧ w = w' := by
  have H := Hd.mk h
  clear h
  go_enter Try.func22, Try.ntmps22
  go_wp2_with (first
    | (go_at_call 74; refine (none_any _ _ (H.out.below (by repeat (first | exact Below.refl _ _ | apply Bl.alloc | apply Bl.drewN | apply Bl.drew)))).mono ?_; rintro e w' ⟨rfl, rfl⟩))
  all_goals
    go_ret
    exact ⟨rfl, rfl⟩
set_option maxRecDepth 100000 in
set_option maxHeartbeats 1000000 in
theorem reach_any (w : World) (p : Value)  (h : Nob w p) :
    Calls Try.prog 18 #[p] w fun e w' => e = .returned (.int .i64 0) ∧ w = w' := by
  have H := Hd.mk h
  clear h
  go_enter Try.func18, Try.ntmps18
  go_wp2_with (first
    | (go_at_call 74; refine (none_any _ _ (H.out.below (by repeat (first | exact Below.refl _ _ | apply Bl.alloc | apply Bl.drewN | apply Bl.drew)))).mono ?_; rintro e w' ⟨rfl, rfl⟩))
  all_goals
    go_ret
    exact ⟨rfl, rfl⟩
set_option maxRecDepth 100000 in
set_option maxHeartbeats 1000000 in
theorem held_any (w : World) (p : Value)  (h : Nob w p) :
    Calls Try.prog 21 #[p] w fun e w' => e = .returned (.int .i64 0) ∧ w = w' := by
  have H := Hd.mk h
  clear h
  go_enter Try.func21, Try.ntmps21
  go_wp2_with (first
    | (go_at_call 74; refine (none_any _ _ (H.out.below (by repeat (first | exact Below.refl _ _ | apply Bl.alloc | apply Bl.drewN | apply Bl.drew)))).mono ?_; rintro e w' ⟨rfl, rfl⟩))
  all_goals
    go_ret
    exact ⟨rfl, rfl⟩
/-- What the law's loop rests on. -/
structure Base (w : World) (s z r : Nat) (k : Int) (o : Int) (aa : Option Addr) (dn : Nat) (dc : Nat) (b : Bool) (n : Int) : Prop where
  a0 : w.cell? ⟨s, 0, none⟩ = some (.int .i64 k)
  a1 : w.cell? ⟨s, 1, none⟩ = some (.int .i64 o)
  a2 : w.cell? ⟨s, 2, none⟩ = some (.slice aa dn dc)
  a3 : w.cell? ⟨s, 3, none⟩ = some (.bool b)
  a4 : w.cell? ⟨s, 4, none⟩ = some (.int .i64 n)
  z0 : Zero w z
  r0 : w.cell? ⟨r, 0, none⟩ = some (.pointer none)
  r1 : w.cell? ⟨r, 1, none⟩ = some (.pointer (some ⟨z, 0, none⟩))
theorem Base.below {w w' : World} {s z r : Nat} {k : Int} {o : Int} {aa : Option Addr} {dn : Nat} {dc : Nat} {b : Bool} {n : Int} (h : Base w s z r k o aa dn dc b n) (hb : Below w.heap.size w w') : Base w' s z r k o aa dn dc b n :=
  ⟨Bl.cell hb h.a0, Bl.cell hb h.a1, Bl.cell hb h.a2, Bl.cell hb h.a3, Bl.cell hb h.a4, h.z0.below hb, Bl.cell hb h.r0, Bl.cell hb h.r1⟩
def Rel (w : World) (k : Int) (o : Int) (aa : Option Addr) (dn : Nat) (dc : Nat) (b : Bool) (n : Int) (i : Value) (W : World) : Prop :=
  ∃ j : Nat, j ≤ 2 ∧ i = .int .i64 j ∧ Below w.heap.size w W ∧ Base W w.heap.size (w.heap.size + 1) (w.heap.size + 2) k o aa dn dc b n
set_option maxRecDepth 100000 in
set_option maxHeartbeats 2000000 in
theorem nobody_walk (k : Int) (o : Int) (aa : Option Addr) (dn : Nat) (dc : Nat) (b : Bool) (n : Int) (w : World) :
    Calls Try.prog 5 #[.agg #[.int .i64 k, .int .i64 o, .slice aa dn dc, .bool b, .int .i64 n]] w fun e w' => e = .returned (.bool true) ∧ Below w.heap.size w w' := by
  go_enter Try.func5, Try.ntmps5
  go_wp2
  go_loopw [13] (fun i W => Rel w k o aa dn dc b n i W) (fun i _ => 2 - (intOf i).toNat)
  case atStart =>
    refine ⟨0, by omega, rfl, by repeat (first | exact Below.refl _ _ | apply Bl.alloc | apply Bl.drewN | apply Bl.drew), ?_⟩
    constructor
    all_goals first | (constructor <;> go_simp) | go_simp
  case round =>
    obtain ⟨j, hj, rfl, hB, hbase⟩ := hrel
    have HB := Hd.mk hB
    have HBase := Hd.mk hbase
    obtain ⟨a0, a1, a2, a3, a4, z0, r0, r1⟩ := hbase
    clear hB
    have cj : j = 0 ∨ j = 1 ∨ j = 2 := by omega
    rcases cj with rfl | rfl | rfl
    · go_wp2_with (first
        | (go_at_call 20; refine (read_any _ _ _ (.inl rfl)).mono ?_; rintro e w' ⟨rfl, rfl⟩)
        | (go_at_call 17; refine (final_any _ _  (.inl rfl)).mono ?_; rintro e w' ⟨rfl, rfl⟩)
        | (go_at_call 19; refine (put_any _ _ _ _ _ _ _ (.inl rfl)).mono ?_; rintro e w1 ⟨rfl, hb⟩; have n0 := Hd.mk (HBase.out.below hb); have n1 := Hd.mk (Bl.then HB.out hb); clear HBase HB a0 a1 a2 a3 a4 z0 r0 r1; have HBase := n0; have HB := n1; clear n0 n1 hb; obtain ⟨a0, a1, a2, a3, a4, z0, r0, r1⟩ := HBase.out)
        | (go_at_call 16; refine (endd_any _ _ _ (.inl rfl)).mono ?_; rintro e w' ⟨rfl, rfl⟩)
        | (go_at_call 23; refine (grow_any _ _ _ (.inl rfl)).mono ?_; rintro e w' ⟨rfl, rfl⟩)
        | (go_at_call 24; refine (ready_any _ _  (.inl rfl)).mono ?_; rintro e w' ⟨rfl, rfl⟩)
        | (go_at_call 22; refine (limit_any _ _  (.inl rfl)).mono ?_; rintro e w' ⟨rfl, rfl⟩)
        | (go_at_call 18; refine (reach_any _ _  (.inl rfl)).mono ?_; rintro e w' ⟨rfl, rfl⟩)
        | (go_at_call 21; refine (held_any _ _  (.inl rfl)).mono ?_; rintro e w' ⟨rfl, rfl⟩))
      go_roundw
      case rel => exact ⟨1, by omega, rfl, HB.out, HBase.out⟩
      case measure => simp [intOf]
    · go_wp2_with (first
        | (go_at_call 20; refine (read_any _ _ _ (.inr ⟨_, rfl, HBase.out.z0⟩)).mono ?_; rintro e w' ⟨rfl, rfl⟩)
        | (go_at_call 17; refine (final_any _ _  (.inr ⟨_, rfl, HBase.out.z0⟩)).mono ?_; rintro e w' ⟨rfl, rfl⟩)
        | (go_at_call 19; refine (put_any _ _ _ _ _ _ _ (.inr ⟨_, rfl, HBase.out.z0⟩)).mono ?_; rintro e w1 ⟨rfl, hb⟩; have n0 := Hd.mk (HBase.out.below hb); have n1 := Hd.mk (Bl.then HB.out hb); clear HBase HB a0 a1 a2 a3 a4 z0 r0 r1; have HBase := n0; have HB := n1; clear n0 n1 hb; obtain ⟨a0, a1, a2, a3, a4, z0, r0, r1⟩ := HBase.out)
        | (go_at_call 16; refine (endd_any _ _ _ (.inr ⟨_, rfl, HBase.out.z0⟩)).mono ?_; rintro e w' ⟨rfl, rfl⟩)
        | (go_at_call 23; refine (grow_any _ _ _ (.inr ⟨_, rfl, HBase.out.z0⟩)).mono ?_; rintro e w' ⟨rfl, rfl⟩)
        | (go_at_call 24; refine (ready_any _ _  (.inr ⟨_, rfl, HBase.out.z0⟩)).mono ?_; rintro e w' ⟨rfl, rfl⟩)
        | (go_at_call 22; refine (limit_any _ _  (.inr ⟨_, rfl, HBase.out.z0⟩)).mono ?_; rintro e w' ⟨rfl, rfl⟩)
        | (go_at_call 18; refine (reach_any _ _  (.inr ⟨_, rfl, HBase.out.z0⟩)).mono ?_; rintro e w' ⟨rfl, rfl⟩)
        | (go_at_call 21; refine (held_any _ _  (.inr ⟨_, rfl, HBase.out.z0⟩)).mono ?_; rintro e w' ⟨rfl, rfl⟩))
      go_roundw
      case rel => exact ⟨2, by omega, rfl, HB.out, HBase.out⟩
      case measure => simp [intOf]
    · go_wp2
      go_ret
      exact ⟨rfl, HB.out⟩
end Go.Proofs.Ytakmcbakogjeeaa.InN
