/- The walks of the calls on what no call made (caravel/caravellaw08.SeenNobody); no condition. -/
import Derived.Test.YtmkojmjjlcfohaaChecked
import Derived.Test.YtmkojmjjlcfohaaMin
set_option linter.unusedVariables false
set_option linter.unusedSimpArgs false
namespace Go.Proofs.Ytmkojmjjlcfohaa.SeN
open Go.RowKit

/-- No call made it: all fields zero. -/
structure Zero (w : World) (g : Nat) : Prop where
  c0 : w.cell? ⟨g, 0, none⟩ = some (.int .i64 0)
  c1 : w.cell? ⟨g, 1, none⟩ = some (.pointer none)
  c2 : w.cell? ⟨g, 2, none⟩ = some (.int .i64 0)
  c3 : w.cell? ⟨g, 3, none⟩ = some (.int .i64 0)
  c4 : w.cell? ⟨g, 4, none⟩ = some (.int .i64 0)
  c5 : w.cell? ⟨g, 5, none⟩ = some (.int .i64 0)
  c6 : w.cell? ⟨g, 6, none⟩ = some (.int .i64 0)
  c7 : w.cell? ⟨g, 7, none⟩ = some (.int .i64 0)
  c8 : w.cell? ⟨g, 8, none⟩ = some (.bool false)
theorem Zero.below {w w' : World} {g : Nat} (h : Zero w g) (hb : Below w.heap.size w w') : Zero w' g :=
  ⟨Bl.cell hb h.c0, Bl.cell hb h.c1, Bl.cell hb h.c2, Bl.cell hb h.c3, Bl.cell hb h.c4, Bl.cell hb h.c5, Bl.cell hb h.c6, Bl.cell hb h.c7, Bl.cell hb h.c8⟩
def Nob (w : World) (p : Value) : Prop := p = .pointer none ∨ ∃ g, p = .pointer (some ⟨g, 0, none⟩) ∧ Zero w g
theorem Nob.below {w w' : World} {p : Value} (h : Nob w p) (hb : Below w.heap.size w w') : Nob w' p := by
  rcases h with rfl | ⟨g, rfl, h⟩
  · exact .inl rfl
  · exact .inr ⟨g, rfl, h.below hb⟩
set_option maxRecDepth 100000 in
set_option maxHeartbeats 2000000 in
theorem none_any (w : World) (p : Value) (h : Nob w p) : Calls Try.prog 47 #[p] w fun e w' => e = .returned (.bool true) ∧ w = w' := by
  rcases h with rfl | ⟨g, rfl, h⟩
  · have heq : ∀ W : World, (binOp .eql 79 (.agg #[.int .i64 0, .pointer none, .int .i64 0, .int .i64 0, .int .i64 0, .int .i64 0, .int .i64 0, .int .i64 0, .bool false]) (.agg #[.int .i64 0, .pointer none, .int .i64 0, .int .i64 0, .int .i64 0, .int .i64 0, .int .i64 0, .int .i64 0, .bool false])).run Try.prog W = .ok (.bool true) W := fun _ => by kernel_rfl
    go_enter Try.func47, Try.ntmps47
    go_wp2
    all_goals
      go_ret
      exact ⟨rfl, rfl⟩
  · obtain ⟨c0, c1, c2, c3, c4, c5, c6, c7, c8⟩ := h
    have heq : ∀ W : World, (binOp .eql 79 (.agg #[.int .i64 0, .pointer none, .int .i64 0, .int .i64 0, .int .i64 0, .int .i64 0, .int .i64 0, .int .i64 0, .bool false]) (.agg #[.int .i64 0, .pointer none, .int .i64 0, .int .i64 0, .int .i64 0, .int .i64 0, .int .i64 0, .int .i64 0, .bool false])).run Try.prog W = .ok (.bool true) W := fun _ => by kernel_rfl
    go_enter Try.func47, Try.ntmps47
    go_wp2
    all_goals
      go_ret
      exact ⟨rfl, rfl⟩

set_option maxRecDepth 100000 in
set_option maxHeartbeats 1000000 in
theorem take_any (w : World) (p : Value) (x : Int) (b : Bool) (n : Int) (h : Nob w p) :
    Calls Try.prog 24 #[p, .int .i64 x, .bool b, .int .i64 n] w fun e w' => e = .returned (.tuple #[.bool false, .int .i64 1]) ∧ Below w.heap.size w w' := by
  rcases h with rfl | ⟨g, rfl, h⟩
  · have H : Hd (Nob w (.pointer none)) := ⟨.inl rfl⟩
    go_enter Try.func24, Try.ntmps24
    go_wp2_with (first
    | (go_at_call 47; refine (none_any _ _ (H.out.below (by repeat (first | exact Below.refl _ _ | apply Bl.alloc | apply Bl.drewN | apply Bl.drew)))).mono ?_; rintro e w' ⟨rfl, rfl⟩))
    all_goals
      go_ret2
      exact ⟨rfl, by repeat (first | exact Below.refl _ _ | apply Bl.alloc | apply Bl.drewN | apply Bl.drew)⟩
  · have H : Hd (Nob w (.pointer (some ⟨g, 0, none⟩))) := ⟨.inr ⟨g, rfl, h⟩⟩
    clear h
    go_enter Try.func24, Try.ntmps24
    go_wp2_with (first
    | (go_at_call 47; refine (none_any _ _ (H.out.below (by repeat (first | exact Below.refl _ _ | apply Bl.alloc | apply Bl.drewN | apply Bl.drew)))).mono ?_; rintro e w' ⟨rfl, rfl⟩))
    all_goals
      go_ret2
      exact ⟨rfl, by repeat (first | exact Below.refl _ _ | apply Bl.alloc | apply Bl.drewN | apply Bl.drew)⟩
set_option maxRecDepth 100000 in
set_option maxHeartbeats 1000000 in
theorem acks_any (w : World) (p : Value) (n : Int) (h : Nob w p) :
    Calls Try.prog 34 #[p, .int .i64 n] w fun e w' => e = .returned (.slice none 0 0) ∧ Below w.heap.size w w' := by
  rcases h with rfl | ⟨g, rfl, h⟩
  · have H : Hd (Nob w (.pointer none)) := ⟨.inl rfl⟩
    go_enter Try.func34, Try.ntmps34
    go_wp2_with (first
    | (go_at_call 47; refine (none_any _ _ (H.out.below (by repeat (first | exact Below.refl _ _ | apply Bl.alloc | apply Bl.drewN | apply Bl.drew)))).mono ?_; rintro e w' ⟨rfl, rfl⟩))
    all_goals
      go_ret
      exact ⟨rfl, by repeat (first | exact Below.refl _ _ | apply Bl.alloc | apply Bl.drewN | apply Bl.drew)⟩
  · have H : Hd (Nob w (.pointer (some ⟨g, 0, none⟩))) := ⟨.inr ⟨g, rfl, h⟩⟩
    clear h
    go_enter Try.func34, Try.ntmps34
    go_wp2_with (first
    | (go_at_call 47; refine (none_any _ _ (H.out.below (by repeat (first | exact Below.refl _ _ | apply Bl.alloc | apply Bl.drewN | apply Bl.drew)))).mono ?_; rintro e w' ⟨rfl, rfl⟩))
    all_goals
      go_ret
      exact ⟨rfl, by repeat (first | exact Below.refl _ _ | apply Bl.alloc | apply Bl.drewN | apply Bl.drew)⟩
set_option maxRecDepth 100000 in
set_option maxHeartbeats 1000000 in
theorem due_any (w : World) (p : Value)  (h : Nob w p) :
    Calls Try.prog 25 #[p] w fun e w' => e = .returned (.tuple #[.int .i64 0, .bool false]) ∧ w = w' := by
  have H := Hd.mk h
  clear h
  go_enter Try.func25, Try.ntmps25
  go_wp2_with (first
    | (go_at_call 47; refine (none_any _ _ (H.out.below (by repeat (first | exact Below.refl _ _ | apply Bl.alloc | apply Bl.drewN | apply Bl.drew)))).mono ?_; rintro e w' ⟨rfl, rfl⟩))
  all_goals
    go_ret2
    exact ⟨rfl, rfl⟩
set_option maxRecDepth 100000 in
set_option maxHeartbeats 1000000 in
theorem sent_any (w : World) (p : Value) (n : Int) (h : Nob w p) :
    Calls Try.prog 26 #[p, .int .i64 n] w fun e w' => e = .returned (.int .i64 0) ∧ w = w' := by
  have H := Hd.mk h
  clear h
  go_enter Try.func26, Try.ntmps26
  go_wp2_with (first
    | (go_at_call 47; refine (none_any _ _ (H.out.below (by repeat (first | exact Below.refl _ _ | apply Bl.alloc | apply Bl.drewN | apply Bl.drew)))).mono ?_; rintro e w' ⟨rfl, rfl⟩))
  all_goals
    go_ret
    exact ⟨rfl, rfl⟩
set_option maxRecDepth 100000 in
set_option maxHeartbeats 1000000 in
theorem forget_any (w : World) (p : Value) (n : Int) (h : Nob w p) :
    Calls Try.prog 33 #[p, .int .i64 n] w fun e w' => e = .returned (.int .i64 1) ∧ w = w' := by
  have H := Hd.mk h
  clear h
  go_enter Try.func33, Try.ntmps33
  go_wp2_with (first
    | (go_at_call 47; refine (none_any _ _ (H.out.below (by repeat (first | exact Below.refl _ _ | apply Bl.alloc | apply Bl.drewN | apply Bl.drew)))).mono ?_; rintro e w' ⟨rfl, rfl⟩))
  all_goals
    go_ret
    exact ⟨rfl, rfl⟩
set_option maxRecDepth 100000 in
set_option maxHeartbeats 1000000 in
theorem greatest_any (w : World) (p : Value)  (h : Nob w p) :
    Calls Try.prog 35 #[p] w fun e w' => e = .returned (.int .i64 0) ∧ w = w' := by
  have H := Hd.mk h
  clear h
  go_enter Try.func35, Try.ntmps35
  go_wp2_with (first
    | (go_at_call 47; refine (none_any _ _ (H.out.below (by repeat (first | exact Below.refl _ _ | apply Bl.alloc | apply Bl.drewN | apply Bl.drew)))).mono ?_; rintro e w' ⟨rfl, rfl⟩))
  all_goals
    go_ret
    exact ⟨rfl, rfl⟩
/-- What the law's loop rests on. -/
structure Base (w : World) (s z r : Nat) (k : Int) (n : Int) (b : Bool) (t : Int) : Prop where
  a0 : w.cell? ⟨s, 0, none⟩ = some (.int .i64 k)
  a1 : w.cell? ⟨s, 1, none⟩ = some (.int .i64 n)
  a2 : w.cell? ⟨s, 2, none⟩ = some (.bool b)
  a3 : w.cell? ⟨s, 3, none⟩ = some (.int .i64 t)
  z0 : Zero w z
  r0 : w.cell? ⟨r, 0, none⟩ = some (.pointer none)
  r1 : w.cell? ⟨r, 1, none⟩ = some (.pointer (some ⟨z, 0, none⟩))
theorem Base.below {w w' : World} {s z r : Nat} {k : Int} {n : Int} {b : Bool} {t : Int} (h : Base w s z r k n b t) (hb : Below w.heap.size w w') : Base w' s z r k n b t :=
  ⟨Bl.cell hb h.a0, Bl.cell hb h.a1, Bl.cell hb h.a2, Bl.cell hb h.a3, h.z0.below hb, Bl.cell hb h.r0, Bl.cell hb h.r1⟩
def Rel (w : World) (k : Int) (n : Int) (b : Bool) (t : Int) (i : Value) (W : World) : Prop :=
  ∃ j : Nat, j ≤ 2 ∧ i = .int .i64 j ∧ Below w.heap.size w W ∧ Base W w.heap.size (w.heap.size + 1) (w.heap.size + 2) k n b t
set_option maxHeartbeats 2000000 in
theorem nobody_walk (k : Int) (n : Int) (b : Bool) (t : Int) (w : World) :
    Calls Try.prog 11 #[.agg #[.int .i64 k, .int .i64 n, .bool b, .int .i64 t]] w fun e w' => e = .returned (.bool true) ∧ Below w.heap.size w w' := by
  go_enter Try.func11, Try.ntmps11
  go_wp2
  go_loopw [13] (fun i W => Rel w k n b t i W) (fun i _ => 2 - (intOf i).toNat)
  case atStart =>
    refine ⟨0, by omega, rfl, by repeat (first | exact Below.refl _ _ | apply Bl.alloc | apply Bl.drewN | apply Bl.drew), ?_⟩
    constructor
    all_goals first | (constructor <;> go_simp) | go_simp
  case round =>
    obtain ⟨j, hj, rfl, hB, hbase⟩ := hrel
    have HB := Hd.mk hB
    have HBase := Hd.mk hbase
    obtain ⟨a0, a1, a2, a3, z0, r0, r1⟩ := hbase
    clear hB
    have cj : j = 0 ∨ j = 1 ∨ j = 2 := by omega
    rcases cj with rfl | rfl | rfl
    · go_wp2_with (first
        | (go_at_call 24; refine (take_any _ _ _ _ _ (.inl rfl)).mono ?_; rintro e w1 ⟨rfl, hb⟩; have n0 := Hd.mk (HBase.out.below hb); have n1 := Hd.mk (Bl.then HB.out hb); clear HBase HB a0 a1 a2 a3 z0 r0 r1; have HBase := n0; have HB := n1; clear n0 n1 hb; obtain ⟨a0, a1, a2, a3, z0, r0, r1⟩ := HBase.out)
        | (go_at_call 34; refine (acks_any _ _ _ (.inl rfl)).mono ?_; rintro e w1 ⟨rfl, hb⟩; have n0 := Hd.mk (HBase.out.below hb); have n1 := Hd.mk (Bl.then HB.out hb); clear HBase HB a0 a1 a2 a3 z0 r0 r1; have HBase := n0; have HB := n1; clear n0 n1 hb; obtain ⟨a0, a1, a2, a3, z0, r0, r1⟩ := HBase.out)
        | (go_at_call 25; refine (due_any _ _  (.inl rfl)).mono ?_; rintro e w' ⟨rfl, rfl⟩)
        | (go_at_call 26; refine (sent_any _ _ _ (.inl rfl)).mono ?_; rintro e w' ⟨rfl, rfl⟩)
        | (go_at_call 33; refine (forget_any _ _ _ (.inl rfl)).mono ?_; rintro e w' ⟨rfl, rfl⟩)
        | (go_at_call 35; refine (greatest_any _ _  (.inl rfl)).mono ?_; rintro e w' ⟨rfl, rfl⟩))
      go_roundw
      case rel => exact ⟨1, by omega, rfl, HB.out, HBase.out⟩
      case measure => simp [intOf]
    · go_wp2_with (first
        | (go_at_call 24; refine (take_any _ _ _ _ _ (.inr ⟨_, rfl, HBase.out.z0⟩)).mono ?_; rintro e w1 ⟨rfl, hb⟩; have n0 := Hd.mk (HBase.out.below hb); have n1 := Hd.mk (Bl.then HB.out hb); clear HBase HB a0 a1 a2 a3 z0 r0 r1; have HBase := n0; have HB := n1; clear n0 n1 hb; obtain ⟨a0, a1, a2, a3, z0, r0, r1⟩ := HBase.out)
        | (go_at_call 34; refine (acks_any _ _ _ (.inr ⟨_, rfl, HBase.out.z0⟩)).mono ?_; rintro e w1 ⟨rfl, hb⟩; have n0 := Hd.mk (HBase.out.below hb); have n1 := Hd.mk (Bl.then HB.out hb); clear HBase HB a0 a1 a2 a3 z0 r0 r1; have HBase := n0; have HB := n1; clear n0 n1 hb; obtain ⟨a0, a1, a2, a3, z0, r0, r1⟩ := HBase.out)
        | (go_at_call 25; refine (due_any _ _  (.inr ⟨_, rfl, HBase.out.z0⟩)).mono ?_; rintro e w' ⟨rfl, rfl⟩)
        | (go_at_call 26; refine (sent_any _ _ _ (.inr ⟨_, rfl, HBase.out.z0⟩)).mono ?_; rintro e w' ⟨rfl, rfl⟩)
        | (go_at_call 33; refine (forget_any _ _ _ (.inr ⟨_, rfl, HBase.out.z0⟩)).mono ?_; rintro e w' ⟨rfl, rfl⟩)
        | (go_at_call 35; refine (greatest_any _ _  (.inr ⟨_, rfl, HBase.out.z0⟩)).mono ?_; rintro e w' ⟨rfl, rfl⟩))
      go_roundw
      case rel => exact ⟨2, by omega, rfl, HB.out, HBase.out⟩
      case measure => simp [intOf]
    · go_wp2
      go_ret
      exact ⟨rfl, HB.out⟩
end Go.Proofs.Ytmkojmjjlcfohaa.SeN
