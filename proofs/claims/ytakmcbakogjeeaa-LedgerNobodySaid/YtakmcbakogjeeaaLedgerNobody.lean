/- The walks of the calls on what no call made (caravel/caravellaw15.LedgerNobody); no condition. -/
import Derived.Test.YtakmcbakogjeeaaChecked
import Derived.Test.YtakmcbakogjeeaaMin
import Derived.Handy
set_option linter.unusedVariables false
set_option linter.unusedSimpArgs false
namespace Go.Proofs.Ytakmcbakogjeeaa.LeN
open Go.RowKit

/-- No call made it: all fields zero. -/
structure Zero (w : World) (g : Nat) : Prop where
  c0 : w.cell? ⟨g, 0, none⟩ = some (.map none)
  c1 : w.cell? ⟨g, 1, none⟩ = some (.slice none 0 0)
  c2 : w.cell? ⟨g, 2, none⟩ = some (.slice none 0 0)
  c3 : w.cell? ⟨g, 3, none⟩ = some (.int .i64 0)
  c4 : w.cell? ⟨g, 4, none⟩ = some (.int .i64 0)
  c5 : w.cell? ⟨g, 5, none⟩ = some (.int .i64 0)
theorem Zero.below {w w' : World} {g : Nat} (h : Zero w g) (hb : Below w.heap.size w w') : Zero w' g :=
  ⟨Bl.cell hb h.c0, Bl.cell hb h.c1, Bl.cell hb h.c2, Bl.cell hb h.c3, Bl.cell hb h.c4, Bl.cell hb h.c5⟩
def Nob (w : World) (p : Value) : Prop := p = .pointer none ∨ ∃ g, p = .pointer (some ⟨g, 0, none⟩) ∧ Zero w g
theorem Nob.below {w w' : World} {p : Value} (h : Nob w p) (hb : Below w.heap.size w w') : Nob w' p := by
  rcases h with rfl | ⟨g, rfl, h⟩
  · exact .inl rfl
  · exact .inr ⟨g, rfl, h.below hb⟩
set_option maxRecDepth 100000 in
set_option maxHeartbeats 2000000 in
theorem none_any (w : World) (p : Value) (h : Nob w p) : Calls Try.prog 112 #[p] w fun e w' => e = .returned (.bool true) ∧ w = w' := by
  rcases h with rfl | ⟨g, rfl, h⟩
  · have heq : ∀ W : World, (binOp .eql 132 (.map none) (.map none)).run Try.prog W = .ok (.bool true) W := fun _ => by kernel_rfl
    go_enter Try.func112, Try.ntmps112
    go_wp2
    all_goals
      go_ret
      exact ⟨rfl, rfl⟩
  · obtain ⟨c0, c1, c2, c3, c4, c5⟩ := h
    have heq : ∀ W : World, (binOp .eql 132 (.map none) (.map none)).run Try.prog W = .ok (.bool true) W := fun _ => by kernel_rfl
    go_enter Try.func112, Try.ntmps112
    go_wp2
    all_goals
      go_ret
      exact ⟨rfl, rfl⟩

/-- A result variable that tells nothing. -/
structure XR (w : World) (g : Nat) : Prop where
  c0 : w.cell? ⟨g, 0, none⟩ = some (.slice none 0 0)
  c1 : w.cell? ⟨g, 1, none⟩ = some (.slice none 0 0)
  c2 : w.cell? ⟨g, 2, none⟩ = some (.int .i64 0)
  c3 : w.cell? ⟨g, 3, none⟩ = some (.int .i64 0)
  lt : g < w.heap.size
theorem XR.new (w : World) (t : TypeId) : XR (w.alloc (Obj.cells #[.slice none 0 0, .slice none 0 0, .int .i64 0, .int .i64 0] t)) w.heap.size := by
  constructor <;> first | (go_simp; done) | simp
theorem XR.below {w w' : World} {g : Nat} (h : XR w g) (hb : Below w.heap.size w w') : XR w' g :=
  ⟨Bl.cell hb h.c0, Bl.cell hb h.c1, Bl.cell hb h.c2, Bl.cell hb h.c3, Nat.lt_of_lt_of_le h.lt hb.size⟩
theorem packets_nil (w : World) : Calls Try.prog 115 #[.slice none 0 0, .slice none 0 0] w fun e w' => e = .returned (.bool true) ∧ w = w' := by
  go_enter Try.func115, Try.ntmps115
  go_wp2
  go_loopw [5] (fun i W => i = .int .i64 0 ∧ W = w) (fun _ _ => 0)
  case atStart => exact ⟨rfl, rfl⟩
  case round =>
    obtain ⟨rfl, rfl⟩ := hrel
    go_wp2
    go_ret
    exact ⟨rfl, rfl⟩
theorem results_nil (w : World) : Calls Try.prog 72 #[.agg #[.slice none 0 0, .slice none 0 0, .int .i64 0, .int .i64 0], .agg #[.slice none 0 0, .slice none 0 0, .int .i64 0, .int .i64 0]] w fun e w' => e = .returned (.bool true) ∧ Below w.heap.size w w' := by
  go_enter Try.func72, Try.ntmps72
  go_wp2_with (first | (go_at_call 115; refine (packets_nil _).mono ?_; rintro e w' ⟨rfl, rfl⟩))
  all_goals
    go_ret
    exact ⟨rfl, by repeat (first | exact Below.refl _ _ | apply Bl.alloc | apply Bl.drewN | apply Bl.drew)⟩

set_option maxRecDepth 100000 in
set_option maxHeartbeats 1000000 in
theorem sentn_any (w : World) (p : Value)  (h : Nob w p) :
    Calls Try.prog 114 #[p] w fun e w' => e = .returned (.slice none 0 0) ∧ w = w' := by
  have H := Hd.mk h
  clear h
  go_enter Try.func114, Try.ntmps114
  go_wp2_with (first
    | (go_at_call 112; refine (none_any _ _ (H.out.below (by repeat (first | exact Below.refl _ _ | apply Bl.alloc | apply Bl.drewN | apply Bl.drew)))).mono ?_; rintro e w' ⟨rfl, rfl⟩))
  all_goals
    go_ret
    exact ⟨rfl, rfl⟩
set_option maxRecDepth 100000 in
set_option maxHeartbeats 1000000 in
theorem times_any (w : World) (p : Value) (n k : Int) (h : Nob w p) :
    Calls Try.prog 102 #[p, .int .i64 n, .int .i64 k] w fun e w' => e = .returned (.int .i64 1) ∧ w = w' := by
  have H := Hd.mk h
  clear h
  go_enter Try.func102, Try.ntmps102
  go_wp2_with (first
    | (go_at_call 112; refine (none_any _ _ (H.out.below (by repeat (first | exact Below.refl _ _ | apply Bl.alloc | apply Bl.drewN | apply Bl.drew)))).mono ?_; rintro e w' ⟨rfl, rfl⟩))
  all_goals
    go_ret
    exact ⟨rfl, rfl⟩
set_option maxRecDepth 100000 in
set_option maxHeartbeats 1000000 in
theorem sent_any (w : World) (p : Value) (pn pa ps : Int) (pe : Bool) (h : Nob w p) :
    Calls Try.prog 71 #[p, .agg #[.int .i64 pn, .int .i64 pa, .int .i64 ps, .bool pe]] w fun e w' => e = .returned (.int .i64 1) ∧ Below w.heap.size w w' := by
  rcases h with rfl | ⟨g, rfl, h⟩
  · have H : Hd (Nob w (.pointer none)) := ⟨.inl rfl⟩
    go_enter Try.func71, Try.ntmps71
    go_wp2_with (first
    | (go_at_call 112; refine (none_any _ _ (H.out.below (by repeat (first | exact Below.refl _ _ | apply Bl.alloc | apply Bl.drewN | apply Bl.drew)))).mono ?_; rintro e w' ⟨rfl, rfl⟩)
    | (go_at_call 114; refine (sentn_any _ _ (H.out.below (by repeat (first | exact Below.refl _ _ | apply Bl.alloc | apply Bl.drewN | apply Bl.drew)))).mono ?_; rintro e w' ⟨rfl, rfl⟩))
    all_goals
      go_ret
      exact ⟨rfl, by repeat (first | exact Below.refl _ _ | apply Bl.alloc | apply Bl.drewN | apply Bl.drew)⟩
  · have H : Hd (Nob w (.pointer (some ⟨g, 0, none⟩))) := ⟨.inr ⟨g, rfl, h⟩⟩
    clear h
    go_enter Try.func71, Try.ntmps71
    go_wp2_with (first
    | (go_at_call 112; refine (none_any _ _ (H.out.below (by repeat (first | exact Below.refl _ _ | apply Bl.alloc | apply Bl.drewN | apply Bl.drew)))).mono ?_; rintro e w' ⟨rfl, rfl⟩)
    | (go_at_call 114; refine (sentn_any _ _ (H.out.below (by repeat (first | exact Below.refl _ _ | apply Bl.alloc | apply Bl.drewN | apply Bl.drew)))).mono ?_; rintro e w' ⟨rfl, rfl⟩))
    all_goals
      go_ret
      exact ⟨rfl, by repeat (first | exact Below.refl _ _ | apply Bl.alloc | apply Bl.drewN | apply Bl.drew)⟩
set_option maxRecDepth 100000 in
set_option maxHeartbeats 1000000 in
theorem acked_any (w : World) (p : Value) (aa : Option Addr) (sn sc : Nat) (n k : Int) (h : Nob w p) :
    Calls Try.prog 67 #[p, .slice aa sn sc, .int .i64 n, .int .i64 k] w fun e w' => e = .returned (.tuple #[.agg #[.slice none 0 0, .slice none 0 0, .int .i64 0, .int .i64 0], .int .i64 1]) ∧ Below w.heap.size w w' := by
  rcases h with rfl | ⟨g, rfl, h⟩
  · have H : Hd (Nob w (.pointer none)) := ⟨.inl rfl⟩
    go_enter Try.func67, Try.ntmps67
    go_wp2_with (first
    | (go_at_call 112; refine (none_any _ _ (H.out.below (by repeat (first | exact Below.refl _ _ | apply Bl.alloc | apply Bl.drewN | apply Bl.drew)))).mono ?_; rintro e w' ⟨rfl, rfl⟩)
    | (go_at_call 102; refine (times_any _ _ _ _ (H.out.below (by repeat (first | exact Below.refl _ _ | apply Bl.alloc | apply Bl.drewN | apply Bl.drew)))).mono ?_; rintro e w' ⟨rfl, rfl⟩))
    all_goals
      go_returns
      exact ⟨rfl, by repeat (first | exact Below.refl _ _ | apply Bl.alloc | apply Bl.drewN | apply Bl.drew)⟩
  · have H : Hd (Nob w (.pointer (some ⟨g, 0, none⟩))) := ⟨.inr ⟨g, rfl, h⟩⟩
    clear h
    go_enter Try.func67, Try.ntmps67
    go_wp2_with (first
    | (go_at_call 112; refine (none_any _ _ (H.out.below (by repeat (first | exact Below.refl _ _ | apply Bl.alloc | apply Bl.drewN | apply Bl.drew)))).mono ?_; rintro e w' ⟨rfl, rfl⟩)
    | (go_at_call 102; refine (times_any _ _ _ _ (H.out.below (by repeat (first | exact Below.refl _ _ | apply Bl.alloc | apply Bl.drewN | apply Bl.drew)))).mono ?_; rintro e w' ⟨rfl, rfl⟩))
    all_goals
      go_returns
      exact ⟨rfl, by repeat (first | exact Below.refl _ _ | apply Bl.alloc | apply Bl.drewN | apply Bl.drew)⟩
set_option maxRecDepth 100000 in
set_option maxHeartbeats 1000000 in
theorem passed_any (w : World) (p : Value) (n k : Int) (h : Nob w p) :
    Calls Try.prog 68 #[p, .int .i64 n, .int .i64 k] w fun e w' => e = .returned (.tuple #[.agg #[.slice none 0 0, .slice none 0 0, .int .i64 0, .int .i64 0], .int .i64 1]) ∧ Below w.heap.size w w' := by
  rcases h with rfl | ⟨g, rfl, h⟩
  · have H : Hd (Nob w (.pointer none)) := ⟨.inl rfl⟩
    go_enter Try.func68, Try.ntmps68
    go_wp2_with (first
    | (go_at_call 112; refine (none_any _ _ (H.out.below (by repeat (first | exact Below.refl _ _ | apply Bl.alloc | apply Bl.drewN | apply Bl.drew)))).mono ?_; rintro e w' ⟨rfl, rfl⟩)
    | (go_at_call 102; refine (times_any _ _ _ _ (H.out.below (by repeat (first | exact Below.refl _ _ | apply Bl.alloc | apply Bl.drewN | apply Bl.drew)))).mono ?_; rintro e w' ⟨rfl, rfl⟩))
    all_goals
      go_returns
      exact ⟨rfl, by repeat (first | exact Below.refl _ _ | apply Bl.alloc | apply Bl.drewN | apply Bl.drew)⟩
  · have H : Hd (Nob w (.pointer (some ⟨g, 0, none⟩))) := ⟨.inr ⟨g, rfl, h⟩⟩
    clear h
    go_enter Try.func68, Try.ntmps68
    go_wp2_with (first
    | (go_at_call 112; refine (none_any _ _ (H.out.below (by repeat (first | exact Below.refl _ _ | apply Bl.alloc | apply Bl.drewN | apply Bl.drew)))).mono ?_; rintro e w' ⟨rfl, rfl⟩)
    | (go_at_call 102; refine (times_any _ _ _ _ (H.out.below (by repeat (first | exact Below.refl _ _ | apply Bl.alloc | apply Bl.drewN | apply Bl.drew)))).mono ?_; rintro e w' ⟨rfl, rfl⟩))
    all_goals
      go_returns
      exact ⟨rfl, by repeat (first | exact Below.refl _ _ | apply Bl.alloc | apply Bl.drewN | apply Bl.drew)⟩
set_option maxRecDepth 100000 in
set_option maxHeartbeats 1000000 in
theorem due_any (w : World) (p : Value) (k : Int) (h : Nob w p) :
    Calls Try.prog 70 #[p, .int .i64 k] w fun e w' => e = .returned (.tuple #[.int .i64 0, .bool false]) ∧ w = w' := by
  have H := Hd.mk h
  clear h
  go_enter Try.func70, Try.ntmps70
  go_wp2_with (first
    | (go_at_call 112; refine (none_any _ _ (H.out.below (by repeat (first | exact Below.refl _ _ | apply Bl.alloc | apply Bl.drewN | apply Bl.drew)))).mono ?_; rintro e w' ⟨rfl, rfl⟩))
  all_goals
    go_ret2
    exact ⟨rfl, rfl⟩
set_option maxRecDepth 100000 in
set_option maxHeartbeats 1000000 in
theorem flight_any (w : World) (p : Value)  (h : Nob w p) :
    Calls Try.prog 69 #[p] w fun e w' => e = .returned (.tuple #[.int .i64 0, .int .i64 0, .int .i64 0]) ∧ w = w' := by
  have H := Hd.mk h
  clear h
  go_enter Try.func69, Try.ntmps69
  go_wp2_with (first
    | (go_at_call 112; refine (none_any _ _ (H.out.below (by repeat (first | exact Below.refl _ _ | apply Bl.alloc | apply Bl.drewN | apply Bl.drew)))).mono ?_; rintro e w' ⟨rfl, rfl⟩))
  all_goals
    go_ret3
    exact ⟨rfl, rfl⟩
set_option maxRecDepth 100000 in
set_option maxHeartbeats 1000000 in
theorem clear_any (w : World) (p : Value)  (h : Nob w p) :
    Calls Try.prog 73 #[p] w fun e w' => e = .returned (.slice none 0 0) ∧ Below w.heap.size w w' := by
  rcases h with rfl | ⟨g, rfl, h⟩
  · have H : Hd (Nob w (.pointer none)) := ⟨.inl rfl⟩
    go_enter Try.func73, Try.ntmps73
    go_wp2_with (first
    | (go_at_call 112; refine (none_any _ _ (H.out.below (by repeat (first | exact Below.refl _ _ | apply Bl.alloc | apply Bl.drewN | apply Bl.drew)))).mono ?_; rintro e w' ⟨rfl, rfl⟩))
    all_goals
      go_ret
      exact ⟨rfl, by repeat (first | exact Below.refl _ _ | apply Bl.alloc | apply Bl.drewN | apply Bl.drew)⟩
  · have H : Hd (Nob w (.pointer (some ⟨g, 0, none⟩))) := ⟨.inr ⟨g, rfl, h⟩⟩
    clear h
    go_enter Try.func73, Try.ntmps73
    go_wp2_with (first
    | (go_at_call 112; refine (none_any _ _ (H.out.below (by repeat (first | exact Below.refl _ _ | apply Bl.alloc | apply Bl.drewN | apply Bl.drew)))).mono ?_; rintro e w' ⟨rfl, rfl⟩))
    all_goals
      go_ret
      exact ⟨rfl, by repeat (first | exact Below.refl _ _ | apply Bl.alloc | apply Bl.drewN | apply Bl.drew)⟩
/-- What the law's loop rests on. -/
structure Base (w : World) (s z r : Nat) (k : Int) (pn : Int) (pa : Int) (ps : Int) (pe : Bool) (aa : Option Addr) (dn : Nat) (dc : Nat) (n : Int) (l : Int) : Prop where
  a0 : w.cell? ⟨s, 0, none⟩ = some (.int .i64 k)
  a1 : w.cell? ⟨s, 1, none⟩ = some (.int .i64 pn)
  a2 : w.cell? ⟨s, 2, none⟩ = some (.int .i64 pa)
  a3 : w.cell? ⟨s, 3, none⟩ = some (.int .i64 ps)
  a4 : w.cell? ⟨s, 4, none⟩ = some (.bool pe)
  a5 : w.cell? ⟨s, 5, none⟩ = some (.slice aa dn dc)
  a6 : w.cell? ⟨s, 6, none⟩ = some (.int .i64 n)
  a7 : w.cell? ⟨s, 7, none⟩ = some (.int .i64 l)
  z0 : Zero w z
  r0 : w.cell? ⟨r, 0, none⟩ = some (.pointer none)
  r1 : w.cell? ⟨r, 1, none⟩ = some (.pointer (some ⟨z, 0, none⟩))
  ls : s < w.heap.size
  lz : z < w.heap.size
  lr : r < w.heap.size
theorem Base.below {w w' : World} {s z r : Nat} {k : Int} {pn : Int} {pa : Int} {ps : Int} {pe : Bool} {aa : Option Addr} {dn : Nat} {dc : Nat} {n : Int} {l : Int} (h : Base w s z r k pn pa ps pe aa dn dc n l) (hb : Below w.heap.size w w') : Base w' s z r k pn pa ps pe aa dn dc n l :=
  ⟨Bl.cell hb h.a0, Bl.cell hb h.a1, Bl.cell hb h.a2, Bl.cell hb h.a3, Bl.cell hb h.a4, Bl.cell hb h.a5, Bl.cell hb h.a6, Bl.cell hb h.a7, h.z0.below hb, Bl.cell hb h.r0, Bl.cell hb h.r1, Nat.lt_of_lt_of_le h.ls hb.size, Nat.lt_of_lt_of_le h.lz hb.size, Nat.lt_of_lt_of_le h.lr hb.size⟩
def Rel (w : World) (k : Int) (pn : Int) (pa : Int) (ps : Int) (pe : Bool) (aa : Option Addr) (dn : Nat) (dc : Nat) (n : Int) (l : Int) (i : Value) (W : World) : Prop :=
  ∃ j : Nat, j ≤ 2 ∧ i = .int .i64 j ∧ Below w.heap.size w W ∧ Base W w.heap.size (w.heap.size + 1) (w.heap.size + 2) k pn pa ps pe aa dn dc n l
set_option maxRecDepth 100000 in
set_option maxHeartbeats 2000000 in
theorem nobody_walk (k : Int) (pn : Int) (pa : Int) (ps : Int) (pe : Bool) (aa : Option Addr) (dn : Nat) (dc : Nat) (n : Int) (l : Int) (w : World) :
    Calls Try.prog 14 #[.agg #[.int .i64 k, .int .i64 pn, .int .i64 pa, .int .i64 ps, .bool pe, .slice aa dn dc, .int .i64 n, .int .i64 l]] w fun e w' => e = .returned (.bool true) ∧ Below w.heap.size w w' := by
  go_enter Try.func14, Try.ntmps14
  go_wp2
  go_loopw [18] (fun i W => Rel w k pn pa ps pe aa dn dc n l i W) (fun i _ => 2 - (intOf i).toNat)
  case atStart =>
    refine ⟨0, by omega, rfl, by repeat (first | exact Below.refl _ _ | apply Bl.alloc | apply Bl.drewN | apply Bl.drew), ?_⟩
    constructor
    all_goals first | (constructor <;> go_simp) | go_simp
  case round =>
    obtain ⟨j, hj, rfl, hB, hbase⟩ := hrel
    have HB := Hd.mk hB
    have HBase := Hd.mk hbase
    obtain ⟨a0, a1, a2, a3, a4, a5, a6, a7, z0, r0, r1, ls, lz, lr⟩ := hbase
    clear hB
    have cj : j = 0 ∨ j = 1 ∨ j = 2 := by omega
    rcases cj with rfl | rfl | rfl
    · go_wp2_with (first
        | (go_at_call 67; refine (acked_any _ _ _ _ _ _ _ (.inl rfl)).mono ?_; rintro e w1 ⟨rfl, hb⟩; have n0 := Hd.mk (HBase.out.below (Bl.then (by repeat (first | exact Below.refl _ _ | apply Bl.alloc | apply Bl.drewN | apply Bl.drew)) hb)); have n1 := Hd.mk (Bl.then (Bl.then HB.out (by repeat (first | exact Below.refl _ _ | apply Bl.alloc | apply Bl.drewN | apply Bl.drew))) hb); clear HBase HB a0 a1 a2 a3 a4 a5 a6 a7 z0 r0 r1 ls lz lr; have HBase := n0; have HB := n1; clear n0 n1 hb; obtain ⟨a0, a1, a2, a3, a4, a5, a6, a7, z0, r0, r1, ls, lz, lr⟩ := HBase.out)
        | (go_at_call 68; refine (passed_any _ _ _ _ (.inl rfl)).mono ?_; rintro e w2 ⟨rfl, hb⟩; have X := Hd.mk ((XR.new _ _).below hb); have n0 := Hd.mk (HBase.out.below (Bl.then (by repeat (first | exact Below.refl _ _ | apply Bl.alloc | apply Bl.drewN | apply Bl.drew)) hb)); have n1 := Hd.mk (Bl.then (Bl.then HB.out (by repeat (first | exact Below.refl _ _ | apply Bl.alloc | apply Bl.drewN | apply Bl.drew))) hb); clear HBase HB a0 a1 a2 a3 a4 a5 a6 a7 z0 r0 r1 ls lz lr; have HBase := n0; have HB := n1; clear n0 n1 hb; obtain ⟨a0, a1, a2, a3, a4, a5, a6, a7, z0, r0, r1, ls, lz, lr⟩ := HBase.out; obtain ⟨x0, x1, x2, x3, lx⟩ := X.out)
        | (go_at_call 70; refine (due_any _ _ _ (.inl rfl)).mono ?_; rintro e w' ⟨rfl, rfl⟩)
        | (go_at_call 69; refine (flight_any _ _ (.inl rfl)).mono ?_; rintro e w' ⟨rfl, rfl⟩)
        | (go_at_call 71; refine (sent_any _ _ _ _ _ _ (.inl rfl)).mono ?_; rintro e w3 ⟨rfl, hb⟩; have Y := Hd.mk ((XR.new _ _).below hb); have nx := Hd.mk (X.out.below (Bl.then (by repeat (first | exact Below.refl _ _ | apply Bl.alloc | apply Bl.drewN | apply Bl.drew)) hb)); have n0 := Hd.mk (HBase.out.below (Bl.then (by repeat (first | exact Below.refl _ _ | apply Bl.alloc | apply Bl.drewN | apply Bl.drew)) hb)); have n1 := Hd.mk (Bl.then (Bl.then HB.out (by repeat (first | exact Below.refl _ _ | apply Bl.alloc | apply Bl.drewN | apply Bl.drew))) hb); clear HBase HB a0 a1 a2 a3 a4 a5 a6 a7 z0 r0 r1 ls lz lr; have HBase := n0; have HB := n1; clear n0 n1 hb; obtain ⟨a0, a1, a2, a3, a4, a5, a6, a7, z0, r0, r1, ls, lz, lr⟩ := HBase.out; obtain ⟨y0, y1, y2, y3, ly⟩ := Y.out; clear X x0 x1 x2 x3 lx; have X := nx; clear nx; obtain ⟨x0, x1, x2, x3, lx⟩ := X.out)
        | (go_at_call 72; refine (results_nil _).mono ?_; rintro e w4 ⟨rfl, hb⟩; have nx := Hd.mk (X.out.below (Bl.then (by repeat (first | exact Below.refl _ _ | apply Bl.alloc | apply Bl.drewN | apply Bl.drew)) hb)); have ny := Hd.mk (Y.out.below (Bl.then (by repeat (first | exact Below.refl _ _ | apply Bl.alloc | apply Bl.drewN | apply Bl.drew)) hb)); have n0 := Hd.mk (HBase.out.below (Bl.then (by repeat (first | exact Below.refl _ _ | apply Bl.alloc | apply Bl.drewN | apply Bl.drew)) hb)); have n1 := Hd.mk (Bl.then (Bl.then HB.out (by repeat (first | exact Below.refl _ _ | apply Bl.alloc | apply Bl.drewN | apply Bl.drew))) hb); clear HBase HB a0 a1 a2 a3 a4 a5 a6 a7 z0 r0 r1 ls lz lr; have HBase := n0; have HB := n1; clear n0 n1 hb; obtain ⟨a0, a1, a2, a3, a4, a5, a6, a7, z0, r0, r1, ls, lz, lr⟩ := HBase.out; clear X x0 x1 x2 x3 lx; have X := nx; clear nx; obtain ⟨x0, x1, x2, x3, lx⟩ := X.out; clear Y y0 y1 y2 y3 ly; have Y := ny; clear ny; obtain ⟨y0, y1, y2, y3, ly⟩ := Y.out)
        | (go_at_call 73; refine (clear_any _ _ (.inl rfl)).mono ?_; rintro e w5 ⟨rfl, hb⟩; have nx := Hd.mk (X.out.below (Bl.then (by repeat (first | exact Below.refl _ _ | apply Bl.alloc | apply Bl.drewN | apply Bl.drew)) hb)); have ny := Hd.mk (Y.out.below (Bl.then (by repeat (first | exact Below.refl _ _ | apply Bl.alloc | apply Bl.drewN | apply Bl.drew)) hb)); have n0 := Hd.mk (HBase.out.below (Bl.then (by repeat (first | exact Below.refl _ _ | apply Bl.alloc | apply Bl.drewN | apply Bl.drew)) hb)); have n1 := Hd.mk (Bl.then (Bl.then HB.out (by repeat (first | exact Below.refl _ _ | apply Bl.alloc | apply Bl.drewN | apply Bl.drew))) hb); clear HBase HB a0 a1 a2 a3 a4 a5 a6 a7 z0 r0 r1 ls lz lr; have HBase := n0; have HB := n1; clear n0 n1 hb; obtain ⟨a0, a1, a2, a3, a4, a5, a6, a7, z0, r0, r1, ls, lz, lr⟩ := HBase.out; clear X x0 x1 x2 x3 lx; have X := nx; clear nx; obtain ⟨x0, x1, x2, x3, lx⟩ := X.out; clear Y y0 y1 y2 y3 ly; have Y := ny; clear ny; obtain ⟨y0, y1, y2, y3, ly⟩ := Y.out))
      go_roundw
      case rel => exact ⟨1, by omega, rfl, HB.out, HBase.out⟩
      case measure => simp [intOf]
    · go_wp2_with (first
        | (go_at_call 67; refine (acked_any _ _ _ _ _ _ _ (.inr ⟨_, rfl, HBase.out.z0.below (by repeat (first | exact Below.refl _ _ | apply Bl.alloc | apply Bl.drewN | apply Bl.drew))⟩)).mono ?_; rintro e w1 ⟨rfl, hb⟩; have n0 := Hd.mk (HBase.out.below (Bl.then (by repeat (first | exact Below.refl _ _ | apply Bl.alloc | apply Bl.drewN | apply Bl.drew)) hb)); have n1 := Hd.mk (Bl.then (Bl.then HB.out (by repeat (first | exact Below.refl _ _ | apply Bl.alloc | apply Bl.drewN | apply Bl.drew))) hb); clear HBase HB a0 a1 a2 a3 a4 a5 a6 a7 z0 r0 r1 ls lz lr; have HBase := n0; have HB := n1; clear n0 n1 hb; obtain ⟨a0, a1, a2, a3, a4, a5, a6, a7, z0, r0, r1, ls, lz, lr⟩ := HBase.out)
        | (go_at_call 68; refine (passed_any _ _ _ _ (.inr ⟨_, rfl, HBase.out.z0.below (by repeat (first | exact Below.refl _ _ | apply Bl.alloc | apply Bl.drewN | apply Bl.drew))⟩)).mono ?_; rintro e w2 ⟨rfl, hb⟩; have X := Hd.mk ((XR.new _ _).below hb); have n0 := Hd.mk (HBase.out.below (Bl.then (by repeat (first | exact Below.refl _ _ | apply Bl.alloc | apply Bl.drewN | apply Bl.drew)) hb)); have n1 := Hd.mk (Bl.then (Bl.then HB.out (by repeat (first | exact Below.refl _ _ | apply Bl.alloc | apply Bl.drewN | apply Bl.drew))) hb); clear HBase HB a0 a1 a2 a3 a4 a5 a6 a7 z0 r0 r1 ls lz lr; have HBase := n0; have HB := n1; clear n0 n1 hb; obtain ⟨a0, a1, a2, a3, a4, a5, a6, a7, z0, r0, r1, ls, lz, lr⟩ := HBase.out; obtain ⟨x0, x1, x2, x3, lx⟩ := X.out)
        | (go_at_call 70; refine (due_any _ _ _ (.inr ⟨_, rfl, HBase.out.z0.below (by repeat (first | exact Below.refl _ _ | apply Bl.alloc | apply Bl.drewN | apply Bl.drew))⟩)).mono ?_; rintro e w' ⟨rfl, rfl⟩)
        | (go_at_call 69; refine (flight_any _ _ (.inr ⟨_, rfl, HBase.out.z0.below (by repeat (first | exact Below.refl _ _ | apply Bl.alloc | apply Bl.drewN | apply Bl.drew))⟩)).mono ?_; rintro e w' ⟨rfl, rfl⟩)
        | (go_at_call 71; refine (sent_any _ _ _ _ _ _ (.inr ⟨_, rfl, HBase.out.z0.below (by repeat (first | exact Below.refl _ _ | apply Bl.alloc | apply Bl.drewN | apply Bl.drew))⟩)).mono ?_; rintro e w3 ⟨rfl, hb⟩; have Y := Hd.mk ((XR.new _ _).below hb); have nx := Hd.mk (X.out.below (Bl.then (by repeat (first | exact Below.refl _ _ | apply Bl.alloc | apply Bl.drewN | apply Bl.drew)) hb)); have n0 := Hd.mk (HBase.out.below (Bl.then (by repeat (first | exact Below.refl _ _ | apply Bl.alloc | apply Bl.drewN | apply Bl.drew)) hb)); have n1 := Hd.mk (Bl.then (Bl.then HB.out (by repeat (first | exact Below.refl _ _ | apply Bl.alloc | apply Bl.drewN | apply Bl.drew))) hb); clear HBase HB a0 a1 a2 a3 a4 a5 a6 a7 z0 r0 r1 ls lz lr; have HBase := n0; have HB := n1; clear n0 n1 hb; obtain ⟨a0, a1, a2, a3, a4, a5, a6, a7, z0, r0, r1, ls, lz, lr⟩ := HBase.out; obtain ⟨y0, y1, y2, y3, ly⟩ := Y.out; clear X x0 x1 x2 x3 lx; have X := nx; clear nx; obtain ⟨x0, x1, x2, x3, lx⟩ := X.out)
        | (go_at_call 72; refine (results_nil _).mono ?_; rintro e w4 ⟨rfl, hb⟩; have nx := Hd.mk (X.out.below (Bl.then (by repeat (first | exact Below.refl _ _ | apply Bl.alloc | apply Bl.drewN | apply Bl.drew)) hb)); have ny := Hd.mk (Y.out.below (Bl.then (by repeat (first | exact Below.refl _ _ | apply Bl.alloc | apply Bl.drewN | apply Bl.drew)) hb)); have n0 := Hd.mk (HBase.out.below (Bl.then (by repeat (first | exact Below.refl _ _ | apply Bl.alloc | apply Bl.drewN | apply Bl.drew)) hb)); have n1 := Hd.mk (Bl.then (Bl.then HB.out (by repeat (first | exact Below.refl _ _ | apply Bl.alloc | apply Bl.drewN | apply Bl.drew))) hb); clear HBase HB a0 a1 a2 a3 a4 a5 a6 a7 z0 r0 r1 ls lz lr; have HBase := n0; have HB := n1; clear n0 n1 hb; obtain ⟨a0, a1, a2, a3, a4, a5, a6, a7, z0, r0, r1, ls, lz, lr⟩ := HBase.out; clear X x0 x1 x2 x3 lx; have X := nx; clear nx; obtain ⟨x0, x1, x2, x3, lx⟩ := X.out; clear Y y0 y1 y2 y3 ly; have Y := ny; clear ny; obtain ⟨y0, y1, y2, y3, ly⟩ := Y.out)
        | (go_at_call 73; refine (clear_any _ _ (.inr ⟨_, rfl, HBase.out.z0.below (by repeat (first | exact Below.refl _ _ | apply Bl.alloc | apply Bl.drewN | apply Bl.drew))⟩)).mono ?_; rintro e w5 ⟨rfl, hb⟩; have nx := Hd.mk (X.out.below (Bl.then (by repeat (first | exact Below.refl _ _ | apply Bl.alloc | apply Bl.drewN | apply Bl.drew)) hb)); have ny := Hd.mk (Y.out.below (Bl.then (by repeat (first | exact Below.refl _ _ | apply Bl.alloc | apply Bl.drewN | apply Bl.drew)) hb)); have n0 := Hd.mk (HBase.out.below (Bl.then (by repeat (first | exact Below.refl _ _ | apply Bl.alloc | apply Bl.drewN | apply Bl.drew)) hb)); have n1 := Hd.mk (Bl.then (Bl.then HB.out (by repeat (first | exact Below.refl _ _ | apply Bl.alloc | apply Bl.drewN | apply Bl.drew))) hb); clear HBase HB a0 a1 a2 a3 a4 a5 a6 a7 z0 r0 r1 ls lz lr; have HBase := n0; have HB := n1; clear n0 n1 hb; obtain ⟨a0, a1, a2, a3, a4, a5, a6, a7, z0, r0, r1, ls, lz, lr⟩ := HBase.out; clear X x0 x1 x2 x3 lx; have X := nx; clear nx; obtain ⟨x0, x1, x2, x3, lx⟩ := X.out; clear Y y0 y1 y2 y3 ly; have Y := ny; clear ny; obtain ⟨y0, y1, y2, y3, ly⟩ := Y.out))
      go_roundw
      case rel => exact ⟨2, by omega, rfl, HB.out, HBase.out⟩
      case measure => simp [intOf]
    · go_wp2
      go_ret
      exact ⟨rfl, HB.out⟩
end Go.Proofs.Ytakmcbakogjeeaa.LeN
