/- The walks of the calls on what no call made (caravel/caravellaw23.ConnidNobody); no condition. -/
import Derived.Test.YtiadfikhfimcoaaChecked
import Derived.Test.YtiadfikhfimcoaaMin
import Derived.Handy
import Derived.WalkMore
set_option linter.unusedVariables false
set_option linter.unusedSimpArgs false
namespace Go.Proofs.Ytiadfikhfimcoaa.CoO
open Go.RowKit

/-- No call made it: all fields zero. -/
structure Zero (w : World) (g : Nat) : Prop where
  c0 : w.cell? ⟨g, 0, none⟩ = some (.int .i64 0)
  c1 : w.cell? ⟨g, 1, none⟩ = some (.map none)
  c2 : w.cell? ⟨g, 2, none⟩ = some (.map none)
  c3 : w.cell? ⟨g, 3, none⟩ = some (.int .i64 0)
theorem Zero.below {w w' : World} {g : Nat} (h : Zero w g) (hb : Below w.heap.size w w') : Zero w' g :=
  ⟨Bl.cell hb h.c0, Bl.cell hb h.c1, Bl.cell hb h.c2, Bl.cell hb h.c3⟩
def Nob (w : World) (p : Value) : Prop := p = .pointer none ∨ ∃ g, p = .pointer (some ⟨g, 0, none⟩) ∧ Zero w g
theorem Nob.below {w w' : World} {p : Value} (h : Nob w p) (hb : Below w.heap.size w w') : Nob w' p := by
  rcases h with rfl | ⟨g, rfl, h⟩
  · exact .inl rfl
  · exact .inr ⟨g, rfl, h.below hb⟩
set_option maxRecDepth 100000 in
set_option maxHeartbeats 2000000 in
theorem none_any (w : World) (p : Value) (h : Nob w p) : Calls Try.prog 57 #[p] w fun e w' => e = .returned (.bool true) ∧ w = w' := by
  rcases h with rfl | ⟨g, rfl, h⟩
  · have heq : ∀ W : World, (binOp .eql 93 (.map none) (.map none)).run Try.prog W = .ok (.bool true) W := fun _ => by kernel_rfl
    go_enter Try.func57, Try.ntmps57
    go_wp2
    all_goals
      go_ret
      exact ⟨rfl, rfl⟩
  · obtain ⟨c0, c1, c2, c3⟩ := h
    have heq : ∀ W : World, (binOp .eql 93 (.map none) (.map none)).run Try.prog W = .ok (.bool true) W := fun _ => by kernel_rfl
    go_enter Try.func57, Try.ntmps57
    go_wp2
    all_goals
      go_ret
      exact ⟨rfl, rfl⟩

set_option maxRecDepth 100000 in
set_option maxHeartbeats 1000000 in
theorem issue_any (w : World) (p : Value) (aa : Option Addr) (an ac : Nat) (h : Nob w p) :
    Calls Try.prog 28 #[p, .slice aa an ac] w fun e w' => e = .returned (.tuple #[.int .i64 0, .int .i64 1]) ∧ w = w' := by
  have H := Hd.mk h
  clear h
  go_enter Try.func28, Try.ntmps28
  go_wp2_with (first
    | (go_at_call 57; refine (none_any _ _ (H.out.below (by repeat (first | exact Below.refl _ _ | apply Bl.alloc | apply Bl.drewN | apply Bl.drew)))).mono ?_; rintro e w' ⟨rfl, rfl⟩))
  all_goals
    go_ret2
    exact ⟨rfl, rfl⟩
set_option maxRecDepth 100000 in
set_option maxHeartbeats 1000000 in
theorem retired_any (w : World) (p : Value) (n : Int) (aa : Option Addr) (an ac : Nat) (h : Nob w p) :
    Calls Try.prog 34 #[p, .int .i64 n, .slice aa an ac] w fun e w' => e = .returned (.tuple #[.slice none 0 0, .iface 24 (.int .i64 1)]) ∧ w = w' := by
  have H := Hd.mk h
  clear h
  go_enter Try.func34, Try.ntmps34
  go_wp2_with (first
    | (go_at_call 57; refine (none_any _ _ (H.out.below (by repeat (first | exact Below.refl _ _ | apply Bl.alloc | apply Bl.drewN | apply Bl.drew)))).mono ?_; rintro e w' ⟨rfl, rfl⟩))
  all_goals
    go_ret2
    exact ⟨rfl, rfl⟩
set_option maxRecDepth 100000 in
set_option maxHeartbeats 1000000 in
theorem has_any (w : World) (p : Value) (aa : Option Addr) (an ac : Nat) (h : Nob w p) :
    Calls Try.prog 33 #[p, .slice aa an ac] w fun e w' => e = .returned (.tuple #[.int .i64 0, .bool false]) ∧ w = w' := by
  have H := Hd.mk h
  clear h
  go_enter Try.func33, Try.ntmps33
  go_wp2_with (first
    | (go_at_call 57; refine (none_any _ _ (H.out.below (by repeat (first | exact Below.refl _ _ | apply Bl.alloc | apply Bl.drewN | apply Bl.drew)))).mono ?_; rintro e w' ⟨rfl, rfl⟩))
  all_goals
    go_ret2
    exact ⟨rfl, rfl⟩
set_option maxRecDepth 100000 in
set_option maxHeartbeats 1000000 in
theorem told_any (w : World) (p : Value)  (h : Nob w p) :
    Calls Try.prog 29 #[p] w fun e w' => e = .returned (.tuple #[.int .i64 0, .int .i64 0]) ∧ w = w' := by
  have H := Hd.mk h
  clear h
  go_enter Try.func29, Try.ntmps29
  go_wp2_with (first
    | (go_at_call 57; refine (none_any _ _ (H.out.below (by repeat (first | exact Below.refl _ _ | apply Bl.alloc | apply Bl.drewN | apply Bl.drew)))).mono ?_; rintro e w' ⟨rfl, rfl⟩))
  all_goals
    go_ret2
    exact ⟨rfl, rfl⟩
/-- What the law's loop rests on. -/
structure Base (w : World) (s z r : Nat) (k : Int) (q : Int) (t : Int) (aa : Option Addr) (an : Nat) (ac : Nat) (ba : Option Addr) (bn : Nat) (bc : Nat) (m0 : Int) (m1 : Int) (m2 : Int) (m3 : Int) (m4 : Int) (m5 : Int) (m6 : Int) (m7 : Int) (m8 : Int) (m9 : Int) (m10 : Int) (m11 : Int) (m12 : Int) (m13 : Int) (m14 : Int) (m15 : Int) : Prop where
  a0 : w.cell? ⟨s, 0, none⟩ = some (.int .i64 k)
  a1 : w.cell? ⟨s, 1, none⟩ = some (.int .i64 q)
  a2 : w.cell? ⟨s, 2, none⟩ = some (.int .i64 t)
  a3 : w.cell? ⟨s, 3, none⟩ = some (.slice aa an ac)
  a4 : w.cell? ⟨s, 4, none⟩ = some (.slice ba bn bc)
  a5 : w.cell? ⟨s, 5, none⟩ = some (.int .u8 m0)
  a6 : w.cell? ⟨s, 6, none⟩ = some (.int .u8 m1)
  a7 : w.cell? ⟨s, 7, none⟩ = some (.int .u8 m2)
  a8 : w.cell? ⟨s, 8, none⟩ = some (.int .u8 m3)
  a9 : w.cell? ⟨s, 9, none⟩ = some (.int .u8 m4)
  a10 : w.cell? ⟨s, 10, none⟩ = some (.int .u8 m5)
  a11 : w.cell? ⟨s, 11, none⟩ = some (.int .u8 m6)
  a12 : w.cell? ⟨s, 12, none⟩ = some (.int .u8 m7)
  a13 : w.cell? ⟨s, 13, none⟩ = some (.int .u8 m8)
  a14 : w.cell? ⟨s, 14, none⟩ = some (.int .u8 m9)
  a15 : w.cell? ⟨s, 15, none⟩ = some (.int .u8 m10)
  a16 : w.cell? ⟨s, 16, none⟩ = some (.int .u8 m11)
  a17 : w.cell? ⟨s, 17, none⟩ = some (.int .u8 m12)
  a18 : w.cell? ⟨s, 18, none⟩ = some (.int .u8 m13)
  a19 : w.cell? ⟨s, 19, none⟩ = some (.int .u8 m14)
  a20 : w.cell? ⟨s, 20, none⟩ = some (.int .u8 m15)
  z0 : Zero w z
  r0 : w.cell? ⟨r, 0, none⟩ = some (.pointer none)
  r1 : w.cell? ⟨r, 1, none⟩ = some (.pointer (some ⟨z, 0, none⟩))
  ls : s < w.heap.size
  lz : z < w.heap.size
  lr : r < w.heap.size
theorem Base.below {w w' : World} {s z r : Nat} {k : Int} {q : Int} {t : Int} {aa : Option Addr} {an : Nat} {ac : Nat} {ba : Option Addr} {bn : Nat} {bc : Nat} {m0 : Int} {m1 : Int} {m2 : Int} {m3 : Int} {m4 : Int} {m5 : Int} {m6 : Int} {m7 : Int} {m8 : Int} {m9 : Int} {m10 : Int} {m11 : Int} {m12 : Int} {m13 : Int} {m14 : Int} {m15 : Int} (h : Base w s z r k q t aa an ac ba bn bc m0 m1 m2 m3 m4 m5 m6 m7 m8 m9 m10 m11 m12 m13 m14 m15) (hb : Below w.heap.size w w') : Base w' s z r k q t aa an ac ba bn bc m0 m1 m2 m3 m4 m5 m6 m7 m8 m9 m10 m11 m12 m13 m14 m15 :=
  ⟨Bl.cell hb h.a0, Bl.cell hb h.a1, Bl.cell hb h.a2, Bl.cell hb h.a3, Bl.cell hb h.a4, Bl.cell hb h.a5, Bl.cell hb h.a6, Bl.cell hb h.a7, Bl.cell hb h.a8, Bl.cell hb h.a9, Bl.cell hb h.a10, Bl.cell hb h.a11, Bl.cell hb h.a12, Bl.cell hb h.a13, Bl.cell hb h.a14, Bl.cell hb h.a15, Bl.cell hb h.a16, Bl.cell hb h.a17, Bl.cell hb h.a18, Bl.cell hb h.a19, Bl.cell hb h.a20, h.z0.below hb, Bl.cell hb h.r0, Bl.cell hb h.r1, Nat.lt_of_lt_of_le h.ls hb.size, Nat.lt_of_lt_of_le h.lz hb.size, Nat.lt_of_lt_of_le h.lr hb.size⟩
def Rel (w : World) (k : Int) (q : Int) (t : Int) (aa : Option Addr) (an : Nat) (ac : Nat) (ba : Option Addr) (bn : Nat) (bc : Nat) (m0 : Int) (m1 : Int) (m2 : Int) (m3 : Int) (m4 : Int) (m5 : Int) (m6 : Int) (m7 : Int) (m8 : Int) (m9 : Int) (m10 : Int) (m11 : Int) (m12 : Int) (m13 : Int) (m14 : Int) (m15 : Int) (i : Value) (W : World) : Prop :=
  ∃ j : Nat, j ≤ 2 ∧ i = .int .i64 j ∧ Below w.heap.size w W ∧ Base W w.heap.size (w.heap.size + 1) (w.heap.size + 2) k q t aa an ac ba bn bc m0 m1 m2 m3 m4 m5 m6 m7 m8 m9 m10 m11 m12 m13 m14 m15
end Go.Proofs.Ytiadfikhfimcoaa.CoO
