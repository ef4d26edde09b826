/- PathApart's state: three paths. -/
import Derived.Test.YtpilpgdlgkndmaaPath5
set_option linter.unusedVariables false
set_option linter.unusedSimpArgs false
namespace Go.Proofs.Ytpilpgdlgkndmaa.Pm
open Go.RowKit Go.Maps
theorem key1 : keyOf Try.prog 3 (.int .i64 1) = some (.int .i64 1) := keyOf_int_mk Try.underlying3 (by decide +kernel)
theorem key2 : keyOf Try.prog 3 (.int .i64 2) = some (.int .i64 2) := keyOf_int_mk Try.underlying3 (by decide +kernel)
theorem key3 : keyOf Try.prog 3 (.int .i64 3) = some (.int .i64 3) := keyOf_int_mk Try.underlying3 (by decide +kernel)
theorem key9 : keyOf Try.prog 3 (.int .i64 9) = some (.int .i64 9) := keyOf_int_mk Try.underlying3 (by decide +kernel)
/-- The three paths, in the middle of the law; s0: the heap's size when the law began. -/
structure S3 (w W : World) (p m g0 g1 g2 : Nat) (x s z : Int) (v2 : Bool) : Prop where
  pth : Pth W p m 3 (D3 g0 g1 g2)
  o0 : One W g0 true 0 0
  o1 : One W g1 false x s
  o2 : One W g2 v2 z 0
  n01 : g0 < g1
  n12 : g1 < g2
  b0 : w.heap.size ≤ g0
  bl : Below w.heap.size w W
theorem S3.drewN {w W : World} {p m g0 g1 g2 : Nat} {x s z : Int} {v2 : Bool} (h : S3 w W p m g0 g1 g2 x s z v2) (j : Nat) : S3 w (W.drewN j) p m g0 g1 g2 x s z v2 :=
  ⟨h.pth.drewN j, h.o0.drewN j, h.o1.drewN j, h.o2.drewN j, h.n01, h.n12, h.b0, ⟨h.bl.os, h.bl.tape, h.bl.output, h.bl.size, h.bl.block⟩⟩
theorem S3.sent {w W : World} {p m g0 g1 g2 : Nat} {x s z : Int} {v2 : Bool} (h : S3 w W p m g0 g1 g2 x s z v2) (b : Int) : S3 w (W.setCell ⟨g1, 2, none⟩ (.int .i64 b)) p m g0 g1 g2 x b z v2 :=
  ⟨h.pth.setCell h.o1 2 _, h.o0.setOther (Nat.ne_of_lt h.n01) 2 _, h.o1.setSent b, h.o2.setOther (Nat.ne_of_gt h.n12) 2 _, h.n01, h.n12, h.b0, h.bl.setCell (Nat.le_trans h.b0 (Nat.le_of_lt h.n01)) _⟩
theorem S3.valid {w W : World} {p m g0 g1 g2 : Nat} {x s z : Int} {v2 : Bool} (h : S3 w W p m g0 g1 g2 x s z v2) : S3 w (W.setCell ⟨g2, 0, none⟩ (.bool true)) p m g0 g1 g2 x s z true :=
  ⟨h.pth.setCell h.o2 0 _, h.o0.setOther (Nat.ne_of_lt (Nat.lt_trans h.n01 h.n12)) 0 _, h.o1.setOther (Nat.ne_of_lt h.n12) 0 _, h.o2.setValid, h.n01, h.n12, h.b0, h.bl.setCell (Nat.le_trans h.b0 (Nat.le_of_lt (Nat.lt_trans h.n01 h.n12))) _⟩
end Go.Proofs.Ytpilpgdlgkndmaa.Pm
