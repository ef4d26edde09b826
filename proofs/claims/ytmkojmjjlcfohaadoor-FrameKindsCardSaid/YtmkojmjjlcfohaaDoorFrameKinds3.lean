/- FrameKinds: Allowed of the reference; no condition. -/
import Derived.Test.YtmkojmjjlcfohaaDoorFrameKinds1
set_option linter.unusedVariables false
set_option linter.unusedSimpArgs false
namespace Go.Proofs.YtmkojmjjlcfohaaDoor
open Go.RowKit
def allowB (k p : Int) : Bool := knownB k && decide (((p = 0 ∨ p = 2) ∧ (k = 0 ∨ k = 1 ∨ k = 2 ∨ k = 3 ∨ k = 6 ∨ k = 28)) ∨ (p = 1 ∧ ¬(k = 2 ∨ k = 3 ∨ k = 6 ∨ k = 7 ∨ k = 27 ∨ k = 25 ∨ k = 30)) ∨ p = 5)
set_option maxRecDepth 100000 in
set_option maxHeartbeats 1000000 in
theorem rallow_c (k p : Int) (w : World) : Calls Tryd.prog 12 #[.int .i64 k, .int .i64 p] w fun e w' => e = .returned (.bool (allowB k p)) ∧ w = w' := by
  go_enter Tryd.func12, Tryd.ntmps12
  go_wp2_with (go_at_call 37; refine (rknown_c _ _).mono ?_; rintro e w' ⟨rfl, rfl⟩)
  all_goals
    go_ret
    refine ⟨?_, rfl⟩
    refine congrArg (fun b => Ending.returned (Value.bool b)) ?_
    rw [Bool.eq_iff_iff]
    try simp only [beq_iff_eq, beq_eq_false_iff_ne, ne_eq, bne_iff_ne] at *
    simp [allowB, knownB] at *
    try omega
end Go.Proofs.YtmkojmjjlcfohaaDoor
