/- FrameKinds: Eliciting and Allowed of the reference, Eliciting of the code; no condition. -/
import Derived.Test.YtmkojmjjlcfohaaDoorFrameKinds1
set_option linter.unusedVariables false
set_option linter.unusedSimpArgs false
namespace Go.Proofs.YtmkojmjjlcfohaaDoor
open Go.RowKit
def elicB (k : Int) : Bool := knownB k && !decide (k = 0 ∨ k = 2 ∨ k = 3 ∨ k = 28 ∨ k = 29)
set_option maxRecDepth 100000 in
theorem elic_c (k : Int) (w : World) : Calls Tryd.prog 14 #[.int .i64 k] w fun e w' => e = .returned (.bool (elicB k)) ∧ w = w' := by
  go_enter Tryd.func14, Tryd.ntmps14
  go_wp2_with (go_at_call 36; refine (known_c _ _).mono ?_; rintro e w' ⟨rfl, rfl⟩)
  all_goals
    go_ret
    refine ⟨?_, rfl⟩
    refine congrArg (fun b => Ending.returned (Value.bool b)) ?_
    rw [Bool.eq_iff_iff]
    simp only [beq_iff_eq, beq_eq_false_iff_ne, ne_eq, bne_iff_ne] at *
    simp only [elicB, knownB, Bool.and_eq_true, decide_eq_true_eq, Bool.not_eq_true', decide_eq_false_iff_not, Bool.false_eq_true, false_iff]
    omega
set_option maxRecDepth 100000 in
theorem relic_c (k : Int) (w : World) : Calls Tryd.prog 15 #[.int .i64 k] w fun e w' => e = .returned (.bool (elicB k)) ∧ w = w' := by
  go_enter Tryd.func15, Tryd.ntmps15
  go_wp2_with (go_at_call 37; refine (rknown_c _ _).mono ?_; rintro e w' ⟨rfl, rfl⟩)
  all_goals
    go_ret
    refine ⟨?_, rfl⟩
    refine congrArg (fun b => Ending.returned (Value.bool b)) ?_
    rw [Bool.eq_iff_iff]
    try simp only [beq_iff_eq, beq_eq_false_iff_ne, ne_eq, bne_iff_ne] at *
    simp [elicB, knownB] at *
    try omega
end Go.Proofs.YtmkojmjjlcfohaaDoor
