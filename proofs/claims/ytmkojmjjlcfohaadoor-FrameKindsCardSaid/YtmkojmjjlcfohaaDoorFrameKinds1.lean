/- FrameKinds: the walks of the small functions on kinds; no condition. -/
import Derived.Test.YtmkojmjjlcfohaaDoorChecked
import Derived.Test.YtmkojmjjlcfohaaDoorMin
import Derived.Handy
set_option linter.unusedVariables false
set_option linter.unusedSimpArgs false
namespace Go.Proofs.YtmkojmjjlcfohaaDoor
open Go.RowKit
def knownB (k : Int) : Bool := decide (0 ≤ k ∧ k ≤ 30 ∨ k = 48 ∨ k = 49)
theorem known_c (k : Int) (w : World) : Calls Tryd.prog 36 #[.int .i64 k] w fun e w' => e = .returned (.bool (knownB k)) ∧ w = w' := by
  go_enter Tryd.func36, Tryd.ntmps36
  go_wp2
  all_goals
    go_ret
    refine ⟨?_, rfl⟩
    refine congrArg (fun b => Ending.returned (Value.bool b)) ?_
    rw [Bool.eq_iff_iff]
    simp [knownB]
    try omega
theorem rknown_c (k : Int) (w : World) : Calls Tryd.prog 37 #[.int .i64 k] w fun e w' => e = .returned (.bool (knownB k)) ∧ w = w' := by
  go_enter Tryd.func37, Tryd.ntmps37
  go_wp2
  all_goals
    go_ret
    refine ⟨?_, rfl⟩
    refine congrArg (fun b => Ending.returned (Value.bool b)) ?_
    rw [Bool.eq_iff_iff]
    simp [knownB]
    try omega
end Go.Proofs.YtmkojmjjlcfohaaDoor
