/- Div64 whole. -/
import Derived.Test.YtmkojmjjlcfohaaPacerDiv
import Derived.Test.YtmkojmjjlcfohaaPacE2
set_option linter.unusedVariables false
namespace Go.Proofs.Ytmkojmjjlcfohaa.Pc
open Go.RowKit
theorem div_ok : DivOk := by
  refine ⟨?_⟩
  intro hi lo y0 hh hh1 hx hx1 hb1 w
  by_cases h : hi = 0
  · subst h
    refine (div64_0 lo y0 hx hx1 (by omega) hb1 w).mono ?_
    rintro e w' ⟨rfl, m, rfl⟩
    rw [Int.zero_mul, Int.zero_add]
    exact ⟨⟨_, rfl⟩, m, rfl⟩
  · refine (div64_hi hi lo y0 (by omega) hh1 hx hx1 hb1 w).mono ?_
    rintro e w' ⟨⟨r, rfl⟩, rfl⟩
    exact ⟨⟨_, rfl⟩, 0, rfl⟩
end Go.Proofs.Ytmkojmjjlcfohaa.Pc
