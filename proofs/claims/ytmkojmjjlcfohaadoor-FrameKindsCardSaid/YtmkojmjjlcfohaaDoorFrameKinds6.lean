/- FrameKinds: the law's walk; the one condition: errors.errorType lies as it was laid. -/
import Derived.Test.YtmkojmjjlcfohaaDoorFrameKinds2
import Derived.Test.YtmkojmjjlcfohaaDoorFrameKinds5
set_option linter.unusedVariables false
set_option linter.unusedSimpArgs false
namespace Go.Proofs.YtmkojmjjlcfohaaDoor
open Go.RowKit
set_option maxRecDepth 100000 in
set_option maxHeartbeats 1000000 in
theorem kinds_walk (k p : Int) (w : World) (hg : w.cell? ⟨0, 0, none⟩ = some (.iface 133 (.agg #[.pointer (some ⟨2, 60, none⟩)]))) :
    Calls Tryd.prog 4 #[.int .i64 k, .int .i64 p] w fun e w' => e = .returned (.bool true) ∧ Below w.heap.size w w' := by
  go_enter Tryd.func4, Tryd.ntmps4
  go_wp2
  go_loopw [5] (fun i W => ∃ j : Int, -1 ≤ j ∧ j ≤ 8 ∧ i = .int .i64 j ∧ Below w.heap.size w W) (fun i _ => (8 - intOf i).toNat)
  case atStart => exact ⟨-1, by omega, by omega, rfl, Below.refl _ _⟩
  case round =>
    obtain ⟨j, hj0, hj1, rfl, hb⟩ := hrel
    have HB := Hd.mk hb
    clear hb
    go_wp2_with (first
      | (go_at_call 11; refine (allow_c _ _ _).mono ?_; rintro e w1 ⟨rfl, hb⟩; have n1 := Hd.mk (Bl.then HB.out (Bl.then (by repeat (first | exact Below.refl _ _ | apply Bl.alloc | apply Bl.drewN | apply Bl.drew)) hb)); clear HB hb; have HB := n1; clear n1)
      | (go_at_call 13; with_reducible refine (why_nil _).mono ?_; rintro e w1 ⟨rfl, hb⟩; have n1 := Hd.mk (Bl.then HB.out (Bl.then (by repeat (first | exact Below.refl _ _ | apply Bl.alloc | apply Bl.drewN | apply Bl.drew)) hb)); clear HB hb; have HB := n1; clear n1)
      | (go_at_call 13; refine (why_close _ _ 9 30 (Bl.cell (Bl.alloc HB.out _) hg) (by go_simp) (by go_simp)).mono ?_; rintro e w1 ⟨rfl, hb⟩; have n1 := Hd.mk (Bl.then HB.out (Bl.then (by repeat (first | exact Below.refl _ _ | apply Bl.alloc | apply Bl.drewN | apply Bl.drew)) hb)); clear HB hb; have HB := n1; clear n1)
      | (go_at_call 14; refine (elic_c _ _).mono ?_; rintro e w' ⟨rfl, rfl⟩)
      | (go_at_call 15; refine (relic_c _ _).mono ?_; rintro e w' ⟨rfl, rfl⟩)
      | (go_at_call 12; refine (rallow_c _ _ _).mono ?_; rintro e w' ⟨rfl, rfl⟩))
    · go_roundw
      case rel => exact ⟨j + 1, by omega, by omega, rfl, HB.out⟩
      case measure => simp [intOf]; omega
    · go_ret
      exact ⟨rfl, HB.out⟩
end Go.Proofs.YtmkojmjjlcfohaaDoor
