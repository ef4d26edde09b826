/- FrameKinds: Why of nil, and of an *api.Close; no condition but the one on errors.errorType. -/
import Derived.Test.YtmkojmjjlcfohaaDoorFrameKinds4
import Derived.Test.YtmkojmjjlcfohaaDoorErrAs
set_option linter.unusedVariables false
set_option linter.unusedSimpArgs false
namespace Go.Proofs.YtmkojmjjlcfohaaDoor
open Go.RowKit
set_option maxRecDepth 100000 in
theorem why_nil (w : World) : Calls Tryd.prog 13 #[.nilIface] w fun e w' => e = .returned (.tuple #[.int .i64 0, .int .i64 0]) ∧ Below w.heap.size w w' := by
  go_enter Tryd.func13, Tryd.ntmps13
  go_wp2
  go_returns
  exact ⟨rfl, by repeat (first | exact Below.refl _ _ | apply Bl.alloc)⟩
/-- as_hit, told by cells: the variable at the block made last. -/
theorem as_hit_told (b : Nat) (w : World) (o : Obj) (code er v0 : Int) (hg : w.cell? ⟨0, 0, none⟩ = some (.iface 133 (.agg #[.pointer (some ⟨2, 60, none⟩)])))
    (h0 : w.cell? ⟨b, 0, none⟩ = some (.int .i64 code)) (h3 : w.cell? ⟨b, 3, none⟩ = some (.int .i64 er)) :
    Calls Tryd.prog 38 #[.iface 42 (.pointer (some ⟨b, 0, none⟩)), .iface 88 (.pointer (some ⟨w.heap.size + 1, 0, none⟩))] ((w.alloc (.cells #[.int .i64 v0] 26)).alloc (.cells #[.pointer none] 42)) fun ev w' =>
      ev = .returned (.bool true) ∧ Below w.heap.size w w' ∧ w'.cell? ⟨w.heap.size, 0, none⟩ = some (.int .i64 v0) ∧ w'.frozen? ⟨w.heap.size, 0, none⟩ = false ∧ w'.cell? ⟨w.heap.size + 1, 0, none⟩ = some (.pointer (some ⟨b, 0, none⟩)) := by
  refine (as_hit ⟨b, 0, none⟩ ⟨w.heap.size + 1, 0, none⟩ (.pointer none) _ (Bl.cell (by repeat (first | exact Below.refl _ _ | apply Bl.alloc)) hg) (by go_simp) (by go_simp)).mono ?_
  rintro ev w' ⟨rfl, rfl⟩
  refine ⟨rfl, ?_, ?_, ?_, ?_⟩
  · exact Below.setCell (by repeat (first | exact Below.refl _ _ | apply Bl.alloc)) (by simp) _
  · go_simp
  · go_simp
  · go_simp
set_option maxRecDepth 100000 in
set_option maxHeartbeats 1000000 in
theorem why_close (w : World) (b : Nat) (code er : Int) (hg : w.cell? ⟨0, 0, none⟩ = some (.iface 133 (.agg #[.pointer (some ⟨2, 60, none⟩)])))
    (h0 : w.cell? ⟨b, 0, none⟩ = some (.int .i64 code)) (h3 : w.cell? ⟨b, 3, none⟩ = some (.int .i64 er)) :
    Calls Tryd.prog 13 #[.iface 42 (.pointer (some ⟨b, 0, none⟩))] w fun e w' => e = .returned (.tuple #[.int .i64 er, .int .i64 code]) ∧ Below w.heap.size w w' := by
  have H := Hd.mk hg
  have hlt := World.block_lt_of_cell? w _ h0
  have hlt0 := World.block_lt_of_cell? w _ hg
  simp only at hlt hlt0
  go_enter Tryd.func13, Tryd.ntmps13
  go_wp2_with (go_at_call 38; refine (as_hit_told b w (.cells #[] 0) code er 0 H.out h0 h3).mono ?_; rintro ev w' ⟨rfl, hb, e0, ef, c0⟩; have b0 := Bl.cell hb h0; have b3 := Bl.cell hb h3; have HB := Hd.mk hb; clear hb)
  all_goals go_region
  all_goals go_wp2
  all_goals
    have e1 : (w'.setCell ⟨w.heap.size, 0, none⟩ (.int .i64 er)).cell? ⟨w.heap.size, 0, none⟩ = some (.int .i64 er) := World.cell?_setCell_same' _ _ _ (by rw [e0]; rfl)
    refine bodyPost_ret (by simp [results, Tryd.results13, go_sem, e1]; try rfl) rfl ?_
    exact ⟨rfl, Bl.drew (Below.setCell HB.out (by simp) _)⟩
end Go.Proofs.YtmkojmjjlcfohaaDoor
