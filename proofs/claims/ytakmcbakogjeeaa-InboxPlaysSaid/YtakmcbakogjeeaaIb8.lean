/- Boxes (layer 6): Grow; no condition. -/
import Derived.Test.YtakmcbakogjeeaaIb1
set_option linter.unusedVariables false
set_option linter.unusedSimpArgs false
namespace Go.Proofs.Ytakmcbakogjeeaa.Ib
open Go Go.RowKit Go.Maps Go.Proofs.Ytakmcbakogjeeaa.Rm
open Go.Proofs.YtakmcbakogjeeaaW.PrintWords Go.Proofs.YtakmcbakogjeeaaW.PrintLast Go.Proofs.YtakmcbakogjeeaaW.PrintMore
variable {W W' : World} {b g m n : Nat} {h : Hd} {kv : KV}
set_option maxRecDepth 100000 in
set_option maxHeartbeats 3200000 in
/-- A room that is refused. -/
theorem grow_bad (x : BoxAt W b g m n h kv) (room : Int) (hr : room < 0 ∨ 1048576 < room) (h0 : -9223372036854775808 ≤ room) (h1 : room ≤ 9223372036854775807) :
    Calls Try.prog 23 #[.pointer (some ⟨g, 0, none⟩), .int .i64 room] W fun e w' => e = .returned (.int .i64 2) ∧ W = w' := by
  have X := Aside0.mk x
  clear x
  go_enter Try.func23, Try.ntmps23
  by_cases hz : room < 0
  · clear hr
    go_wp2_with (go_at_call 74; (with_reducible refine (none_s X.out).mono ?_); rintro e w' ⟨rfl, rfl⟩)
    go_ret
    exact ⟨rfl, rfl⟩
  · have hr' : 1048576 < room := by omega
    have hz' : 0 ≤ room := by omega
    clear hr hz
    go_wp2_with (go_at_call 74; (with_reducible refine (none_s X.out).mono ?_); rintro e w' ⟨rfl, rfl⟩)
    go_ret
    exact ⟨rfl, rfl⟩
theorem run_mx (x y : Int) (W : World) : (Builtin.max_ #[3, 3] 3 #[.int .i64 x, .int .i64 y]).run Try.prog W = .ok (.int .i64 (max x y)) W := by
  have h : (if x < y then y else x) = max x y := by split <;> omega
  rw [← h]
  simp [Builtin.max_, Builtin.max2, go_sem]
set_option maxRecDepth 100000 in
set_option maxHeartbeats 3200000 in
/-- A room that is taken. -/
theorem grow_s (x : BoxAt W b g m n h kv) (room : Int) (hr0 : 0 ≤ room) (hr1 : room ≤ 1048576) (hp0 : 0 ≤ h.place) (hp1 : h.place ≤ 4611686018427387903) (hl0 : 0 ≤ h.limit) (hl1 : h.limit ≤ 4611686019427387903) :
    Calls Try.prog 23 #[.pointer (some ⟨g, 0, none⟩), .int .i64 room] W fun e w' => e = .returned (.int .i64 0) ∧ BoxAt w' b g m n { h with room := room, limit := max h.limit (h.place + room) } kv ∧ (∀ k, k ≠ g → w'.heap[k]? = W.heap[k]?) ∧ Below b W w' := by
  have m1 := run_mx h.limit (h.place + room)
  obtain ⟨rc, hrc⟩ : ∃ rc, max h.limit (h.place + room) = rc := ⟨_, rfl⟩
  rw [hrc] at m1 ⊢
  clear hrc
  have X := Aside0.mk x
  have hgx : b ≤ (⟨g, 1, none⟩ : Addr).block := x.hg
  clear x
  have f1 := X.out.free 1
  have cc1 := X.out.c.2.1
  go_enter Try.func23, Try.ntmps23
  go_wp2_with (go_at_call 74; (with_reducible refine (none_s X.out).mono ?_); rintro e w' ⟨rfl, rfl⟩)
  have y1 := X.out.put 1 (.int .i64 room) { h with room := room } rfl
  have far1 : ∀ k, k ≠ g → (W.setCell ⟨g, 1, none⟩ (.int .i64 room)).heap[k]? = W.heap[k]? := fun k hk => Below.heap_setCell W ⟨g, 1, none⟩ (.int .i64 room) k hk
  have hb1 : Below b W (W.setCell ⟨g, 1, none⟩ (.int .i64 room)) := (Below.refl b W).setCell (p := ⟨g, 1, none⟩) hgx _
  obtain ⟨W1, hW1⟩ : ∃ W1, W.setCell ⟨g, 1, none⟩ (.int .i64 room) = W1 := ⟨_, rfl⟩
  simp only [hW1] at y1 far1 hb1 ⊢
  have Y := Aside0.mk y1
  have HB := Aside0.mk hb1
  have FAR := Aside0.mk far1
  clear y1 far1 hb1 hW1 cc1 f1
  obtain ⟨c0, c1, c2, c3, c4, c5, c6, c7⟩ := Y.out.c
  have f3 := Y.out.free 3
  simp only at c1 c2 c3 c4 c5 c6
  go_region
  have y2 := Y.out.put 3 (.int .i64 rc) { h with room := room, limit := rc } rfl
  go_wp2_with fail
  go_ret
  exact ⟨rfl, ⟨y2.hg, y2.hm, y2.blk, y2.mp.drew⟩, fun k hk => (Below.heap_setCell W1 ⟨g, 3, none⟩ (.int .i64 rc) k hk).trans (FAR.out k hk), (HB.out.setCell (p := ⟨g, 3, none⟩) hgx _).drew⟩
end Go.Proofs.Ytakmcbakogjeeaa.Ib
