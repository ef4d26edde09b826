/- Wheels (layer 25): place; no condition. -/
import Derived.Test.YtakmcbakogjeeaaWh4
import Derived.Outline
set_option linter.unusedVariables false
set_option linter.unusedSimpArgs false
namespace Go.Proofs.Ytakmcbakogjeeaa.Wh
open Go Go.RowKit Go.Maps Go.Proofs.Ytakmcbakogjeeaa.Rm Go.Proofs.Ytakmcbakogjeeaa.Rw
open Go.Proofs.YtakmcbakogjeeaaW.PrintWords Go.Proofs.YtakmcbakogjeeaaW.PrintLast Go.Proofs.YtakmcbakogjeeaaW.PrintMore
variable {W W' W2 : World} {b p m n : Nat} {now : Int} {kv : KV} {R : List Row} {x x' : Row} {F F' F2 : Nat → Prop}
set_option maxRecDepth 100000 in
set_option maxHeartbeats 1600000 in
theorem place_late (h : WhAt W b p m n now kv R) (hbw : b ≤ W.heap.size) {k a : Int} (hj : R[576]? = some x) (hl : x.2.length + 1 ≤ 1099511627776) (ha : a ≤ now) :
    Calls Try.prog 83 #[.pointer (some ⟨p, 0, none⟩), .agg #[.int .i64 k, .int .i64 a]] W fun e w' => e = .returned (.tuple #[]) ∧ ∃ v1, WhAt w' b p m n now kv (R.set 576 (v1, x.2 ++ [(k, a)])) ∧ Lf W w' b (foot p m R) (foot p m (R.set 576 (v1, x.2 ++ [(k, a)]))) := by
  obtain ⟨nb, hnb⟩ : ∃ nb, W.heap.size = nb := ⟨_, rfl⟩
  have HB1 := Aside0.mk (below_alloc (Below.refl _ W) (.cells #[.int .i64 k, .int .i64 a] 160 (0, 0)))
  have hnw := heap_alloc_new W (.cells #[.int .i64 k, .int .i64 a] 160 (0, 0))
  have HP := h.below HB1.out
  go_enter Try.func83, Try.ntmps83
  go_upto_region 1 with fail
  rw [hnb] at hnw
  generalize hW1 : W.alloc (.cells #[.int .i64 k, .int .i64 a] 160 (0, 0)) = W1 at *
  have hsz : b ≤ W1.heap.size := Nat.le_trans hbw HB1.out.size
  obtain ⟨G, c, w1, hap, g3, g4, hR⟩ := HP.add hsz hj hl (k, a)
  obtain ⟨G0, c0, hv0⟩ := (HP.row x (List.mem_of_getElem? hj)).val
  have HR := Aside0.mk hR
  simp only [show 2 + 576 = 578 from rfl] at g3 g4
  have c1 := HP.c.2.1
  have c578 := HP.cr hj
  simp only [show 2 + 576 = 578 from rfl] at c578
  have b0 : W1.cell? ⟨nb, 0, none⟩ = some (.int .i64 k) ∧ W1.cell? ⟨nb, 1, none⟩ = some (.int .i64 a) := by
    refine ⟨?_, ?_⟩ <;> (rw [cell_of_row _ _ _ _ _ _ hnw]; rfl)
  obtain ⟨b0, b1⟩ := b0
  have kp : ∀ nd j, j < W1.heap.size → ((W1.drewN nd).alloc (.cells #[.int .i64 k, .int .i64 a] 160)).heap[j]? = W1.heap[j]? := fun nd j hj => (Below.heap_alloc (W1.drewN nd) _ j (by simpa using hj)).trans (by simp)
  have hpl := (HP.foot_ty (.inl rfl)).1
  have hnl : nb < W1.heap.size := (Array.getElem?_eq_some_iff.1 hnw).1
  have n0 := fun nd => (World.cell?_of_block (a := ⟨nb, 0, none⟩) (kp nd nb hnl)).trans b0
  have n1 := fun nd => (World.cell?_of_block (a := ⟨nb, 1, none⟩) (kp nd nb hnl)).trans b1
  have n3 := fun nd => (World.cell?_of_block (a := ⟨p, 578, none⟩) (kp nd p hpl)).trans c578
  rw [hv0] at hap g3 c578 n3
  have hap2 : ∀ nd ty, (Builtin.append_ #[69, 69] ty #[.slice G0 x.2.length c0, .slice (some ⟨W1.heap.size, 0, none⟩) 1 1]).run Try.prog ((W1.drewN (nd + 1)).alloc (.cells #[.int .i64 k, .int .i64 a] 160)) = .ok (.slice (G nd) (x.2.length + 1) (c nd)) (w1 nd) := hap
  clear hR h HP hnw hW1 kp hpl hnl hj hl
  go_quiet (fail)
  go_wp2
  go_region_law (first | (refine wp_app rfl rfl rfl (hap2 nq) ?_))
  all_goals go_wp2_with fail
  all_goals refine bodyPost_ret (results_none rfl _ _ _) rfl ?_
  all_goals exact ⟨rfl, _, (HR.out _).1, (Lf.of_below HB1.out hbw _).trans (HR.out _).2⟩
end Go.Proofs.Ytakmcbakogjeeaa.Wh
