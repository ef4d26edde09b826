/- Paths (layer 24): Ask; no condition. -/
import Derived.Test.YtakmcbakogjeeaaPt4
import Derived.Maps.AppendAt
set_option linter.unusedVariables false
set_option linter.unusedSimpArgs false
namespace Go.Proofs.Ytakmcbakogjeeaa.Pt
open Go Go.RowKit Go.Maps Go.Proofs.Ytakmcbakogjeeaa.Rm
open Go.Proofs.YtakmcbakogjeeaaW.PrintWords Go.Proofs.YtakmcbakogjeeaaW.PrintLast Go.Proofs.YtakmcbakogjeeaaW.PrintMore
variable {W W' : World} {b p m n : Nat} {used : Int} {K A B : List Ent} {x x' : Ent}
theorem wp_app {P : Program} {o : Oper} {a : Act} {K : Act → World → Prop} {Q : Exit → Act → World → Prop} {s y : Operand} {t : TypeId} {w : World}
    (ho : o.op = .call { callee := .builtin .append, args := #[s, y], argTypes := #[t, t] }) {v u v1 : Value} {w1 : World} (hs : a.eval s = v) (hy : a.eval y = u)
    (hr : ∀ ty, (Builtin.append_ #[t, t] ty #[v, u]).run P w = .ok v1 w1) (h : K (a.put o.dst v1) w1) : o.wp P a w K Q := by
  have hr' := hr o.type
  unfold Oper.wp execOp
  simp only [ho, resolve, invoke, builtin, Sem.run_bind, Sem.run_pure, Result.andThen_ok, List.map_toArray, List.map_cons, List.map_nil, hs, hy, hr']
  exact h
set_option maxRecDepth 100000 in
set_option maxHeartbeats 1600000 in
theorem ask_hit (h : PtAt W b p m n used (A ++ x :: B)) (hbw : b ≤ W.heap.size) (hwf : (Lit.int .i64 x.a).wf = true) (d0 d1 d2 d3 d4 d5 d6 d7 u : Int) (hu0 : 0 ≤ u) (hu1 : u ≤ 1125899906842624) (hl : x.op.length < 3) :
    Calls Try.prog 50 #[.pointer (some ⟨p, 0, none⟩), .int .i64 x.a, .agg #[.int .u8 d0, .int .u8 d1, .int .u8 d2, .int .u8 d3, .int .u8 d4, .int .u8 d5, .int .u8 d6, .int .u8 d7], .int .i64 u] W fun e w' => e = .returned (.int .i64 0) ∧ ∃ v, PtAt w' b p m n used (A ++ { x with v := v, op := x.op ++ [([d0, d1, d2, d3, d4, d5, d6, d7], u)] } :: B) ∧ Lf W w' b := by
  have hx := h.one x (by simp)
  have CA := Aside0.mk (fun w (h : PtAt w b p m n used (A ++ x :: B)) => at_hit h (x := x) (by simp) hwf)
  have CL := Aside0.mk (lies_s u)
  rw [show (decide (0 ≤ u) && decide (u ≤ 1125899906842624)) = true by simp [hu0, hu1]] at CL
  have HB1 := Aside0.mk (below_alloc (Below.refl _ W) (.cells #[.int .u8 d0, .int .u8 d1, .int .u8 d2, .int .u8 d3, .int .u8 d4, .int .u8 d5, .int .u8 d6, .int .u8 d7] 96 (0, 0)))
  have HP := h.below HB1.out
  have hnw := heap_alloc_new W (.cells #[.int .u8 d0, .int .u8 d1, .int .u8 d2, .int .u8 d3, .int .u8 d4, .int .u8 d5, .int .u8 d6, .int .u8 d7] 96 (0, 0))
  obtain ⟨nb, hnb⟩ : ∃ nb, W.heap.size = nb := ⟨_, rfl⟩
  go_enter Try.func50, Try.ntmps50
  go_upto_region 1 with fail
  rw [hnb] at hnw
  generalize hW1 : W.alloc (.cells #[.int .u8 d0, .int .u8 d1, .int .u8 d2, .int .u8 d3, .int .u8 d4, .int .u8 d5, .int .u8 d6, .int .u8 d7] 96 (0, 0)) = W1 at *
  have hsz : b ≤ W1.heap.size := Nat.le_trans hbw HB1.out.size
  have hx1 := HP.one x (by simp)
  obtain ⟨G, c, hv⟩ := shape hx.row
  obtain ⟨q0, q1, q2, q3⟩ := hx1.c
  have f3 := hx1.free 3
  have b0 : W1.cell? ⟨nb, 0, none⟩ = some (.int .u8 d0) ∧ W1.cell? ⟨nb, 1, none⟩ = some (.int .u8 d1) ∧ W1.cell? ⟨nb, 2, none⟩ = some (.int .u8 d2) ∧ W1.cell? ⟨nb, 3, none⟩ = some (.int .u8 d3) ∧ W1.cell? ⟨nb, 4, none⟩ = some (.int .u8 d4) ∧ W1.cell? ⟨nb, 5, none⟩ = some (.int .u8 d5) ∧ W1.cell? ⟨nb, 6, none⟩ = some (.int .u8 d6) ∧ W1.cell? ⟨nb, 7, none⟩ = some (.int .u8 d7) := by
    refine ⟨?_, ?_, ?_, ?_, ?_, ?_, ?_, ?_⟩ <;> (rw [cell_of_row _ _ _ _ _ _ hnw]; rfl)
  obtain ⟨b0, b1, b2, b3, b4, b5, b6, b7⟩ := b0
  obtain ⟨v1, w1, hap, r1, r2, r3⟩ := run_add9 hx1.row hsz (by omega) d0 d1 d2 d3 d4 d5 d6 d7 u
  have hap2 : ∀ ty, (Builtin.append_ #[170, 170] ty #[x.v, .slice (some ⟨W1.heap.size, 0, none⟩) 1 1]).run Try.prog (W1.alloc (.cells #[.int .u8 d0, .int .u8 d1, .int .u8 d2, .int .u8 d3, .int .u8 d4, .int .u8 d5, .int .u8 d6, .int .u8 d7, .int .i64 u] 176)).drew = .ok v1 w1 := hap
  have kp : ∀ j, j < W1.heap.size → (W1.alloc (.cells #[.int .u8 d0, .int .u8 d1, .int .u8 d2, .int .u8 d3, .int .u8 d4, .int .u8 d5, .int .u8 d6, .int .u8 d7, .int .i64 u] 176)).drew.heap[j]? = W1.heap[j]? := fun j hj => Below.heap_alloc W1 _ j hj
  have hxl := hx1.lt
  have hnl : nb < W1.heap.size := (Array.getElem?_eq_some_iff.1 hnw).1
  have n3 := (World.cell?_of_block (a := ⟨x.g, 3, none⟩) (kp x.g hxl)).trans q3
  have m0 := (World.cell?_of_block (a := ⟨nb, 0, none⟩) (kp nb hnl)).trans b0
  have m1 := (World.cell?_of_block (a := ⟨nb, 1, none⟩) (kp nb hnl)).trans b1
  have m2 := (World.cell?_of_block (a := ⟨nb, 2, none⟩) (kp nb hnl)).trans b2
  have m3 := (World.cell?_of_block (a := ⟨nb, 3, none⟩) (kp nb hnl)).trans b3
  have m4 := (World.cell?_of_block (a := ⟨nb, 4, none⟩) (kp nb hnl)).trans b4
  have m5 := (World.cell?_of_block (a := ⟨nb, 5, none⟩) (kp nb hnl)).trans b5
  have m6 := (World.cell?_of_block (a := ⟨nb, 6, none⟩) (kp nb hnl)).trans b6
  have m7 := (World.cell?_of_block (a := ⟨nb, 7, none⟩) (kp nb hnl)).trans b7
  obtain ⟨G1, c1, hv1⟩ := shape r1
  rw [List.length_append, List.length_singleton] at hv1
  subst hv1
  have HR := Aside0.mk (HP.row hsz r2 r1 (by
    rcases r3 with e | e
    · exact .inl e
    · exact .inr (.inr ⟨_, e, by omega⟩)) (fun o ho => by
      rcases List.mem_append.1 ho with ho | ho
      · exact hx1.ok o ho
      · rw [List.mem_singleton.1 ho]; rfl))
  have g3 : w1.cell? ⟨x.g, 3, none⟩ = some x.v := by rw [cell_of_row _ _ _ _ _ _ HR.out.2.2]; rfl
  have g4 : w1.frozen? ⟨x.g, 3, none⟩ = false := blk_frozen HR.out.2.2 3
  rw [hv] at q3 n3 g3 hap2
  have hl3 : (x.op.length : Int) < 3 := by omega
  have HP := Aside0.mk HP
  clear h hx hwf hx1 r1 r2 r3 hnw hl hW1 hap kp hxl hnl
  go_upto_region 8 with (first
    | (go_at_call 93; (with_reducible refine (CA.out _ HP.out).mono ?_); rintro e w' ⟨rfl, rfl⟩)
    | (go_at_call 94; (with_reducible refine (CL.out _).mono ?_); rintro e w' ⟨rfl, rfl⟩))
  go_region_law (first | (refine wp_app rfl rfl rfl hap2 ?_))
  all_goals go_wp2_with fail
  all_goals go_ret
  all_goals exact ⟨rfl, _, HR.out.1, (Lf.of_below HB1.out hbw).trans HR.out.2.1⟩
set_option maxRecDepth 100000 in
set_option maxHeartbeats 1600000 in
theorem ask_full (h : PtAt W b p m n used (A ++ x :: B)) (hwf : (Lit.int .i64 x.a).wf = true) (d0 d1 d2 d3 d4 d5 d6 d7 u : Int) (hu0 : 0 ≤ u) (hu1 : u ≤ 1125899906842624) (hl : 3 ≤ x.op.length) :
    Calls Try.prog 50 #[.pointer (some ⟨p, 0, none⟩), .int .i64 x.a, .agg #[.int .u8 d0, .int .u8 d1, .int .u8 d2, .int .u8 d3, .int .u8 d4, .int .u8 d5, .int .u8 d6, .int .u8 d7], .int .i64 u] W fun e w' => e = .returned (.int .i64 35) ∧ Below W.heap.size W w' := by
  have CA := Aside0.mk (fun w (h : PtAt w b p m n used (A ++ x :: B)) => at_hit h (x := x) (by simp) hwf)
  have CL := Aside0.mk (lies_s u)
  rw [show (decide (0 ≤ u) && decide (u ≤ 1125899906842624)) = true by simp [hu0, hu1]] at CL
  have HB1 := Aside0.mk (below_alloc (Below.refl _ W) (.cells #[.int .u8 d0, .int .u8 d1, .int .u8 d2, .int .u8 d3, .int .u8 d4, .int .u8 d5, .int .u8 d6, .int .u8 d7] 96 (0, 0)))
  have HP := Aside0.mk (h.below HB1.out)
  obtain ⟨q0, q1, q2, q3⟩ := (HP.out.one x (by simp)).c
  obtain ⟨G, c, hv⟩ := shape (h.one x (by simp)).row
  rw [hv] at q3
  have hl3 : (3 : Int) ≤ (x.op.length : Int) := by omega
  clear h hwf hl
  go_enter Try.func50, Try.ntmps50
  go_wp2_with (first
    | (go_at_call 93; (with_reducible refine (CA.out _ HP.out).mono ?_); rintro e w' ⟨rfl, rfl⟩)
    | (go_at_call 94; (with_reducible refine (CL.out _).mono ?_); rintro e w' ⟨rfl, rfl⟩))
  go_ret
  exact ⟨rfl, HB1.out⟩
set_option maxRecDepth 100000 in
theorem ask_miss (h : PtAt W b p m n used K) {a : Int} (hn : ∀ x ∈ K, x.a ≠ a) (hwf : (Lit.int .i64 a).wf = true) (d0 d1 d2 d3 d4 d5 d6 d7 u : Int) :
    Calls Try.prog 50 #[.pointer (some ⟨p, 0, none⟩), .int .i64 a, .agg #[.int .u8 d0, .int .u8 d1, .int .u8 d2, .int .u8 d3, .int .u8 d4, .int .u8 d5, .int .u8 d6, .int .u8 d7], .int .i64 u] W fun e w' => e = .returned (.int .i64 15) ∧ Below W.heap.size W w' := by
  have CA := Aside0.mk (fun w (h : PtAt w b p m n used K) => at_miss h hn hwf)
  have HB1 := Aside0.mk (below_alloc (Below.refl _ W) (.cells #[.int .u8 d0, .int .u8 d1, .int .u8 d2, .int .u8 d3, .int .u8 d4, .int .u8 d5, .int .u8 d6, .int .u8 d7] 96 (0, 0)))
  have HP := Aside0.mk (h.below HB1.out)
  clear h hn hwf
  go_enter Try.func50, Try.ntmps50
  go_wp2_with (go_at_call 93; (with_reducible refine (CA.out _ HP.out).mono ?_); rintro e w' ⟨rfl, rfl⟩)
  go_ret
  exact ⟨rfl, HB1.out⟩
end Go.Proofs.Ytakmcbakogjeeaa.Pt
