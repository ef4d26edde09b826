/- Wheels (layer 25): New; no condition. -/
import Derived.Test.YtakmcbakogjeeaaWh2
set_option linter.unusedVariables false
set_option linter.unusedSimpArgs false
namespace Go.Proofs.Ytakmcbakogjeeaa.Wh
open Go Go.RowKit Go.Maps Go.Proofs.Ytakmcbakogjeeaa.Rm Go.Proofs.Ytakmcbakogjeeaa.Rw
open Go.Proofs.YtakmcbakogjeeaaW.PrintWords Go.Proofs.YtakmcbakogjeeaaW.PrintLast Go.Proofs.YtakmcbakogjeeaaW.PrintMore
variable {W W' W2 : World} {b p m n : Nat} {now : Int} {kv : KV} {R : List Row} {x x' : Row} {F F' F2 : Nat → Prop}
/-- An operation that gives a value, where its run is known. -/
theorem wpList_value_run {P : Program} {ops : Array Oper} {rest : List Oper} {o : Oper} {a : Act} {w : World} {Q : Exit → Act → World → Prop} {N : Nat} (hgd : o.guard = none) (hd : o.dst = some N) {v : Value} {w' : World}
    (hr : (execOp a.eval o).run P w = .ok (.value v) w') (h : wpList P ops Q rest (a.put (some N) v) w') : wpList P ops Q (o :: rest) a w := by
  refine wpList_plain hgd fun K hK => ?_
  unfold Oper.wp
  rw [hr]
  exact hK _ _ (by rw [hd]; exact h)
theorem gate_d {P : Program} {ops : Array Oper} {rest : List Oper} {o : Oper} {a : Act} {w : World} {Q : Exit → Act → World → Prop} {N : Nat} (_hd : o.dst = some N) (h : wpList P ops Q (o :: rest) a w) : wpList P ops Q (o :: rest) a w := h
/-- The rows of a new wheel. -/
def none577 : List Row := List.replicate 577 (.slice none 0 0, [])
set_option maxRecDepth 100000 in
theorem build_s (now : Int) (m : Nat) (w : World) : (Instr.build 74 #[(0, .bool true), (1, .int .i64 now), (4, .map (some m))]).run Try.prog w = .ok (.agg (wcells now none577 m).toArray) w := by kernel_rfl
set_option maxRecDepth 100000 in
theorem box_s (now : Int) (m : Nat) (w : World) : (Instr.box 74 (.agg (wcells now none577 m).toArray)).run Try.prog w = .ok (.pointer (some ⟨w.heap.size, 0, none⟩)) (w.alloc (.cells (wcells now none577 m).toArray 74)) := by kernel_rfl
theorem none_rows (S : List Row) (h : S = none577) : (∀ x ∈ S, x = (Value.slice none 0 0, ([] : List Tm))) ∧ S.length = 577 ∧ S.Pairwise Ap := by
  subst h
  refine ⟨fun x hx => (List.mem_replicate.1 hx).2, List.length_replicate, ?_⟩
  refine List.pairwise_replicate.2 (.inr (fun k hk => ?_))
  cases hk
theorem made (w : World) (now : Int) : WhAt ((w.alloc (.map #[] 0)).alloc (.cells (wcells now none577 w.heap.size).toArray 74)) w.heap.size (w.heap.size + 1) w.heap.size 0 now [] none577 ∧ Below w.heap.size w ((w.alloc (.map #[] 0)).alloc (.cells (wcells now none577 w.heap.size).toArray 74)) := by
  obtain ⟨h1, h2, h3⟩ := none_rows none577 rfl
  have hb : Below w.heap.size w (w.alloc (.map #[] 0)) := below_alloc (Below.refl _ w) _
  refine ⟨⟨by omega, Nat.le_refl _, ?_, h2, ?_, fun x hx => ?_, h3⟩, below_alloc hb _⟩
  · have := heap_alloc_new (w.alloc (.map #[] 0)) (.cells (wcells now none577 w.heap.size).toArray 74)
    simpa using this
  · exact (Rm.made w Try.prog 3).alloc _
  · rw [h1 x hx]
    exact World.ownsRow_nil _ _ _ _
set_option maxRecDepth 100000 in
theorem new_s (w : World) (now : Int) (h0 : 0 ≤ now) (h1 : now ≤ 1125899906842624) :
    Calls Try.prog 32 #[.int .i64 now] w fun e w' => e = .returned (.tuple #[.pointer (some ⟨w.heap.size + 1, 0, none⟩), .int .i64 0]) ∧ WhAt w' w.heap.size (w.heap.size + 1) w.heap.size 0 now [] none577 ∧ Below w.heap.size w w' := by
  have hmm := @run_makeMap Try.prog
  have CT := Aside0.mk (isTime_s now w)
  rw [show (decide (0 ≤ now) && decide (now ≤ 1125899906842624)) = true by simp [h0, h1]] at CT
  have HM := Aside0.mk (made w now)
  go_enter Try.func32, Try.ntmps32
  go_wp2_with (first
    | (go_at_call 81; (with_reducible refine CT.out.mono ?_); rintro e w' ⟨rfl, rfl⟩)
    | ((with_reducible refine gate_d (N := 9) rfl ?_); refine wpList_value_run rfl rfl (v := .agg (wcells now none577 w.heap.size).toArray) (w' := w.alloc (.map #[] 0)) (by simp only [execOp]; exact (by rfl)) ?_)
    | ((with_reducible refine gate_d (N := 10) rfl ?_); refine wpList_value_run rfl rfl (v := .pointer (some ⟨w.heap.size + 1, 0, none⟩)) (w' := (w.alloc (.map #[] 0)).alloc (.cells (wcells now none577 w.heap.size).toArray 74)) (by rfl) ?_))
  go_ret2
  exact ⟨rfl, HM.out.1, HM.out.2⟩
theorem new_bad (w : World) (now : Int) (h : now < 0 ∨ 1125899906842624 < now) : Calls Try.prog 32 #[.int .i64 now] w fun e w' => e = .returned (.tuple #[.pointer none, .int .i64 2]) ∧ w = w' := by
  have CT := Aside0.mk (isTime_s now w)
  rw [show (decide (0 ≤ now) && decide (now ≤ 1125899906842624)) = false by rcases h with h | h <;> simp <;> omega] at CT
  go_enter Try.func32, Try.ntmps32
  go_wp2_with (go_at_call 81; (with_reducible refine CT.out.mono ?_); rintro e w' ⟨rfl, rfl⟩)
  go_ret2
  exact ⟨rfl, rfl⟩
end Go.Proofs.Ytakmcbakogjeeaa.Wh
