/- Wheels (layer 25): a timer appended to a row; place; no condition. -/
import Derived.Test.YtakmcbakogjeeaaWh3
import Derived.Maps.AppendAt
set_option linter.unusedVariables false
set_option linter.unusedSimpArgs false
namespace Go.Proofs.Ytakmcbakogjeeaa.Wh
open Go Go.RowKit Go.Maps Go.Proofs.Ytakmcbakogjeeaa.Rm Go.Proofs.Ytakmcbakogjeeaa.Rw
open Go.Proofs.YtakmcbakogjeeaaW.PrintWords Go.Proofs.YtakmcbakogjeeaaW.PrintLast Go.Proofs.YtakmcbakogjeeaaW.PrintMore
variable {W W' W2 : World} {b p m n : Nat} {now : Int} {kv : KV} {R : List Row} {x x' : Row} {F F' F2 : Nat → Prop}
theorem wp_app {P : Program} {o : Oper} {a : Act} {K : Act → World → Prop} {Q : Exit → Act → World → Prop} {s y : Operand} {t : TypeId} {w : World}
    (ho : o.op = .call { callee := .builtin .append, args := #[s, y], argTypes := #[t, t] }) {v u v1 : Value} {w1 : World} (hs : a.eval s = v) (hy : a.eval y = u)
    (hr : ∀ ty, (Builtin.append_ #[t, t] ty #[v, u]).run P w = .ok v1 w1) (h : K (a.put o.dst v1) w1) : o.wp P a w K Q := by
  have hr' := hr o.type
  unfold Oper.wp execOp
  simp only [ho, resolve, invoke, builtin, Sem.run_bind, Sem.run_pure, Result.andThen_ok, List.map_toArray, List.map_cons, List.map_nil, hs, hy, hr']
  exact h
theorem infoT : (Try.prog.info? 160).map (fun i => (i.zero, i.size, i.bytes)) = some (some (.agg #[.int .i64 0, .int .i64 0]), 2, 16) := by kernel_rfl
/-- One timer appended, out of a block of its own. -/
theorem run_add2 {v : Value} {L : List Tm} (h : RowAt W b (v, L)) (hbw : b ≤ W.heap.size) (hl : L.length + 1 ≤ 1099511627776) (t : Tm) : ∃ v1 w1,
    (∀ ty, (Builtin.append_ #[69, 69] ty #[v, .slice (some ⟨W.heap.size, 0, none⟩) 1 1]).run Try.prog (W.drew.alloc (.cells #[.int .i64 t.1, .int .i64 t.2] 160)) = .ok v1 w1) ∧
    RowAt w1 b (v1, L ++ [t]) ∧ W.grownBy w1 v.ownBlock ∧ (v1.ownBlock = v.ownBlock ∨ v1.ownBlock = some (W.heap.size + 1)) := by
  obtain ⟨i0, hi, hz0, hz1, hz2⟩ := info_parts infoT
  have hnew : ∀ j w, [Value.int .i64 t.1, .int .i64 t.2][j]? = some w → (W.drew.alloc (.cells #[.int .i64 t.1, .int .i64 t.2] 160)).cell? ((⟨W.heap.size, 0, none⟩ : Addr).add j) = some w := fun j w hu => by
    have hb := heap_alloc_new W.drew (.cells #[.int .i64 t.1, .int .i64 t.2] 160 (0, 0))
    rw [show W.drew.heap.size = W.heap.size from rfl] at hb
    rw [add_at, cell_of_row _ _ _ _ _ _ hb, Nat.zero_add]
    simpa using hu
  have hd : W.drew.ownsRow b 160 2 v L.length (tcells L) := own_move h (fun k _ => rfl)
  obtain ⟨v1, w1, hr, h1, h2, _, h3⟩ := run_append_own_at (P := Try.prog) (w := W.drew.alloc (.cells #[.int .i64 t.1, .int .i64 t.2] 160)) b 69 69 160 i0 _ 2 16 Try.underlying69 hi hz0 hz1 hz2 rfl (by decide) v L.length (tcells L) (hd.alloc _) ⟨W.heap.size, 0, none⟩ 1 1 _ rfl hnew
    (fun u hu => by simp only [List.mem_cons, List.not_mem_nil, or_false] at hu; rcases hu with rfl | rfl <;> rfl) (by unfold maxLen; omega) (by omega) (by simp; omega)
  refine ⟨v1, w1, fun ty => hr, ?_, ?_, ?_⟩
  · show w1.ownsRow b 160 2 v1 (L ++ [t]).length (tcells (L ++ [t]))
    rw [List.length_append, List.length_singleton, tcells_app]
    exact h1
  · exact ⟨h2.os, h2.tape, h2.output, Nat.le_trans (by simp) h2.size, fun k hk hn => (h2.block k (by simp; omega) hn).trans (Below.heap_alloc W.drew _ k hk)⟩
  · simpa using h3
theorem RowAt.val (h : RowAt W b x) : ∃ G c, x.1 = .slice G x.2.length c := by
  rcases h.shape with ⟨h1, h2⟩ | ⟨g, c, h1⟩
  · exact ⟨none, 0, by rw [h1, h2]; rfl⟩
  · exact ⟨_, _, h1⟩
/-- A timer appended to a row of a wheel: what the walk meets, whatever was drawn. -/
theorem WhAt.add (h : WhAt W b p m n now kv R) (hbw : b ≤ W.heap.size) {j : Nat} (hj : R[j]? = some x) (hl : x.2.length + 1 ≤ 1099511627776) (t : Tm) : ∃ (G : Nat → Option Addr) (c : Nat → Nat) (w1 : Nat → World),
    (∀ nd ty, (Builtin.append_ #[69, 69] ty #[x.1, .slice (some ⟨W.heap.size, 0, none⟩) 1 1]).run Try.prog ((W.drewN nd).alloc (.cells #[.int .i64 t.1, .int .i64 t.2] 160)).drew = .ok (.slice (G nd) (x.2.length + 1) (c nd)) (w1 nd)) ∧
    (∀ nd, (w1 nd).cell? ⟨p, 2 + j, none⟩ = some x.1) ∧ (∀ nd, (w1 nd).frozen? ⟨p, 2 + j, none⟩ = false) ∧
    ∀ nd, WhAt ((w1 nd).setCell ⟨p, 2 + j, none⟩ (.slice (G nd) (x.2.length + 1) (c nd))) b p m n now kv (R.set j (.slice (G nd) (x.2.length + 1) (c nd), x.2 ++ [t])) ∧ Lf W ((w1 nd).setCell ⟨p, 2 + j, none⟩ (.slice (G nd) (x.2.length + 1) (c nd))) b (foot p m R) (foot p m (R.set j (.slice (G nd) (x.2.length + 1) (c nd), x.2 ++ [t]))) := by
  have key : ∀ nd, ∃ (r : Option Addr × Nat × World),
      (∀ ty, (Builtin.append_ #[69, 69] ty #[x.1, .slice (some ⟨W.heap.size, 0, none⟩) 1 1]).run Try.prog ((W.drewN nd).alloc (.cells #[.int .i64 t.1, .int .i64 t.2] 160)).drew = .ok (.slice r.1 (x.2.length + 1) r.2.1) r.2.2) ∧
      r.2.2.cell? ⟨p, 2 + j, none⟩ = some x.1 ∧ r.2.2.frozen? ⟨p, 2 + j, none⟩ = false ∧
      WhAt (r.2.2.setCell ⟨p, 2 + j, none⟩ (.slice r.1 (x.2.length + 1) r.2.1)) b p m n now kv (R.set j (.slice r.1 (x.2.length + 1) r.2.1, x.2 ++ [t])) ∧ Lf W (r.2.2.setCell ⟨p, 2 + j, none⟩ (.slice r.1 (x.2.length + 1) r.2.1)) b (foot p m R) (foot p m (R.set j (.slice r.1 (x.2.length + 1) r.2.1, x.2 ++ [t]))) := by
    intro nd
    have hb := Ib.bl_drewN (W := W) nd
    have hs : (W.drewN nd).heap.size = W.heap.size := by simp
    have hW := h.below hb
    obtain ⟨v1, w1, r1, r2, r3, r4⟩ := run_add2 (hW.row x (List.mem_of_getElem? hj)) (by rw [hs]; exact hbw) hl t
    obtain ⟨e1, e2, e3⟩ := hW.setRow (by rw [hs]; exact hbw) hj r3 r2 (by
      rcases r4 with e | e
      · exact .inl e
      · exact .inr (.inr ⟨_, e, by omega⟩))
    have ev : ∃ G c, v1 = .slice G (x.2.length + 1) c := by
      rcases RowAt.shape r2 with ⟨h1, h2⟩ | ⟨g, c, h1⟩
      · simp at h2
      · exact ⟨_, _, by simpa using h1⟩
    obtain ⟨G, c, rfl⟩ := ev
    rw [hs] at r1
    exact ⟨(G, c, w1), r1, (World.cell?_of_block (a := ⟨p, 2 + j, none⟩) e1).trans (hW.cr hj), blk_frozen (e1.trans hW.blk) _, e2, (Lf.of_below hb hbw _).trans e3⟩
  obtain ⟨f, hf⟩ := Classical.axiomOfChoice key
  exact ⟨fun nd => (f nd).1, fun nd => (f nd).2.1, fun nd => (f nd).2.2, fun nd => (hf nd).1, fun nd => (hf nd).2.1, fun nd => (hf nd).2.2.1, fun nd => (hf nd).2.2.2⟩
end Go.Proofs.Ytakmcbakogjeeaa.Wh
