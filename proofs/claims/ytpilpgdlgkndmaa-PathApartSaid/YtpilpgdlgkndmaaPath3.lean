/- The paths: New. -/
import Derived.Test.YtpilpgdlgkndmaaPath2
set_option linter.unusedVariables false
set_option linter.unusedSimpArgs false
namespace Go.Proofs.Ytpilpgdlgkndmaa.Pm
open Go.RowKit Go.Maps
theorem key0 : keyOf Try.prog 3 (.int .i64 0) = some (.int .i64 0) := keyOf_int_mk Try.underlying3 (by decide +kernel)
theorem ptr_reads (g : Nat) : ptrElem (.pointer (some ⟨g, 0, none⟩)) = some (.lit (.int .i64 g), []) := rfl
/-- A path at block g. -/
structure One (w : World) (g : Nat) (v : Bool) (came sent : Int) : Prop where
  c0 : w.cell? ⟨g, 0, none⟩ = some (.bool v)
  c1 : w.cell? ⟨g, 1, none⟩ = some (.int .i64 came)
  c2 : w.cell? ⟨g, 2, none⟩ = some (.int .i64 sent)
  z0 : w.frozen? ⟨g, 0, none⟩ = false
  z2 : w.frozen? ⟨g, 2, none⟩ = false
theorem One.of_block {w w' : World} {g : Nat} {v : Bool} {came sent : Int} (o : One w g v came sent) (h : w'.heap[g]? = w.heap[g]?) : One w' g v came sent :=
  ⟨(World.cell?_of_block (w := w) h).trans o.c0, (World.cell?_of_block (w := w) h).trans o.c1, (World.cell?_of_block (w := w) h).trans o.c2, (World.frozen?_of_block (w := w) h).trans o.z0, (World.frozen?_of_block (w := w) h).trans o.z2⟩
theorem One.lt {w : World} {g : Nat} {v : Bool} {came sent : Int} (o : One w g v came sent) : g < w.heap.size := World.block_lt_of_cell? w _ o.c0
set_option maxRecDepth 100000 in
theorem new_ok (w : World) : Calls Try.prog 21 #[.int .i64 0, .bool true] w fun e w' => ∃ p, e = .returned (.pointer (some ⟨p, 0, none⟩)) ∧ w.heap.size + 2 ≤ p ∧ Pth w' p w.heap.size 1 (D1 (w.heap.size + 1)) ∧ One w' (w.heap.size + 1) true 0 0 ∧ Below w.heap.size w w' := by
  have hmm := @run_makeMap Try.prog
  have hown := (World.ownsMap_made w Try.prog 3 ptrElem).alloc (.cells #[.bool true, .int .i64 0, .int .i64 0, .slice none 0 0] 91)
  obtain ⟨w1, hrun, hown1, hg⟩ := hown.update law Try.underlying92 (by unfold maxLen; omega) key0 (ptr_reads (w.heap.size + 1))
  have hs : w.heap.size + 2 ≤ w1.heap.size := by have := hg.size; simp at this; omega
  have ho : One ((w.alloc (.map #[] 0)).alloc (.cells #[.bool true, .int .i64 0, .int .i64 0, .slice none 0 0] 91)) (w.heap.size + 1) true 0 0 := by constructor <;> go_simp
  have ho1 : One w1 (w.heap.size + 1) true 0 0 := ho.of_block (hg.block _ ho.lt (by intro he; injection he with he; omega))
  have hb1 : Below w.heap.size w w1 := Below.grown (((Below.refl _ _).alloc (Nat.le_refl _) _).alloc (by simp) _) hg (by simp; omega) (by intro k hk; injection hk with hk; omega)
  have HO := Aside0.mk hown1
  have HO1 := Aside0.mk ho1
  have HB1 := Aside0.mk hb1
  clear ho ho1 hb1
  clear hown hown1 hg
  go_enter Try.func21, Try.ntmps21
  go_wp2_with fail
  go_ret
  exact ⟨_, rfl, hs, ⟨by go_simp, HO.out.alloc _⟩, HO1.out.of_block (Below.heap_alloc _ _ _ HO1.out.lt), HB1.out.alloc HB1.out.size _⟩
end Go.Proofs.Ytpilpgdlgkndmaa.Pm
