/- Parameters (layer 3): the store through a map of pointers, at its place in take; no condition. -/
import Derived.Test.YtcidijmdndcdlaaDoorPr8
set_option linter.unusedVariables false
set_option linter.unusedSimpArgs false
namespace Go.Proofs.YtcidijmdndcdlaaDoor.Pr
open Go Go.RowKit Go.Maps Go.Proofs.YtcidijmdndcdlaaDoor.Pm Go.Proofs.YtcidijmdndcdlaaDoor.Rm Go.Proofs.YtcidijmdndcdlaaDoor.OctM
open Go.Proofs.YtcidijmdndcdlaaDoorW.PrintWords Go.Proofs.YtcidijmdndcdlaaDoorW.PrintLast Go.Proofs.YtcidijmdndcdlaaDoorW.PrintMore
variable {W W' W0 : World} {g b B m n : Nat} {p : Pm} {vo vf va : Value} {kv : KV}
/-- What mapUpdate leaves, at the map of pointers. -/
noncomputable def updQ (W : World) (m : Nat) (k : Int) (v : Value) : World := match (Instr.mapUpdate 107 (.map (some m)) (.int .i64 k) v).run Tryd.prog W with | .ok _ w' => w' | _ => W
/-- The map of pointers under way in a world behind W: W's own blocks are as they were. -/
structure Mq (W w : World) (m n : Nat) (kv : KV) : Prop where
  mp : w.ownsMap Tryd.prog 3 rawElem m n (mapD kv)
  le : W.heap.size ≤ m
  few : n < 100
theorem Mq.below {w w' : World} (h : Mq W w m n kv) (hb : Below w.heap.size w w') : Mq W w' m n kv := ⟨h.mp.kept (grown_of_below hb none) (by simp), h.le, h.few⟩
theorem Mq.put {w : World} (h : Mq W w m n kv) (hf : n < 10) {k : Int} (hk : (Lit.int .i64 k).wf = true) (v : Value) (hB : Below W.heap.size W w) :
    (Instr.mapUpdate 107 (.map (some m)) (.int .i64 k) v).run Tryd.prog w = .ok () (updQ w m k v) ∧ Mq W (updQ w m k v) m (n + 1) (putL kv k v) ∧ Below W.heap.size W (updQ w m k v) ∧
      ∀ u xs, (Kd.int .u8).R 5 w W.heap.size (fun _ => True) u xs → (Kd.int .u8).R 5 (updQ w m k v) W.heap.size (fun _ => True) u xs := by
  obtain ⟨w', h1, h2, h3⟩ := Rm.store h.mp law Tryd.underlying107 (by unfold maxLen; omega) (keyInt Tryd.underlying3 hk) v
  have e : updQ w m k v = w' := by unfold updQ; rw [h1]
  rw [e]
  have hx : ButM w w' m := (ButM.of_below (Below.refl _ w)).turned h3
  refine ⟨h1, ⟨h2, h.le, by omega⟩, hx.bel hB h.le hB.size, fun u xs hr => ?_⟩
  refine Kd.R_mono (Kd.R_move (Kd.R_bound hr) (fun k' hk' => ?_)) (fun _ hk' => hk'.1)
  obtain ⟨_, _, hlt, q, _, cells, hc⟩ := hk'
  exact hx.block k' hlt (fun e => map_ne_cells h.mp hc e.symm)
theorem Mq.made (w : World) (hB : Below W.heap.size W w) : Mq W (w.alloc (.map #[] 0)) w.heap.size 0 [] := ⟨Rm.made w _ _, hB.size, by decide⟩
theorem Mq.made1 (w : World) (hB : Below W.heap.size W w) : Mq W (w.alloc (.map #[] 0)).drew w.heap.size 0 [] ∧ Below W.heap.size W (w.alloc (.map #[] 0)).drew :=
  ⟨(Mq.made w hB).below (Bl.drew (Below.refl _ _)), Bl.drew (Bl.alloc hB _)⟩
theorem Mq.look {w : World} (h : Mq W w m n kv) {k : Int} (hk : (Lit.int .i64 k).wf = true) {v : Value} (hg : getL kv k = some v) : (Instr.lookup 107 (.map (some m)) (.int .i64 k) false).run Tryd.prog w = .ok v w := by
  have := Rm.look h.mp law Tryd.underlying107 (z := .pointer none) (by kernel_rfl) (keyInt Tryd.underlying3 hk)
  rw [hg] at this
  exact this
/-- Which text an identifier names, and where it lies. -/
def Idq (id : Int) (o : Nat) : Prop := (id = 0 ∧ o = 13) ∨ (id = 15 ∧ o = 14) ∨ (id = 16 ∧ o = 15)
theorem Idq.wf {id : Int} {o : Nat} (h : Idq id o) : (Lit.int .i64 id).wf = true := by
  rcases h with ⟨rfl, rfl⟩ | ⟨rfl, rfl⟩ | ⟨rfl, rfl⟩ <;> decide
abbrev pq (g o : Nat) : Value := .pointer (some ⟨g, o, none⟩)
/-- Clone, in plain words. -/
theorem clone_s {v : Value} {xs : List Int} (hv : Sl W v xs) (hl : xs.length ≤ big) : Calls Tryd.prog 52 #[v] W fun e w' => ∃ v', e = .returned v' ∧ (Kd.int .u8).R 5 w' W.heap.size (fun _ => True) v' xs ∧ Below W.heap.size W w' := by
  obtain ⟨A, c, rfl, hc, hC⟩ := hv
  refine QOct.slices_Clone_byte_byte.calls A c xs xs W hC hc ?_
  unfold QOct.slices_Clone_byte_byte.f
  rw [if_pos hl]
end Go.Proofs.YtcidijmdndcdlaaDoor.Pr
