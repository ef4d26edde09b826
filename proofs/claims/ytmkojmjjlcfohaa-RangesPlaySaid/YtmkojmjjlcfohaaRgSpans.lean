/- Sets of spans: Spans; no condition. -/
import Derived.Test.YtmkojmjjlcfohaaRgAll
import Derived.Test.YtmkojmjjlcfohaaWEqStruct
import Derived.Laws.StructEq
set_option linter.unusedVariables false
set_option linter.unusedSimpArgs false
namespace Go.Proofs.Ytmkojmjjlcfohaa.Rg
open Go.RowKit Go.Shelf Go.Proofs.YtmkojmjjlcfohaaW.PrintWords Go.Proofs.YtmkojmjjlcfohaaW.PrintLast Go.Proofs.YtmkojmjjlcfohaaW.PrintMore Go.Proofs.Ytmkojmjjlcfohaa.Rw
attribute [local go_sem] Oper.semAt_some
theorem neq_span (a b c d : Int) (W : World) : (binOp .neq 39 (.agg #[.int .i64 a, .int .i64 b]) (.agg #[.int .i64 c, .int .i64 d])).run Try.prog W = .ok (.bool (!(a == c && b == d))) W := by
  rw [run_neq_struct]
  have he : (Op.equalIn 10000 39 (.agg #[.int .i64 a, .int .i64 b]) (.agg #[.int .i64 c, .int .i64 d])).run Try.prog W = .ok (a == c && b == d) W := by
    refine eqA_of Try.underlying39 (by kernel_rfl) ?_
    refine eqf_cons (by rfl) (by kernel_rfl) (by kernel_rfl) (run_equalIn_int (k := .i64) (k' := .i64) _ _ _ _ _ Try.underlying3) ?_
    exact eqf_last (by rfl) (by kernel_rfl) (by kernel_rfl) (run_equalIn_int (k := .i64) (k' := .i64) _ _ _ _ _ Try.underlying3)
  rw [he]
  rfl
theorem new_cell (W : World) (v : Value) (t : TypeId) : (W.alloc (.cells #[v] t)).cell? ⟨W.heap.size, 0, none⟩ = some v := by
  have h := World.alloc_heap_new W (.cells #[v] t)
  simp only [World.cell?, h]
  rfl
/-- Behind so many spans the count. -/
def SpI (w : World) (pre : List SpT) (W : World) : Prop := W.heap[w.heap.size]? = some (.cells #[.int .i64 pre.length] 3 (0, 0)) ∧ Below w.heap.size w W ∧ w.heap.size + 2 ≤ W.heap.size
theorem own_blk {β : Type} {B k : Nat} {o : Obj} (hk : k < B) : OwnFrom B (fun (_ : β) W => W.heap[k]? = some o) := fun _ _ _ row hs hg hr => (hg.block k (Array.getElem?_eq_some_iff.1 hs).1 (fun e => by have := (hr k e.symm).1; omega)).trans hs
theorem own_cells {β : Type} {B k : Nat} {cs : Array Value} {t : TypeId} {z : Nat × Nat} : OwnFrom B (fun (_ : β) W => W.heap[k]? = some (.cells cs t z)) := fun _ _ _ row hs hg hr => (hg.block k (Array.getElem?_eq_some_iff.1 hs).1 (fun e => by
  obtain ⟨o, ho, hc⟩ := (hr k e.symm).2
  rw [hs] at ho
  cases ho
  cases hc)).trans hs
theorem spI_own (w : World) {B : Nat} (hB : w.heap.size < B) : OwnFrom B (SpI w) := fun pre A C row hs hg hr => ⟨own_blk (β := Unit) hB () A C row hs.1 hg hr, ownFrom_below (β := Unit) (Nat.le_refl _) (by omega) () A C row hs.2.1 hg hr, Nat.le_trans hs.2.2 hg.size⟩
theorem Kp.from {n₀ : Nat} {W W' : World} (hs : W.heap.size ≤ W'.heap.size) (h : ∀ k, n₀ ≤ k → k < W.heap.size → W'.heap[k]? = W.heap[k]?) : Kp none n₀ W W' :=
  ⟨hs, fun k cs hk hr _ => ⟨h k hk (Array.getElem?_eq_some_iff.1 hr).1, fun ⟨x, _, _, _, hx, _⟩ => nomatch hx⟩⟩
/-- A round's slots: the round's box is B. -/
def SpA (n₀ : Nat) (T : Nat → SpT → Array Value) (x : SpT) (a' : Act) (W : World) : Prop := ∃ B, n₀ ≤ B ∧ a' = { tmps := T B x, defers := [] } ∧ W.heap[B]? = some (.cells #[.int .i64 x.1.1, .int .i64 x.1.2] 39 (0, 0))
theorem spA_own (n₀ : Nat) (T : Nat → SpT → Array Value) (x : SpT) (a' : Act) {B : Nat} : OwnFrom B (fun (_ : Unit) W => SpA n₀ T x a' W) := by
  rintro _ A C row ⟨b, h1, h2, h3⟩ hg hr
  exact ⟨b, h1, h2, own_cells (β := Unit) () A C row h3 hg hr⟩
theorem keeps_below {n₀ : Nat} {W W' : World} (h : Below W.heap.size W W') : KeepsFrom n₀ W W' := ⟨h.size, fun k o _ hk _ => (h.block k (Array.getElem?_eq_some_iff.1 hk).1).trans hk⟩
theorem SpI.below {w W W' : World} {pre : List SpT} (h : SpI w pre W) (hb : Below W.heap.size W W') : SpI w pre W' := ⟨(hb.block _ (Array.getElem?_eq_some_iff.1 h.1).1).trans h.1, h.2.1.trans (hb.mono h.2.1.size), Nat.le_trans h.2.2 hb.size⟩
def T0 (g n : Nat) (B : Nat) (x : SpT) : Array Value := #[.pointer (some ⟨g, 0, none⟩), undef, .int .i64 0, .pointer (some ⟨n, 0, none⟩), .pointer (some ⟨B, 0, none⟩), .pointer (some ⟨g, 0, none⟩), .func (.func 44) #[] #[.pointer (some ⟨n + 1, 0, none⟩)], .agg #[.int .i64 x.1.1, .int .i64 x.1.2], undef, undef, undef, undef, undef, undef]
set_option maxRecDepth 100000 in
set_option maxHeartbeats 2000000 in
theorem spans_s {w : World} {base g : Nat} {v : Value} {L : List Sp} (h : SetAt w base g v L) : Calls Try.prog 20 #[.pointer (some ⟨g, 0, none⟩)] w fun e w' => e = .returned (.int .i64 L.length) ∧ Below w.heap.size w w' := by
  refine (callsIn_wide (n := 7)).1 ?_
  have H := Aside0.mk h
  clear h
  refine callsIn_of_wp_marks Try.func20 rfl trivial ?_ rfl
  simp only [Try.ntmps20, List.size_toArray, List.length_cons, List.length_nil, Nat.reduceAdd, Nat.reduceSub, Array.replicate_succ, Array.replicate_zero, List.push_toArray, List.append_toArray, List.nil_append, List.cons_append]
  gi_wp2_with (refine ⟨trivial, ?_⟩; gi_at_call 21; refine (callsIn_wide.2 (all_s _ _)).mono ?_; rintro e w' ⟨rfl, rfl⟩)
  have hb := new_cell (w.alloc (.cells #[.int .i64 0] 3)) (.pointer (some ⟨g, 0, none⟩)) 34
  rw [World.size_alloc] at hb
  have hB0 : Below w.heap.size w ((w.alloc (.cells #[.int .i64 0] 3)).alloc (.cells #[.pointer (some ⟨g, 0, none⟩)] 34)) := ((Below.refl _ w).alloc (Nat.le_refl _) _).alloc (by simp) _
  have hS := H.out.below hB0
  have hn0 : ((w.alloc (.cells #[.int .i64 0] 3)).alloc (.cells #[.pointer (some ⟨g, 0, none⟩)] 34)).heap[w.heap.size]? = some (.cells #[.int .i64 0] 3 (0, 0)) := (Below.heap_alloc _ _ _ (by simp)).trans (heap_alloc_new w _)
  have HL := Aside0.mk (lift_val L H.out.ok)
  obtain ⟨W0, hW0⟩ : ∃ W0, ((w.alloc (.cells #[.int .i64 0] 3)).alloc (.cells #[.pointer (some ⟨g, 0, none⟩)] 34)) = W0 := ⟨_, rfl⟩
  have hsz : W0.heap.size = w.heap.size + 1 + 1 := by rw [← hW0]; simp
  rw [hW0] at hb hS hB0 hn0 ⊢
  clear hW0
  refine wpIn_rangeFunc_ownH (w0 := W0) rfl (by omega) rfl trivial (enters_of Try.func44 (by kernel_rfl) rfl)
    (seq_all none _ (by omega) W0 _ base g v L (lift L H.out.ok) HL.out hb hS (fun x hx => nomatch hx)) Kp.t (Kp.b (fun x hx => nomatch hx)) (Below.refl _ _) (fun x => rfl)
    (SpI w) (fun _ _ _ => False) (spI_own w (by omega)) (fun _ _ _ _ _ hs _ _ => hs) ⟨hn0, hB0, by omega⟩
    (SpA W0.heap.size (T0 g w.heap.size)) (fun x a' => spA_own _ _ x a') ?assign ?body ?done ?stop
  case assign =>
    intro l pre x W K hi hk
    have HI := Aside0.mk hi
    have HK := Aside0.mk hk
    clear hi hk
    simp only [encS, List.zip_toArray, List.zip_cons_cons, List.zip_nil_right, List.foldl_toArray, List.foldl_cons, List.foldl_nil, List.setIfInBounds_toArray, List.set_cons_succ, List.set_cons_zero]
    gi_wp2
    have hb : Below W.heap.size W (W.alloc (.cells #[.int .i64 x.1.1, .int .i64 x.1.2] 39)) := below_alloc (Below.refl _ W) _
    refine HK.out _ _ (keeps_below hb) (Kp.below hb (fun x hx => nomatch hx)) (HI.out.below hb) ⟨W.heap.size, by have := HI.out.2.2; omega, rfl, heap_alloc_new W _⟩
  case body =>
    intro l pre x a' W hl hr hi hx hp
    obtain ⟨B, hB, rfl, hBx⟩ := hx
    have hc0 : W.cell? ⟨B, 0, none⟩ = some (.int .i64 x.1.1) := by rw [cell_of_row W B _ _ _ _ hBx]; rfl
    have hc1 : W.cell? ⟨B, 1, none⟩ = some (.int .i64 x.1.2) := by rw [cell_of_row W B _ _ _ _ hBx]; rfl
    have hn : W.cell? ⟨w.heap.size, 0, none⟩ = some (.int .i64 pre.length) := by rw [cell_of_row W _ _ _ _ _ hi.1]; rfl
    have hfz := blk_frozen hi.1 0
    have HI := Aside0.mk hi
    have hq : (x.1.1 == -1 && x.1.2 == -1) = false := by
      have := x.2.1
      have : (x.1.1 == -1) = false := by simp; omega
      rw [this]
      rfl
    have hpl : (pre.length : Int) < 65536 := by
      have h1 := congrArg List.length HL.out
      rw [List.length_map] at h1
      have := H.out.few
      omega
    clear hi hr hBx hp
    unfold T0
    gi_wp2
    have hbx : Boxed W w.heap.size 3 (.int .i64 pre.length) := HI.out.1
    have hg := grownBy_setCell' W w.heap.size (.int .i64 ((pre.length : Int) + 1))
    refine ⟨KeepsFrom.of_grownBy hg (fun j e => by cases e; omega), Kp.from hg.size (fun k h1 h2 => hg.block k h2 (fun e => by cases e; omega)), ?_, HI.out.2.1.trans ?_, Nat.le_trans HI.out.2.2 hg.size⟩
    · have := hbx.set (.int .i64 ((pre.length : Int) + 1))
      rw [List.length_append, List.length_singleton]
      exact this
    · exact Below.setCell (p := ⟨w.heap.size, 0, none⟩) (Below.refl w.heap.size W) (Nat.le_refl w.heap.size) _
  case done =>
    intro D xs W hD hxs hi hK
    have hl : xs.length = L.length := by
      have h1 := congrArg List.length HL.out
      rw [List.length_map] at h1
      rw [hxs]
      exact h1
    obtain ⟨hi1, hi2, hi3⟩ := hi
    rw [hl] at hi1
    have hc : W.cell? ⟨w.heap.size, 0, none⟩ = some (.int .i64 L.length) := Boxed.cell (t := 3) hi1
    have HB := Aside0.mk hi2
    clear hi1 hi2 hS hB0 hn0 hb
    gi_wp2
    refine ⟨by simp, .inl ⟨_, _, rfl, run_takeDeferred hK, ?_⟩⟩
    refine ⟨_, results_tmp rfl _ _ _, rfl, HB.out.trans ?_⟩
    exact (belowK_b (w := w) (Nat.le_refl _) W D _ _ (by omega) hK rfl rfl).mono (by omega)
  case stop =>
    intro D c pre W _ _ h _
    exact h.elim
end Go.Proofs.Ytmkojmjjlcfohaa.Rg
