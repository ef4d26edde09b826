/- RangesNobody: the walks that range over a function; no condition. -/
import Derived.RangeFuncNested
import Derived.RangeFuncBound
import Derived.RangeFuncCalls
import Derived.RangeFuncLeaves
import Derived.RangeFuncFrom
import Derived.Shelf.Abstract
import Derived.Shelf.RegionOpen
import Derived.WalkKit
import Derived.OwnWalkIn
import Derived.TacticsInMore
import Derived.LoopNIn
import Derived.LoopIn
import Derived.Test.YtmkojmjjlcfohaaRangesNobody
set_option linter.unusedVariables false
set_option linter.unusedSimpArgs false
namespace Go.Proofs.Ytmkojmjjlcfohaa.RaN
open Go.RowKit Go.Shelf
attribute [local go_sem] Oper.semAt_some
/-- All: a closure that holds the set's pointer. -/
theorem all_any (w : World) (p : Value) (h : Nob w p) : Calls Try.prog 21 #[p] w fun e w' => e = .returned (.func (.func 44) #[] #[.pointer (some ⟨w.heap.size, 0, none⟩)]) ∧ w' = w.alloc (.cells #[p] 34) := by
  rcases h with rfl | ⟨g, rfl, h⟩
  · go_enter Try.func21, Try.ntmps21
    go_wp2
    go_ret
    exact ⟨rfl, rfl⟩
  · clear h
    go_enter Try.func21, Try.ntmps21
    go_wp2
    go_ret
    exact ⟨rfl, rfl⟩
theorem new_cell (W : World) (v : Value) (t : TypeId) : (W.alloc (.cells #[v] t)).cell? ⟨W.heap.size, 0, none⟩ = some v := by
  have h := World.alloc_heap_new W (.cells #[v] t)
  simp only [World.cell?, h]
  rfl
theorem keepK {W W' : World} {D : Nat} {o : Obj} (h : W.heap[D]? = some o) (hb : Below W.heap.size W W') : W'.heap[D]? = some o := (hb.block D (Array.getElem?_eq_some_iff.1 h).1).trans h
def noEnc (x : Empty) : Array Value := nomatch x
/-- The iterator of a set that no call made: it hands out nothing. -/
theorem seq_none (n : Nat) (hn : 1 ≤ n) (w : World) (bx : Nat) (p : Value) (hbx : w.cell? ⟨bx, 0, none⟩ = some p) (hp : Nob w p) (Kp : World → World → Prop) :
    SeqStopsK Fence.wide n Try.prog 44 #[.pointer (some ⟨bx, 0, none⟩)] noEnc Kp (fun _ => True) (fun _ => False) 0 w := by
  intro l J Jx W hW hJ hJx hY h0
  have hb := Bl.cell hW hbx
  have hN := Hd.mk (hp.below hW)
  clear hbx hp hW hY hJ hJx
  refine callsIn_of_wp Try.func44 rfl trivial ?_ rfl
  simp only [Try.ntmps44, List.size_toArray, List.length_cons, List.length_nil, Nat.reduceAdd, Nat.reduceSub, Array.replicate_succ, Array.replicate_zero, List.push_toArray, List.append_toArray, List.nil_append, List.cons_append]
  gi_wp2_with (refine ⟨trivial, ?_⟩; gi_at_call 43; refine (callsIn_wide.2 (none_any _ _ hN.out)).mono ?_; rintro e w' ⟨rfl, rfl⟩)
  refine bodyPost_ret (results_none rfl _ _ _) rfl ?_
  exact ⟨⟨_, rfl⟩, .inl ⟨[], trivial, h0⟩⟩
/-- A range over it goes on behind itself at once. -/
theorem range_none {g : Operand} {ps : Array Tmp} {assign body : Code} {Q : Exit → Act → World → Prop} {a : Act} {w : World} {n : Nat} (hn : 2 ≤ n) (bx : Nat) (p : Value) (hbx : w.cell? ⟨bx, 0, none⟩ = some p) (hp : Nob w p)
    (hg : a.eval g = .func (.func 44) #[] #[.pointer (some ⟨bx, 0, none⟩)])
    (h : ∀ (D : Nat) (W : World), w.heap.size ≤ D → Below w.heap.size w W → W.heap[D]? = some (.deferred (some [])) → Q .normal { a with defers := { target := .collected D, args := #[] } :: a.defers } W) :
    (Code.rangeFunc g ps assign body).wpIn Fence.wide n Try.prog Q a w := by
  refine wpIn_rangeFunc_ownF rfl (by omega) hg trivial (enters_of Try.func44 (by kernel_rfl) rfl)
    (seq_none _ (by omega) _ _ p hbx hp (Below w.heap.size)) belowK_t (belowK_b (Nat.le_refl _)) (Below.refl _ _) (fun x => nomatch x)
    (fun pre W => Below w.heap.size w W) (fun _ _ _ => False) (ownFrom_below (Nat.le_refl _) (Nat.le_refl _)) (fun _ _ _ _ _ hs _ _ => hs) (Below.refl _ _)
    (fun x => nomatch x) (fun l x => nomatch x) (fun l pre x => nomatch x) ?done ?stop
  case done =>
    rintro D ys W hD _ hB hK
    exact h D W hD hB hK
  case stop =>
    rintro D c pre W _ _ h _
    exact h.elim
set_option maxRecDepth 100000 in
set_option maxHeartbeats 2000000 in
theorem spans_any (w : World) (p : Value) (h : Nob w p) : Calls Try.prog 20 #[p] w fun e w' => e = .returned (.int .i64 0) ∧ Below w.heap.size w w' := by
  refine (callsIn_wide (n := 5)).1 ?_
  have H := Hd.mk h
  clear h
  refine callsIn_of_wp_marks Try.func20 rfl trivial ?_ rfl
  simp only [Try.ntmps20, List.size_toArray, List.length_cons, List.length_nil, Nat.reduceAdd, Nat.reduceSub, Array.replicate_succ, Array.replicate_zero, List.push_toArray, List.append_toArray, List.nil_append, List.cons_append]
  gi_wp2_with (refine ⟨trivial, ?_⟩; gi_at_call 21; refine (callsIn_wide.2 (all_any _ _ (H.out.below (by repeat (first | exact Below.refl _ _ | apply Bl.alloc))))).mono ?_; rintro e w' ⟨rfl, rfl⟩)
  have hs := new_cell w (.int .i64 0) 3
  have hb := new_cell (w.alloc (.cells #[.int .i64 0] 3)) p 34
  rw [World.size_alloc] at hb
  have hB0 : Below w.heap.size w ((w.alloc (.cells #[.int .i64 0] 3)).alloc (.cells #[p] 34)) := ((Below.refl _ w).alloc (Nat.le_refl _) _).alloc (by simp) _
  refine range_none (by omega) _ p hb (H.out.below hB0) rfl ?_
  intro D W hD hB hK
  have hc : W.cell? ⟨w.heap.size, 0, none⟩ = some (.int .i64 0) := Bl.cell hB (Bl.cell (Bl.alloc (Below.refl _ _) _) hs)
  gi_wp2
  refine ⟨by simp, .inl ⟨_, _, rfl, run_takeDeferred hK, ?_⟩⟩
  exact ⟨_, results_tmp rfl _ _ _, rfl, (Bl.then hB0 hB).trans (belowK_b (w := w) (Nat.le_refl _) W D _ _ (by simp at hD; omega) hK rfl rfl)⟩
set_option maxRecDepth 100000 in
set_option maxHeartbeats 2000000 in
theorem nobody_walk (k f l n : Int) (w : World) :
    Calls Try.prog 7 #[.agg #[.int .i64 k, .int .i64 f, .int .i64 l, .int .i64 n]] w fun e w' => e = .returned (.bool true) ∧ Below w.heap.size w w' := by
  refine (callsIn_wide (n := 9)).1 ?_
  refine callsIn_of_wp_marks Try.func7 rfl trivial ?_ rfl
  simp only [Try.ntmps7, List.size_toArray, List.length_cons, List.length_nil, Nat.reduceAdd, Nat.reduceSub, Array.replicate_succ, Array.replicate_zero, List.push_toArray, List.append_toArray, List.nil_append, List.cons_append]
  gi_wp2
  have HB : Hd (Below w.heap.size w (((w.alloc (.cells #[.int .i64 k, .int .i64 f, .int .i64 l, .int .i64 n] 58)).alloc (.cells #[.bool false, .slice none 0 0] 60)).alloc (.cells #[.pointer none, .pointer (some ⟨w.heap.size + 1, 0, none⟩)] 34))) := ⟨by repeat (first | exact Below.refl _ _ | apply Bl.alloc)⟩
  have HBase : Hd (Base (((w.alloc (.cells #[.int .i64 k, .int .i64 f, .int .i64 l, .int .i64 n] 58)).alloc (.cells #[.bool false, .slice none 0 0] 60)).alloc (.cells #[.pointer none, .pointer (some ⟨w.heap.size + 1, 0, none⟩)] 34)) w.heap.size (w.heap.size + 1) (w.heap.size + 1 + 1) k f l n) := ⟨by
    constructor
    all_goals first | (go_simp; done) | (constructor <;> go_simp; done) | (simp; omega) | simp⟩
  obtain ⟨W, hW⟩ : ∃ W, (((w.alloc (.cells #[.int .i64 k, .int .i64 f, .int .i64 l, .int .i64 n] 58)).alloc (.cells #[.bool false, .slice none 0 0] 60)).alloc (.cells #[.pointer none, .pointer (some ⟨w.heap.size + 1, 0, none⟩)] 34)) = W := ⟨_, rfl⟩
  rw [hW] at HB HBase ⊢
  clear hW
  obtain ⟨a0, a1, a2, a3, z0, r0, r1, ls, lz, lr⟩ := HBase.out
  have heq : ∀ (b : Nat) (W : World), (binOp .eql 42 (.func (.func 44) #[] #[.pointer (some ⟨b, 0, none⟩)]) .nilFunc).run Try.prog W = .ok (.bool false) W := fun _ _ => by kernel_rfl
  refine wpIn_loop_rounds 3 ?_
  rw [roundsIn_succ]
  gi_wp2_with (first
      | (refine ⟨trivial, ?_⟩; gi_at_call 27; refine (callsIn_wide.2 (endss_any _ _  (.inl rfl))).mono ?_; rintro e w' ⟨rfl, rfl⟩)
      | (refine ⟨trivial, ?_⟩; gi_at_call 17; refine (callsIn_wide.2 (add_any _ _ _ _ (.inl rfl))).mono ?_; rintro e w' ⟨rfl, rfl⟩)
      | (refine ⟨trivial, ?_⟩; gi_at_call 19; refine (callsIn_wide.2 (remove_any _ _ _ _ (.inl rfl))).mono ?_; rintro e w' ⟨rfl, rfl⟩)
      | (refine ⟨trivial, ?_⟩; gi_at_call 18; refine (callsIn_wide.2 (has_any _ _ _ (.inl rfl))).mono ?_; rintro e w' ⟨rfl, rfl⟩)
      | (refine ⟨trivial, ?_⟩; gi_at_call 28; refine (callsIn_wide.2 (gap_any _ _ _ (.inl rfl))).mono ?_; rintro e w' ⟨rfl, rfl⟩)
      | (refine ⟨trivial, ?_⟩; gi_at_call 22; refine (callsIn_wide.2 (clone_any _ _  (.inl rfl))).mono ?_; rintro e w' ⟨rfl, rfl⟩)
      | (refine ⟨trivial, ?_⟩; gi_at_call 21; refine (callsIn_wide.2 (all_any _ _ (.inl rfl))).mono ?_; rintro e w' ⟨rfl, rfl⟩)
      | (refine ⟨trivial, ?_⟩; gi_at_call 20; refine (callsIn_wide.2 (spans_any _ _ (.inl rfl))).mono ?_; rintro e w1 ⟨rfl, hb⟩; have n0 := Hd.mk (HBase.out.below (Bl.then (by repeat (first | exact Below.refl _ _ | apply Bl.alloc | apply Bl.drewN | apply Bl.drew)) hb)); have n1 := Hd.mk (Bl.then (Bl.then HB.out (by repeat (first | exact Below.refl _ _ | apply Bl.alloc | apply Bl.drewN | apply Bl.drew))) hb); clear HBase HB a0 a1 a2 a3 z0 r0 r1 ls lz lr; have HBase := n0; have HB := n1; clear n0 n1 hb; obtain ⟨a0, a1, a2, a3, z0, r0, r1, ls, lz, lr⟩ := HBase.out))
  refine range_none (by omega) _ (.pointer none) ?hbx (.inl rfl) rfl ?_
  case hbx => first | (go_simp; done) | simp
  intro D1 W1 hD1 hB1 hK1
  have hn0 : W1.cell? ⟨w1.heap.size, 0, none⟩ = some (.int .i64 0) := Bl.cell hB1 (by first | (go_simp; done) | simp)
  have n0 := Hd.mk (HBase.out.below (Bl.then (by repeat (first | exact Below.refl _ _ | apply Bl.alloc | apply Bl.drewN | apply Bl.drew)) hB1))
  have n1 := Hd.mk (Bl.then (Bl.then HB.out (by repeat (first | exact Below.refl _ _ | apply Bl.alloc | apply Bl.drewN | apply Bl.drew))) hB1)
  have HK := Hd.mk hK1
  have HD1 := Hd.mk (Nat.le_trans HB.out.size (Nat.le_trans (Below.size (B := w1.heap.size) (by repeat (first | exact Below.refl _ _ | apply Bl.alloc | apply Bl.drewN | apply Bl.drew))) hD1))
  clear HBase HB hB1 hK1 hD1 a0 a1 a2 a3 z0 r0 r1 ls lz lr
  have HBase := n0
  have HB := n1
  clear n0 n1
  obtain ⟨a0, a1, a2, a3, z0, r0, r1, ls, lz, lr⟩ := HBase.out
  gi_wp2
  clear hn0
  rw [roundsIn_succ]
  gi_wp2_with (first
      | (refine ⟨trivial, ?_⟩; gi_at_call 27; refine (callsIn_wide.2 (endss_any _ _  (.inr ⟨_, rfl, HBase.out.z0.below (by repeat (first | exact Below.refl _ _ | apply Bl.alloc | apply Bl.drewN | apply Bl.drew))⟩))).mono ?_; rintro e w' ⟨rfl, rfl⟩)
      | (refine ⟨trivial, ?_⟩; gi_at_call 17; refine (callsIn_wide.2 (add_any _ _ _ _ (.inr ⟨_, rfl, HBase.out.z0.below (by repeat (first | exact Below.refl _ _ | apply Bl.alloc | apply Bl.drewN | apply Bl.drew))⟩))).mono ?_; rintro e w' ⟨rfl, rfl⟩)
      | (refine ⟨trivial, ?_⟩; gi_at_call 19; refine (callsIn_wide.2 (remove_any _ _ _ _ (.inr ⟨_, rfl, HBase.out.z0.below (by repeat (first | exact Below.refl _ _ | apply Bl.alloc | apply Bl.drewN | apply Bl.drew))⟩))).mono ?_; rintro e w' ⟨rfl, rfl⟩)
      | (refine ⟨trivial, ?_⟩; gi_at_call 18; refine (callsIn_wide.2 (has_any _ _ _ (.inr ⟨_, rfl, HBase.out.z0.below (by repeat (first | exact Below.refl _ _ | apply Bl.alloc | apply Bl.drewN | apply Bl.drew))⟩))).mono ?_; rintro e w' ⟨rfl, rfl⟩)
      | (refine ⟨trivial, ?_⟩; gi_at_call 28; refine (callsIn_wide.2 (gap_any _ _ _ (.inr ⟨_, rfl, HBase.out.z0.below (by repeat (first | exact Below.refl _ _ | apply Bl.alloc | apply Bl.drewN | apply Bl.drew))⟩))).mono ?_; rintro e w' ⟨rfl, rfl⟩)
      | (refine ⟨trivial, ?_⟩; gi_at_call 22; refine (callsIn_wide.2 (clone_any _ _  (.inr ⟨_, rfl, HBase.out.z0.below (by repeat (first | exact Below.refl _ _ | apply Bl.alloc | apply Bl.drewN | apply Bl.drew))⟩))).mono ?_; rintro e w' ⟨rfl, rfl⟩)
      | (refine ⟨trivial, ?_⟩; gi_at_call 21; refine (callsIn_wide.2 (all_any _ _ (.inr ⟨_, rfl, HBase.out.z0.below (by repeat (first | exact Below.refl _ _ | apply Bl.alloc | apply Bl.drewN | apply Bl.drew))⟩))).mono ?_; rintro e w' ⟨rfl, rfl⟩)
      | (refine ⟨trivial, ?_⟩; gi_at_call 20; refine (callsIn_wide.2 (spans_any _ _ (.inr ⟨_, rfl, HBase.out.z0.below (by repeat (first | exact Below.refl _ _ | apply Bl.alloc | apply Bl.drewN | apply Bl.drew))⟩))).mono ?_; rintro e w2 ⟨rfl, hb⟩; have n0 := Hd.mk (HBase.out.below (Bl.then (by repeat (first | exact Below.refl _ _ | apply Bl.alloc | apply Bl.drewN | apply Bl.drew)) hb)); have n1 := Hd.mk (Bl.then (Bl.then HB.out (by repeat (first | exact Below.refl _ _ | apply Bl.alloc | apply Bl.drewN | apply Bl.drew))) hb); have n2 := Hd.mk (keepK HK.out (Bl.then (by repeat (first | exact Below.refl _ _ | apply Bl.alloc | apply Bl.drewN | apply Bl.drew)) hb)); clear HBase HB HK a0 a1 a2 a3 z0 r0 r1 ls lz lr; have HBase := n0; have HB := n1; have HK := n2; clear n0 n1 n2 hb; obtain ⟨a0, a1, a2, a3, z0, r0, r1, ls, lz, lr⟩ := HBase.out))
  refine range_none (by omega) _ (.pointer (some ⟨w.heap.size + 1, 0, none⟩)) ?hbx (.inr ⟨_, rfl, HBase.out.z0.below (by repeat (first | exact Below.refl _ _ | apply Bl.alloc | apply Bl.drewN | apply Bl.drew))⟩) rfl ?_
  case hbx => first | (go_simp; done) | simp
  intro D2 W2 hD2 hB2 hK2
  have hn0 : W2.cell? ⟨w2.heap.size, 0, none⟩ = some (.int .i64 0) := Bl.cell hB2 (by first | (go_simp; done) | simp)
  have HK1 := keepK HK.out (Bl.then (by repeat (first | exact Below.refl _ _ | apply Bl.alloc | apply Bl.drewN | apply Bl.drew)) hB2)
  have HD2 := Hd.mk (Nat.le_trans HB.out.size (Nat.le_trans (Below.size (B := w2.heap.size) (by repeat (first | exact Below.refl _ _ | apply Bl.alloc | apply Bl.drewN | apply Bl.drew))) hD2))
  have hne : D1 < D2 := by
    have h1 := (Array.getElem?_eq_some_iff.1 HK.out).1
    simp at hD2
    omega
  have HB2 := Bl.then (Bl.then HB.out (by repeat (first | exact Below.refl _ _ | apply Bl.alloc | apply Bl.drewN | apply Bl.drew))) hB2
  have HBase2 := HBase.out.below (Bl.then (by repeat (first | exact Below.refl _ _ | apply Bl.alloc | apply Bl.drewN | apply Bl.drew)) hB2)
  clear HBase HB HK hB2 a0 a1 a2 a3 z0 r0 r1 ls lz lr
  obtain ⟨a0, a1, a2, a3, z0, r0, r1, ls, lz, lr⟩ := HBase2
  gi_wp2
  rw [roundsIn_succ]
  gi_wp2
  have hK1' : (W2.putObj D2 (.deferred none)).heap[D1]? = some (.deferred (some [])) := (World.putObj_heap_other (by omega)).trans HK1
  refine ⟨by simp, .inl ⟨_, _, rfl, run_takeDeferred hK2, ?_⟩⟩
  refine ⟨by simp, .inl ⟨_, _, rfl, run_takeDeferred hK1', ?_⟩⟩
  exact ⟨_, results_tmp rfl _ _ _, rfl, (HB2.trans (belowK_b (w := w) (Nat.le_refl _) W2 D2 _ _ HD2.out hK2 rfl rfl)).trans (belowK_b (w := w) (Nat.le_refl _) (W2.putObj D2 (.deferred none)) D1 _ _ HD1.out hK1' rfl rfl)⟩
end Go.Proofs.Ytmkojmjjlcfohaa.RaN
