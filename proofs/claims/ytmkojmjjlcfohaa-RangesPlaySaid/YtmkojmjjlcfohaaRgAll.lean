/- Sets of spans: the iterator All, and Spans; no condition. -/
import Derived.RangeFuncNested
import Derived.RangeFuncBound
import Derived.RangeFuncCalls
import Derived.RangeFuncLeaves
import Derived.RangeFuncFrom
import Derived.Shelf.Abstract
import Derived.Shelf.RegionOpen
import Derived.WalkKit
import Derived.OwnWalkIn
import Derived.TacticsInMore
import Derived.LoopNIn
import Derived.LoopIn
import Derived.Test.YtmkojmjjlcfohaaRgRem
set_option linter.unusedVariables false
set_option linter.unusedSimpArgs false
namespace Go.Proofs.Ytmkojmjjlcfohaa.Rg
open Go.RowKit Go.Shelf Go.Proofs.YtmkojmjjlcfohaaW.PrintWords Go.Proofs.YtmkojmjjlcfohaaW.PrintLast Go.Proofs.YtmkojmjjlcfohaaW.PrintMore Go.Proofs.Ytmkojmjjlcfohaa.Rw
attribute [local go_sem] Oper.semAt_some
/-- Block k is what the variable in box X points to. -/
def Pts (X : Option Nat) (W : World) (k : Nat) : Prop := ∃ x A n c, X = some x ∧ W.cell? ⟨x, 0, none⟩ = some (.slice (some A) n c) ∧ A.block = k
/-- What a round of a loop over a set keeps: rows of spans from n₀ on, but what the variable in box X points to. -/
structure Kp (X : Option Nat) (n₀ : Nat) (W W' : World) : Prop where
  size : W.heap.size ≤ W'.heap.size
  row : ∀ k cs, n₀ ≤ k → W.heap[k]? = some (.cells cs 39 (0, 0)) → ¬ Pts X W k → W'.heap[k]? = W.heap[k]? ∧ ¬ Pts X W' k
theorem Kp.t {X : Option Nat} {n₀ : Nat} {A B C : World} (h : Kp X n₀ A B) (k : Kp X n₀ B C) : Kp X n₀ A C :=
  ⟨Nat.le_trans h.size k.size, fun i cs hi hr hp => by
    obtain ⟨h1, h2⟩ := h.row i cs hi hr hp
    obtain ⟨k1, k2⟩ := k.row i cs hi (h1.trans hr) h2
    exact ⟨k1.trans h1, k2⟩⟩
theorem pts_same {X : Option Nat} {W W' : World} {k : Nat} (h : ∀ x, X = some x → W'.heap[x]? = W.heap[x]?) (hp : ¬ Pts X W k) : ¬ Pts X W' k := by
  rintro ⟨x, A, n, c, hx, hc, ha⟩
  exact hp ⟨x, A, n, c, hx, (World.cell?_of_block (a := ⟨x, 0, none⟩) (h x hx)).symm.trans hc, ha⟩
theorem Kp.below {X : Option Nat} {n₀ : Nat} {W W' : World} (hb : Below W.heap.size W W') (hX : ∀ x, X = some x → x < W.heap.size) : Kp X n₀ W W' :=
  ⟨hb.size, fun k cs _ hr hp => ⟨hb.block k (Array.getElem?_eq_some_iff.1 hr).1, pts_same (fun x hx => hb.block x (hX x hx)) hp⟩⟩
theorem Kp.b {X : Option Nat} {n₀ : Nat} {w : World} (hX : ∀ x, X = some x → x < w.heap.size) (W : World) (l : Nat) (o o' : Obj) (hl : w.heap.size ≤ l) (h : W.heap[l]? = some o) (hc : o.isCells = false) (_ : o.isWalk = false) : Kp X n₀ W (W.putObj l o') := by
  refine ⟨by simp, fun k cs _ hr hp => ?_⟩
  have hne : k ≠ l := by
    rintro rfl
    rw [h] at hr
    injection hr with hr
    subst hr
    simp [Obj.isCells] at hc
  exact ⟨World.putObj_heap_other hne, pts_same (fun x hx => World.putObj_heap_other (by have := hX x hx; omega)) hp⟩
/-- All: a closure that holds the set's pointer. -/
theorem all_s (w : World) (g : Nat) : Calls Try.prog 21 #[.pointer (some ⟨g, 0, none⟩)] w fun e w' => e = .returned (.func (.func 44) #[] #[.pointer (some ⟨w.heap.size, 0, none⟩)]) ∧ w' = w.alloc (.cells #[.pointer (some ⟨g, 0, none⟩)] 34) := by
  go_enter Try.func21, Try.ntmps21
  go_wp2
  go_ret
  exact ⟨rfl, rfl⟩
/-- A span of a set. -/
abbrev SpT := { x : Sp // 0 ≤ x.1 ∧ x.1 ≤ x.2 ∧ x.2 ≤ 4611686018427387903 }
def lift (L : List Sp) (h : Ok L) : List SpT := L.attach.map (fun x => ⟨x.1, h.2 x.1 x.2⟩)
theorem lift_val (L : List Sp) (h : Ok L) : (lift L h).map (·.1) = L := by
  unfold lift
  rw [List.map_map]
  exact List.attach_map_subtype_val L
def encS (x : SpT) : Array Value := #[.agg #[.int .i64 x.1.1, .int .i64 x.1.2]]
/-- Under way: k spans have come. -/
def AllRel (X : Option Nat) (L : List Sp) (LT : List SpT) (B : Nat) (v2 : Value) (J : List SpT → World → Prop) (kv : Value) (wr : World) : Prop :=
  ∃ k : Nat, k ≤ L.length ∧ kv = .int .i64 k ∧ J (LT.take k) wr ∧ wr.ownsRow B 39 2 v2 L.length (cells L) ∧ (∀ b, v2.ownBlock = some b → ¬ Pts X wr b) ∧ B ≤ wr.heap.size
theorem own_kept {X : Option Nat} {n₀ : Nat} {W W' : World} {B : Nat} {v : Value} {n : Nat} {xs : List Value} (h : W.ownsRow B 39 2 v n xs) (hB : n₀ ≤ B) (hp : ∀ b, v.ownBlock = some b → ¬ Pts X W b) (hk : Kp X n₀ W W') :
    W'.ownsRow B 39 2 v n xs ∧ ∀ b, v.ownBlock = some b → ¬ Pts X W' b := by
  refine ⟨⟨h.1, ?_⟩, fun b hb => ?_⟩
  · rcases h.2 with h0 | ⟨g, c, cur, rfl, hb, hg, r⟩
    · exact .inl h0
    · exact .inr ⟨g, c, cur, rfl, hb, (hk.row g cur (Nat.le_trans hB hb) hg (hp g rfl)).1.trans hg, r⟩
  · obtain ⟨hB2, cs, hc⟩ := own_typed h b hb
    exact (hk.row b cs (Nat.le_trans hB hB2) hc (hp b hb)).2
theorem take_snoc {α : Type} {L : List α} {k : Nat} {x : α} (hx : L[k]? = some x) : L.take (k + 1) = L.take k ++ [x] := by
  obtain ⟨hk, he⟩ := List.getElem?_eq_some_iff.1 hx
  rw [List.take_succ_eq_append_getElem hk, he]
set_option maxRecDepth 100000 in
set_option maxHeartbeats 2000000 in
/-- The iterator of a set: all its spans, in order, or some. -/
theorem seq_all (X : Option Nat) (n : Nat) (hn : 1 ≤ n) (w : World) (bx base g : Nat) (v : Value) (L : List Sp) (LT : List SpT) (hLT : LT.map (·.1) = L) (hbx : w.cell? ⟨bx, 0, none⟩ = some (.pointer (some ⟨g, 0, none⟩))) (h : SetAt w base g v L)
    (hX : ∀ x, X = some x → x < w.heap.size ∧ ∀ A m c, w.cell? ⟨x, 0, none⟩ = some (.slice (some A) m c) → A.block < w.heap.size) :
    SeqStopsK Fence.wide n Try.prog 44 #[.pointer (some ⟨bx, 0, none⟩)] encS (Kp X w.heap.size) (fun xs => xs = LT) (fun pre => pre <+: LT) LT.length w := by
  intro l J Jx W hW hJ hJx hY h0
  have hb := pw_cell_below hW hbx
  have HS := Aside0.mk (h.below hW)
  have HXW := Aside0.mk (fun x (hx : X = some x) => show x < W.heap.size from Nat.lt_of_lt_of_le (hX x hx).1 hW.size)
  have hnp : ∀ W2, Below W.heap.size W W2 → ∀ k, W.heap.size ≤ k → ¬ Pts X W2 k := by
    rintro W2 h2 k hk ⟨x, A, m, c, hx, hc, ha⟩
    have hxw := (hX x hx).1
    have hc' : w.cell? ⟨x, 0, none⟩ = some (.slice (some A) m c) := by
      have e : W2.heap[x]? = w.heap[x]? := (h2.block x (Nat.lt_of_lt_of_le hxw hW.size)).trans (hW.block x hxw)
      exact (World.cell?_of_block (a := ⟨x, 0, none⟩) e).symm.trans hc
    have := (hX x hx).2 A m c hc'
    have := hW.size
    omega
  have HNP := Aside0.mk hnp
  have hll : LT.length = L.length := by rw [← hLT, List.length_map]
  have HLT := Aside0.mk hLT
  have HLL := Aside0.mk hll
  have HY := Aside0.mk hY
  have HJ := Aside0.mk hJ
  have HH0 := Aside0.mk h0
  have c1 := (h.below hW).c1
  have HWs := Aside0.mk hW.size
  have hfew := h.few
  clear hbx h hX hW hnp hY hJ hJx h0 hll hLT
  refine callsIn_of_wp Try.func44 rfl trivial ?_ rfl
  simp only [Try.ntmps44, List.size_toArray, List.length_cons, List.length_nil, Nat.reduceAdd, Nat.reduceSub, Array.replicate_succ, Array.replicate_zero, List.push_toArray, List.append_toArray, List.nil_append, List.cons_append]
  gi_wp2_with (first
    | (refine ⟨trivial, ?_⟩; gi_at_call 43; refine (callsIn_wide.2 (none_s HS.out)).mono ?_; rintro e w' ⟨rfl, rfl⟩)
    | (refine ⟨trivial, ?_⟩; gi_at_call 45; refine (callsIn_wide.2 (clone_sl HS.out.row (by have := HS.out.few; omega))).mono ?_; rintro e W2 ⟨v2, rfl, ho, hb2⟩; have HO := Aside0.mk ho; have HB2 := Aside0.mk hb2; obtain ⟨A2, n2, rfl, hn2, hln2, hA2⟩ := row_form ho; have HA2 := Aside0.mk hA2; clear ho hb2 hA2))
  gi_loopw [13] (fun kv wr => AllRel X L LT W.heap.size (.slice A2 L.length n2) J kv wr) (fun kv _ => L.length - (intOf kv).toNat)
  case atStart =>
    refine ⟨0, Nat.zero_le _, rfl, HJ.out _ _ _ none HH0.out (grown_of_below HB2.out none) (fun r e => by cases e), HO.out, fun b hb => HNP.out W2 HB2.out b (own_typed HO.out b hb).1, HB2.out.size⟩
  case round =>
    obtain ⟨k, hk, rfl, hJs, hown, hnpt, hsz⟩ := hrel
    have HR := Aside0.mk hown
    have HPT := Aside0.mk hnpt
    by_cases hlt : k < L.length
    · obtain ⟨xt, hxt⟩ : ∃ x, LT[k]? = some x := ⟨_, List.getElem?_eq_getElem (by rw [HLL.out]; exact hlt)⟩
      have hx : L[k]? = some xt.1 := by rw [← HLT.out, List.getElem?_map, hxt]; rfl
      obtain ⟨x, hxp⟩ : ∃ x, x = xt.1 := ⟨_, rfl⟩
      have HXP := Aside0.mk hxp
      rw [← hxp] at hx
      obtain ⟨A, c, hv, hc, hnc, a2, a3⟩ := row_at hown k x hx
      injection hv with hv1 _ hv2
      subst hv1; subst hv2
      have HX2 := Aside0.mk hxt
      have hJa := HJ.out _ _ (wr.alloc (.cells #[.int .i64 x.1, .int .i64 x.2] 39)) none hJs (World.grownBy_alloc wr _ none) (fun r e => by cases e)
      obtain ⟨fn, tmps, assign, body, hy, hR'⟩ := HY.out _ xt _ hJa (by have := HLL.out; rw [List.length_take]; omega)
      dsimp only [encS] at hy
      rw [← hxp] at hy
      have HRR := Aside0.mk hR'
      have HK1 := Aside0.mk (own_kept (X := X) (n₀ := w.heap.size) hown HWs.out hnpt (Kp.below (below_alloc (Below.refl _ wr) (.cells #[.int .i64 x.1, .int .i64 x.2] 39)) (fun y hy => Nat.lt_of_lt_of_le (HXW.out y hy) hsz)))
      clear hJa hJs hx hxt hxp hown hnpt hR'
      gi_wp2
      refine HRR.out.mono ?_
      rintro e W3 (⟨rfl, hJ3, hk3⟩ | ⟨rfl, hJx3⟩)
      · have HN := Aside0.mk (show AllRel X L LT W.heap.size (.slice (some ⟨A, 0, none⟩) L.length n2) J (.int .i64 ((k : Int) + 1)) W3 from by
          obtain ⟨h1, h2⟩ := own_kept HK1.out.1 HWs.out HK1.out.2 hk3
          exact ⟨k + 1, by omega, rfl, by rw [take_snoc HX2.out]; exact hJ3, h1, h2, Nat.le_trans (by simp; omega) hk3.size⟩)
        clear hJ3 hk3
        gi_wp2
        go_roundw
        case rel => exact HN.out
        case measure => simp [intOf]; omega
      · have HJX := Aside0.mk hJx3
        clear hJx3
        gi_wp2
        refine bodyPost_ret (results_none rfl _ _ _) rfl ?_
        exact ⟨⟨_, rfl⟩, .inr ⟨_, by rw [← take_snoc HX2.out]; exact List.take_prefix _ _, HJX.out⟩⟩
    · have hkl : k = L.length := by omega
      have hJe : J LT wr := by rw [hkl, ← HLL.out, List.take_length] at hJs; exact hJs
      have HJE := Aside0.mk hJe
      clear hJe hJs hown hnpt hkl
      gi_wp2
      go_end0
      exact ⟨⟨_, rfl⟩, .inl ⟨_, rfl, HJE.out⟩⟩
end Go.Proofs.Ytmkojmjjlcfohaa.Rg
