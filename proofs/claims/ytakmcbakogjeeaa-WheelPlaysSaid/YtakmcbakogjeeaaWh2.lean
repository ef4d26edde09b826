/- Wheels (layer 25): a row turned, the clock set, the map turned; New, none, isTime, At, Len; no condition. -/
import Derived.Test.YtakmcbakogjeeaaWh1
set_option linter.unusedVariables false
set_option linter.unusedSimpArgs false
namespace Go.Proofs.Ytakmcbakogjeeaa.Wh
open Go Go.RowKit Go.Maps Go.Proofs.Ytakmcbakogjeeaa.Rm Go.Proofs.Ytakmcbakogjeeaa.Rw
open Go.Proofs.YtakmcbakogjeeaaW.PrintWords Go.Proofs.YtakmcbakogjeeaaW.PrintLast Go.Proofs.YtakmcbakogjeeaaW.PrintMore
variable {W W' W2 : World} {b p m n : Nat} {now : Int} {kv : KV} {R : List Row} {x x' : Row} {F F' F2 : Nat → Prop}
theorem WhAt.apart (h : WhAt W b p m n now kv R) {i j : Nat} {y : Row} (hi : R[i]? = some y) (hj : R[j]? = some x) (hij : i ≠ j) : Ap x y := by
  have hp := List.pairwise_iff_getElem.1 h.ap
  obtain ⟨i1, i2⟩ := List.getElem?_eq_some_iff.1 hi
  obtain ⟨j1, j2⟩ := List.getElem?_eq_some_iff.1 hj
  rcases Nat.lt_or_gt_of_ne hij with hlt | hgt
  · have := hp i j i1 j1 hlt
    rw [i2, j2] at this
    exact ap_symm _ _ this
  · have := hp j i j1 i1 hgt
    rwa [i2, j2] at this
theorem WhAt.p_ne (h : WhAt W b p m n now kv R) {y : Row} (hy : y ∈ R) {k : Nat} (hk : y.1.ownBlock = some k) : k ≠ p ∧ k ≠ m := by
  obtain ⟨_, cs, hc⟩ := (h.row y hy).block hk
  constructor
  · rintro rfl
    rw [h.blk] at hc
    injection hc with hc
    injection hc with _ hc
    exact absurd hc (by decide)
  · rintro rfl
    obtain ⟨es, clock, hb, _⟩ := h.mp
    rw [hb] at hc
    cases hc
theorem WhAt.pm (h : WhAt W b p m n now kv R) : p ≠ m := by
  rintro rfl
  obtain ⟨es, clock, hb, _⟩ := h.mp
  rw [h.blk] at hb
  cases hb
/-- A row turned: written in its own block, or anew, or none; then its head. -/
theorem WhAt.setRow (h : WhAt W b p m n now kv R) (hbw : b ≤ W.heap.size) {j : Nat} (hj : R[j]? = some x) {w1 : World} {v1 : Value} {l1 : List Tm} (hg : W.grownBy w1 x.1.ownBlock) (hr : RowAt w1 b (v1, l1))
    (ho : v1.ownBlock = x.1.ownBlock ∨ v1.ownBlock = none ∨ ∃ k, v1.ownBlock = some k ∧ W.heap.size ≤ k) :
    w1.heap[p]? = W.heap[p]? ∧ WhAt (w1.setCell ⟨p, 2 + j, none⟩ v1) b p m n now kv (R.set j (v1, l1)) ∧ Lf W (w1.setCell ⟨p, 2 + j, none⟩ v1) b (foot p m R) (foot p m (R.set j (v1, l1))) := by
  have hx : x ∈ R := List.mem_of_getElem? hj
  have hjl : j < R.length := (List.getElem?_eq_some_iff.1 hj).1
  have hplt : p < W.heap.size := (Array.getElem?_eq_some_iff.1 h.blk).1
  have hb1 : w1.heap[p]? = W.heap[p]? := hg.block p hplt (fun e => (h.p_ne hx e.symm).1 rfl)
  have hp1 := hb1.trans h.blk
  have hf2 : ∀ k, k ≠ p → (w1.setCell ⟨p, 2 + j, none⟩ v1).heap[k]? = w1.heap[k]? := fun k hk => Below.heap_setCell w1 ⟨p, 2 + j, none⟩ v1 k hk
  have hml : m < W.heap.size := (h.foot_ty (.inr (.inl rfl))).1
  have hm1 : (w1.setCell ⟨p, 2 + j, none⟩ v1).heap[m]? = W.heap[m]? := (hf2 m (fun e => h.pm e.symm)).trans (hg.block m hml (fun e => (h.p_ne hx e.symm).2 rfl))
  have hlt : ∀ y ∈ R, ∀ k, y.1.ownBlock = some k → k < W.heap.size := fun y hy k hk => by
    obtain ⟨_, cs, hc⟩ := (h.row y hy).block hk
    exact (Array.getElem?_eq_some_iff.1 hc).1
  have hnp : ∀ k, v1.ownBlock = some k → k ≠ p := fun k hk => by
    rcases ho with e | e | ⟨k2, e, hk2⟩
    · exact (h.p_ne hx (e ▸ hk)).1
    · rw [e] at hk; cases hk
    · rw [e] at hk; injection hk with hk; omega
  have hnew : ∀ y ∈ R, Ap x y → Ap (v1, l1) y := fun y hy hxy k hk hk2 => by
    rcases ho with e | e | ⟨k2, e, hk3⟩
    · exact hxy k (e ▸ hk) hk2
    · have hk' : v1.ownBlock = some k := hk
      rw [e] at hk'; cases hk'
    · have hk' : v1.ownBlock = some k := hk
      rw [e] at hk'; injection hk' with hk'
      have := hlt y hy k hk2
      omega
  have hsz := hg.size
  have hat : ∀ i y, (R.set j (v1, l1))[i]? = some y → (i = j ∧ y = (v1, l1)) ∨ (i ≠ j ∧ R[i]? = some y) := fun i y hi => by
    rw [List.getElem?_set] at hi
    by_cases hij : j = i
    · rw [if_pos hij, if_pos (by omega)] at hi
      exact .inl ⟨hij.symm, (Option.some.inj hi).symm⟩
    · rw [if_neg hij] at hi
      exact .inr ⟨fun e => hij e.symm, hi⟩
  refine ⟨hb1, ⟨h.hp, h.hm, ?_, by rw [List.length_set]; exact h.len, ?_, fun y hy => ?_, ?_⟩, ⟨?_, fun k hk hn => ?_, fun k hk => ?_⟩⟩
  · have := blk_set hp1 (2 + j) v1
    rwa [wcells_set hjl (v1, l1)] at this
  · obtain ⟨es, clock, hb, hrr⟩ := h.mp
    exact ⟨es, clock, hm1.trans hb, hrr⟩
  · obtain ⟨i, hi, e⟩ := List.mem_iff_getElem.1 hy
    have hi' : (R.set j (v1, l1))[i]? = some y := by rw [List.getElem?_eq_getElem hi, e]
    rcases hat i y hi' with ⟨_, rfl⟩ | ⟨hne, hri⟩
    · exact hr.move (fun k hk => hf2 k (hnp k hk))
    · have hyR := List.mem_of_getElem? hri
      exact (h.row y hyR).move (fun k hk => (hf2 k (h.p_ne hyR hk).1).trans (hg.block k (hlt y hyR k hk) (fun e => h.apart hri hj hne k e.symm hk)))
  · refine List.pairwise_iff_getElem.2 (fun i k hi hk hik => ?_)
    rcases hat i _ (List.getElem?_eq_getElem hi) with ⟨ei, e1⟩ | ⟨ni, e1⟩
    · rcases hat k _ (List.getElem?_eq_getElem hk) with ⟨ek, e2⟩ | ⟨nk, e2⟩
      · omega
      · rw [e1]
        exact hnew _ (List.mem_of_getElem? e2) (h.apart e2 hj nk)
    · rcases hat k _ (List.getElem?_eq_getElem hk) with ⟨ek, e2⟩ | ⟨nk, e2⟩
      · rw [e2]
        exact ap_symm _ _ (hnew _ (List.mem_of_getElem? e1) (h.apart e1 hj ni))
      · exact ap_symm _ _ (h.apart e1 e2 (by omega))
  · have hb2 : Below b W w1 := ⟨hg.os, hg.tape, hg.output, hg.size, fun k hk => hg.block k (by omega) (fun e => by have := ((h.row x hx).block e.symm).1; omega)⟩
    exact hb2.setCell (p := ⟨p, 2 + j, none⟩) h.hp v1
  · exact (hf2 k (fun e => hn (.inl e))).trans (hg.block k hk (fun e => hn (.inr (.inr ⟨x, hx, e.symm⟩))))
  · rcases hk with e | e | ⟨y, hy, hk⟩
    · exact .inl (.inl e)
    · exact .inl (.inr (.inl e))
    · obtain ⟨i, hi, e⟩ := List.mem_iff_getElem.1 hy
      rcases hat i y (by rw [List.getElem?_eq_getElem hi, e]) with ⟨_, rfl⟩ | ⟨hne, hri⟩
      · rcases ho with e | e | ⟨k2, e, hk3⟩
        · exact .inl (.inr (.inr ⟨x, hx, e ▸ hk⟩))
        · have hk' : v1.ownBlock = some k := hk
          rw [e] at hk'; cases hk'
        · have hk' : v1.ownBlock = some k := hk
          rw [e] at hk'; injection hk' with hk'
          exact .inr (by omega)
      · exact .inl (.inr (.inr ⟨y, List.mem_of_getElem? hri, hk⟩))
/-- The clock set. -/
theorem WhAt.setNow (h : WhAt W b p m n now kv R) (now' : Int) : WhAt (W.setCell ⟨p, 1, none⟩ (.int .i64 now')) b p m n now' kv R ∧ Lf W (W.setCell ⟨p, 1, none⟩ (.int .i64 now')) b (foot p m R) (foot p m R) := by
  have hf2 : ∀ k, k ≠ p → (W.setCell ⟨p, 1, none⟩ (.int .i64 now')).heap[k]? = W.heap[k]? := fun k hk => Below.heap_setCell W ⟨p, 1, none⟩ _ k hk
  refine ⟨⟨h.hp, h.hm, ?_, h.len, ?_, fun y hy => (h.row y hy).move (fun k hk => hf2 k (h.p_ne hy hk).1), h.ap⟩, ⟨(Below.refl b W).setCell (p := ⟨p, 1, none⟩) h.hp _, fun k hk hn => hf2 k (fun e => hn (.inl e)), fun k hk => .inl hk⟩⟩
  · exact blk_set h.blk 1 (.int .i64 now')
  · obtain ⟨es, clock, hb, hr⟩ := h.mp
    exact ⟨es, clock, (hf2 m (fun e => h.pm e.symm)).trans hb, hr⟩
/-- The map turned. -/
theorem WhAt.turned (h : WhAt W b p m n now kv R) {n' : Nat} {kv' : KV} (ht : W.mapTurned W' m) (hm : W'.ownsMap Try.prog 3 rawElem m n' (mapD kv')) : WhAt W' b p m n' now kv' R ∧ Lf W W' b (foot p m R) (foot p m R) := by
  have hbm : Ib.ButM W W' m := (Ib.ButM.of_below (m := m) (Below.refl _ W)).turned ht
  have hf : ∀ k, k < W.heap.size → k ≠ m → W'.heap[k]? = W.heap[k]? := hbm.block
  refine ⟨⟨h.hp, h.hm, (hf p (h.foot_ty (.inl rfl)).1 h.pm).trans h.blk, h.len, hm, fun y hy => (h.row y hy).move (fun k hk => hf k (h.foot_ty (.inr (.inr ⟨y, hy, hk⟩))).1 (h.p_ne hy hk).2), h.ap⟩, ⟨⟨hbm.os, hbm.tape, hbm.output, hbm.size, fun k hk => hf k (by have := (h.foot_ty (.inr (.inl rfl))).1; have := h.hm; omega) (by have := h.hm; omega)⟩, fun k hk hn => hf k hk (fun e => hn (.inr (.inl e))), fun k hk => .inl hk⟩⟩
/-- What mapUpdate leaves. -/
noncomputable def updW (W : World) (m : Nat) (k : Int) (v : Value) : World := match (Instr.mapUpdate 72 (.map (some m)) (.int .i64 k) v).run Try.prog W with | .ok _ w' => w' | _ => W
theorem upd_run (h : W.ownsMap Try.prog 3 rawElem m n (mapD kv)) (hn : n < maxLen) {k : Int} (hk : (Lit.int .i64 k).wf = true) (v : Value) :
    (Instr.mapUpdate 72 (.map (some m)) (.int .i64 k) v).run Try.prog W = .ok () (updW W m k v) ∧ (updW W m k v).ownsMap Try.prog 3 rawElem m (n + 1) (mapD (putL kv k v)) ∧ W.mapTurned (updW W m k v) m := by
  obtain ⟨w', h1, h2, h3⟩ := Rm.store h law Try.underlying72 hn (keyInt Try.underlying3 hk) v
  have e : updW W m k v = w' := by unfold updW; rw [h1]
  rw [e]
  exact ⟨h1, h2, h3⟩
/-- What delete leaves. -/
noncomputable def delW (W : World) (m : Nat) (k : Int) : World := match (Builtin.delete_ #[72, 3] 0 #[.map (some m), .int .i64 k]).run Try.prog W with | .ok _ w' => w' | _ => W
theorem look_ok {k : Int} (hm : W.ownsMap Try.prog 3 rawElem m n (mapD kv)) (hwf : (Lit.int .i64 k).wf = true) : (Instr.lookup 72 (.map (some m)) (.int .i64 k) true).run Try.prog W = .ok (.tuple #[(getL kv k).getD (.int .i64 0), .bool (getL kv k).isSome]) W :=
  Rm.look_ok hm law Try.underlying72 (zeroI W) (keyInt Try.underlying3 hwf)
set_option maxRecDepth 100000 in
theorem isTime_s (t : Int) (W : World) : Calls Try.prog 81 #[.int .i64 t] W fun e w' => e = .returned (.bool (decide (0 ≤ t) && decide (t ≤ 1125899906842624))) ∧ W = w' := by
  by_cases h0 : 0 ≤ t
  · go_enter Try.func81, Try.ntmps81
    go_wp2
    go_ret
    exact ⟨by simp [h0], rfl⟩
  · have h1 : t < 0 := by omega
    go_enter Try.func81, Try.ntmps81
    go_wp2
    go_ret
    exact ⟨by simp [h0] <;> omega, rfl⟩
set_option maxRecDepth 100000 in
theorem none_s (h : WhAt W b p m n now kv R) : Calls Try.prog 82 #[.pointer (some ⟨p, 0, none⟩)] W fun e w' => e = .returned (.bool false) ∧ W = w' := by
  have c0 := h.c.1
  clear h
  go_enter Try.func82, Try.ntmps82
  go_wp2_with fail
  go_ret
  exact ⟨rfl, rfl⟩
set_option maxRecDepth 100000 in
theorem at_s (h : WhAt W b p m n now kv R) {k : Int} (hwf : (Lit.int .i64 k).wf = true) :
    Calls Try.prog 35 #[.pointer (some ⟨p, 0, none⟩), .int .i64 k] W fun e w' => e = .returned (.tuple #[(getL kv k).getD (.int .i64 0), .bool (getL kv k).isSome]) ∧ W = w' := by
  have c0 := h.c.2.2
  have hl := look_ok h.mp hwf
  have CN := Aside0.mk (none_s h)
  clear h hwf
  generalize (getL kv k).getD (.int .i64 0) = r at *
  generalize (getL kv k).isSome = s at *
  go_enter Try.func35, Try.ntmps35
  go_wp2_with (go_at_call 82; (with_reducible refine CN.out.mono ?_); rintro e w' ⟨rfl, rfl⟩)
  go_ret2
  exact ⟨rfl, rfl⟩
set_option maxRecDepth 100000 in
theorem len_s (h : WhAt W b p m n now kv R) : Calls Try.prog 34 #[.pointer (some ⟨p, 0, none⟩)] W fun e w' => e = .returned (.int .i64 kv.length) ∧ W = w' := by
  have c0 := h.c.2.2
  have hlen : ∀ ty, (Builtin.len_ #[72] ty #[.map (some m)]).run Try.prog W = .ok (.int .i64 kv.length) W := fun ty => Rm.len h.mp Try.underlying72 ty
  have CN := Aside0.mk (none_s h)
  clear h
  go_enter Try.func34, Try.ntmps34
  go_wp2_with (go_at_call 82; (with_reducible refine CN.out.mono ?_); rintro e w' ⟨rfl, rfl⟩)
  go_ret
  exact ⟨rfl, rfl⟩
end Go.Proofs.Ytakmcbakogjeeaa.Wh
