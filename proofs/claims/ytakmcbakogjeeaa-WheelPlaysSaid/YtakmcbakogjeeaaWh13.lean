/- Wheels (layer 25): a row taken out onto another; no condition. -/
import Derived.Test.YtakmcbakogjeeaaWh12
import Derived.Laws.OwnMore
set_option linter.unusedVariables false
set_option linter.unusedSimpArgs false
namespace Go.Proofs.Ytakmcbakogjeeaa.Wh
open Go Go.RowKit Go.Maps Go.Proofs.Ytakmcbakogjeeaa.Rm Go.Proofs.Ytakmcbakogjeeaa.Rw
open Go.Proofs.YtakmcbakogjeeaaW.PrintWords Go.Proofs.YtakmcbakogjeeaaW.PrintLast Go.Proofs.YtakmcbakogjeeaaW.PrintMore
variable {W W' W2 : World} {b p m n : Nat} {now : Int} {kv : KV} {R : List Row} {L acc : List Tm} {x x' : Row} {F F' F2 : Nat → Prop} {lv : Value} {lb : Nat}
theorem one_tcells (l : List Tm) : ∀ u ∈ tcells l, u.oneCell' = true := by
  intro u hu
  unfold tcells at hu
  obtain ⟨t, _, ht⟩ := List.mem_flatMap.1 hu
  simp only [List.mem_cons, List.not_mem_nil, or_false] at ht
  rcases ht with rfl | rfl <;> rfl
theorem RowAt.read {g c : Nat} {L : List Tm} (h : RowAt W b (.slice (some ⟨g, 0, none⟩) L.length c, L)) : ∀ j u, (tcells L)[j]? = some u → W.cell? ((⟨g, 0, none⟩ : Addr).add j) = some u := by
  intro j u hu
  have hlen := tcells_len L
  have hjl := (List.getElem?_eq_some_iff.1 hu).1
  rcases h.2 with ⟨h0, h1⟩ | ⟨g', cap', cur, h1, _, hb, _, _, _, ht⟩
  · injection h0 with h0 _ _
    cases h0
  · injection h1 with h1 h2 h3
    injection h1 with h1
    injection h1 with h1
    subst h1
    rw [add_at, cell_of_row W g _ _ _ _ hb, ← hu, ← ht, Nat.zero_add]
    rw [List.getElem?_take, if_pos (by simp only []; omega)]
    simp
/-- A row appended to a row. -/
theorem run_app (h : RowAt W b (lv, acc)) (hx : RowAt W b x) (hbw : b ≤ W.heap.size) (hl : acc.length + x.2.length ≤ 1099511627776) : ∃ G c w1,
    (∀ ty, (Builtin.append_ #[69, 69] ty #[lv, x.1]).run Try.prog W = .ok (.slice G (acc.length + x.2.length) c) w1) ∧
    RowAt w1 b (.slice G (acc.length + x.2.length) c, acc ++ x.2) ∧ W.grownBy w1 lv.ownBlock ∧ ((Value.slice G (acc.length + x.2.length) c).ownBlock = lv.ownBlock ∨ (Value.slice G (acc.length + x.2.length) c).ownBlock = some W.heap.size) := by
  obtain ⟨i0, hi, hz0, hz1, hz2⟩ := info_parts infoT
  rcases hx.shape with ⟨h1, h2⟩ | ⟨g, c, h1⟩
  · obtain ⟨v, L⟩ := x
    simp only at h1 h2
    subst h1; subst h2
    obtain ⟨G, c, hv⟩ := RowAt.val h
    simp only at hv
    subst hv
    refine ⟨G, c, W, fun ty => ?_, ?_, ⟨rfl, rfl, rfl, Nat.le_refl _, fun _ _ _ => rfl⟩, .inl rfl⟩
    · exact run_append_owned_none W b 69 ty 160 i0 2 Try.underlying69 hi _ acc.length (tcells acc) h
    · simp only [List.append_nil, List.length_nil, Nat.add_zero]
      exact h
  · obtain ⟨v, L⟩ := x
    simp only at h1
    subst h1
    obtain ⟨v1, w1, hr, g1, g2, g3, g4⟩ := run_append_own_at (P := Try.prog) (w := W) b 69 69 160 i0 _ 2 16 Try.underlying69 hi hz0 hz1 hz2 rfl (by decide) lv acc.length (tcells acc) h ⟨g, 0, none⟩ L.length c (tcells L) (tcells_len L) (RowAt.read hx) (one_tcells L) (by unfold maxLen; simp only [] at hl ⊢; omega) (by simp only [] at hl ⊢; omega) hbw
    have hrow : RowAt w1 b (v1, acc ++ L) := by
      show w1.ownsRow b 160 2 v1 (acc ++ L).length (tcells (acc ++ L))
      rw [List.length_append, tcells_app]
      exact g1
    obtain ⟨G, c', hv⟩ := RowAt.val hrow
    simp only [List.length_append] at hv
    subst hv
    exact ⟨G, c', w1, fun ty => hr, hrow, g2, g4⟩
/-- Taking under way: a wheel, a row apart from it, its head in a block of its own. -/
structure DueAt (W : World) (b p m n : Nat) (now : Int) (kv : KV) (R : List Row) (lb : Nat) (lv : Value) (acc : List Tm) : Prop where
  wh : WhAt W b p m n now kv R
  row : RowAt W b (lv, acc)
  ap : ∀ k, lv.ownBlock = some k → ¬ foot p m R k
  box : W.heap[lb]? = some (.cells #[lv] 69 (0, 0))
  hlb : b ≤ lb
def dfoot (p m : Nat) (R : List Row) (lb : Nat) (lv : Value) (k : Nat) : Prop := foot p m R k ∨ k = lb ∨ lv.ownBlock = some k
theorem DueAt.below (h : DueAt W b p m n now kv R lb lv acc) (hb : Below W.heap.size W W') : DueAt W' b p m n now kv R lb lv acc :=
  ⟨h.wh.below hb, h.row.move (fun k hk => by
    obtain ⟨_, cs, hc⟩ := h.row.block hk
    exact hb.block k (Array.getElem?_eq_some_iff.1 hc).1), h.ap, (hb.block lb (Array.getElem?_eq_some_iff.1 h.box).1).trans h.box, h.hlb⟩
theorem DueAt.step (h : DueAt W b p m n now kv R lb lv acc) (hbw : b ≤ W.heap.size) {j : Nat} (hj : R[j]? = some x) {w1 : World} {v1 : Value} (hr : RowAt w1 b (v1, acc ++ x.2)) (hg : W.grownBy w1 lv.ownBlock) (ho : v1.ownBlock = lv.ownBlock ∨ v1.ownBlock = some W.heap.size) :
    w1.heap[lb]? = W.heap[lb]? ∧ w1.heap[p]? = W.heap[p]? ∧ DueAt ((w1.setCell ⟨lb, 0, none⟩ v1).setCell ⟨p, 2 + j, none⟩ (.slice none 0 0)) b p m n now kv (R.set j (.slice none 0 0, [])) lb v1 (acc ++ x.2) ∧
    Lf W ((w1.setCell ⟨lb, 0, none⟩ v1).setCell ⟨p, 2 + j, none⟩ (.slice none 0 0)) b (dfoot p m R lb lv) (dfoot p m (R.set j (.slice none 0 0, [])) lb v1) := by
  have hlt : lb < W.heap.size := (Array.getElem?_eq_some_iff.1 h.box).1
  have hnl : ∀ k, lv.ownBlock = some k → k ≠ lb := fun k hk e => by
    obtain ⟨_, cs, hc⟩ := h.row.block hk
    rw [e, h.box] at hc
    injection hc with hc
    injection hc with _ hc
    exact absurd hc (by decide)
  have hfl : ¬ foot p m R lb := h.wh.not_foot h.box (by decide) (by decide)
  have e1 : w1.heap[lb]? = W.heap[lb]? := hg.block lb hlt (fun e => hnl lb e.symm rfl)
  have hpl := (h.wh.foot_ty (.inl rfl)).1
  have e2 : w1.heap[p]? = W.heap[p]? := hg.block p hpl (fun e => h.ap p e.symm (.inl rfl))
  have hs1 : ∀ k, k ≠ lb → (w1.setCell ⟨lb, 0, none⟩ v1).heap[k]? = w1.heap[k]? := fun k hk => Below.heap_setCell w1 ⟨lb, 0, none⟩ v1 k hk
  have hf : ∀ k, foot p m R k → (w1.setCell ⟨lb, 0, none⟩ v1).heap[k]? = W.heap[k]? := fun k hk => (hs1 k (fun e => hfl (e ▸ hk))).trans (hg.block k (h.wh.foot_ty hk).1 (fun e => h.ap k e.symm hk))
  have hw1 := h.wh.move hf
  have hsz : W.heap.size ≤ (w1.setCell ⟨lb, 0, none⟩ v1).heap.size := by simpa using hg.size
  obtain ⟨_, s2, s3⟩ := hw1.setRow (Nat.le_trans hbw hsz) hj (w1 := w1.setCell ⟨lb, 0, none⟩ v1) (v1 := .slice none 0 0) (l1 := []) ⟨rfl, rfl, rfl, Nat.le_refl _, fun _ _ _ => rfl⟩ (World.ownsRow_nil _ _ _ _) (.inr (.inl rfl))
  have hnew : ∀ k, foot p m (R.set j (.slice none 0 0, [])) k → foot p m R k := fun k hk => by
    rcases hk with e | e | ⟨y, hy, hk⟩
    · exact .inl e
    · exact .inr (.inl e)
    · rcases List.mem_or_eq_of_mem_set hy with hy | rfl
      · exact .inr (.inr ⟨y, hy, hk⟩)
      · cases hk
  have hvb : ∀ k, v1.ownBlock = some k → ¬ foot p m R k ∧ k ≠ lb := fun k hk => by
    rcases ho with e | e
    · exact ⟨h.ap k (e ▸ hk), hnl k (e ▸ hk)⟩
    · rw [e] at hk
      injection hk with hk
      exact ⟨fun hf => by have := (h.wh.foot_ty hf).1; omega, by omega⟩
  have hs2 : ∀ k, k ≠ p → ((w1.setCell ⟨lb, 0, none⟩ v1).setCell ⟨p, 2 + j, none⟩ (.slice none 0 0)).heap[k]? = (w1.setCell ⟨lb, 0, none⟩ v1).heap[k]? := fun k hk => Below.heap_setCell _ ⟨p, 2 + j, none⟩ _ k hk
  have hlp : lb ≠ p := fun e => hfl (.inl e)
  refine ⟨e1, e2, ⟨s2, hr.move (fun k hk => (hs2 k (fun e => (hvb k hk).1 (.inl e))).trans (hs1 k (hvb k hk).2)), fun k hk hf => (hvb k hk).1 (hnew k hf), ?_, h.hlb⟩, ⟨?_, fun k hk hn => ?_, fun k hk => ?_⟩⟩
  · exact (hs2 lb hlp).trans (blk_set (e1.trans h.box) 0 v1)
  · have hb2 : Below b W w1 := ⟨hg.os, hg.tape, hg.output, hg.size, fun k hk => hg.block k (by omega) (fun e => by have := (h.row.block e.symm).1; omega)⟩
    exact (hb2.setCell (p := ⟨lb, 0, none⟩) h.hlb v1).setCell (p := ⟨p, 2 + j, none⟩) h.wh.hp _
  · exact (hs2 k (fun e => hn (.inl (.inl e)))).trans ((hs1 k (fun e => hn (.inr (.inl e)))).trans (hg.block k hk (fun e => hn (.inr (.inr e.symm)))))
  · rcases hk with hk | hk | hk
    · exact .inl (.inl (hnew k hk))
    · exact .inl (.inr (.inl hk))
    · rcases ho with e | e
      · exact .inl (.inr (.inr (e ▸ hk)))
      · rw [e] at hk
        injection hk with hk
        exact .inr (by omega)
set_option maxRecDepth 100000 in
set_option maxHeartbeats 1600000 in
theorem take_s (h : DueAt W b p m n now kv R lb lv acc) (hbw : b ≤ W.heap.size) {j : Nat} (hj : R[j]? = some x) (hl : acc.length + x.2.length ≤ 1099511627776) :
    Calls Try.prog 118 #[.pointer (some ⟨p, 2 + j, none⟩), .pointer (some ⟨lb, 0, none⟩)] W fun e w' => e = .returned (.tuple #[]) ∧ ∃ v1, DueAt w' b p m n now kv (R.set j (.slice none 0 0, [])) lb v1 (acc ++ x.2) ∧ Lf W w' b (dfoot p m R lb lv) (dfoot p m (R.set j (.slice none 0 0, [])) lb v1) := by
  have hd := h.below (Below.refl _ W).drew
  obtain ⟨G, c, w1, hap, r1, r2, r3⟩ := run_app hd.row (hd.wh.row x (List.mem_of_getElem? hj)) hbw hl
  obtain ⟨e1, e2, D1, D2⟩ := hd.step hbw hj r1 r2 r3
  obtain ⟨Gl, cl, hlv⟩ := h.row.val
  obtain ⟨Gx, cx, hxv⟩ := (h.wh.row x (List.mem_of_getElem? hj)).val
  simp only at hlv
  have l0 : W.cell? ⟨lb, 0, none⟩ = some lv := by rw [cell_of_row _ _ _ _ _ _ h.box]; rfl
  have s0 := h.wh.cr hj
  have l1 : w1.cell? ⟨lb, 0, none⟩ = some lv := (World.cell?_of_block (a := ⟨lb, 0, none⟩) e1).trans l0
  have s1 : w1.cell? ⟨p, 2 + j, none⟩ = some x.1 := (World.cell?_of_block (a := ⟨p, 2 + j, none⟩) e2).trans s0
  have f1 : w1.frozen? ⟨lb, 0, none⟩ = false := blk_frozen (e1.trans h.box) _
  have f2 : w1.frozen? ⟨p, 2 + j, none⟩ = false := blk_frozen (e2.trans h.wh.blk) _
  have hne : lb ≠ p := fun e => h.wh.not_foot h.box (by decide) (by decide) (.inl e)
  have HD := Aside0.mk (And.intro D1 ((Lf.of_below (Below.refl _ W).drew hbw (dfoot p m R lb lv)).trans D2))
  rw [hlv] at hap l0 l1
  rw [hxv] at hap s0 s1
  skip
  clear h hd hj hl r1 r2 r3 e1 e2 D1 D2 hlv hxv
  go_enter Try.func118, Try.ntmps118
  go_wp2
  go_region_law (first | (refine wp_app rfl rfl rfl hap ?_))
  all_goals go_wp2_with fail
  all_goals go_end0
  all_goals exact ⟨rfl, _, HD.out⟩
end Go.Proofs.Ytakmcbakogjeeaa.Wh
