/- Wheels (layer 25): due; no condition. -/
import Derived.Test.YtakmcbakogjeeaaWh13
import Derived.WalkMore
set_option linter.unusedVariables false
set_option linter.unusedSimpArgs false
namespace Go.Proofs.Ytakmcbakogjeeaa.Wh
open Go Go.RowKit Go.Maps Go.Proofs.Ytakmcbakogjeeaa.Rm Go.Proofs.Ytakmcbakogjeeaa.Rw
open Go.Proofs.YtakmcbakogjeeaaW.PrintWords Go.Proofs.YtakmcbakogjeeaaW.PrintLast Go.Proofs.YtakmcbakogjeeaaW.PrintMore
variable {W W' W2 : World} {b p m n : Nat} {now : Int} {kv : KV} {R : List Row} {L acc : List Tm} {x x' : Row} {F F' F2 : Nat → Prop} {lv : Value} {lb : Nat}
/-- Taking under way, as a whole. -/
def DueRel (W0 : World) (b p m n : Nat) (now was : Int) (kv : KV) (R : List Row) (lb r : Nat) (W : World) : Prop :=
  ∃ (R' : List Row) (lv : Value) (acc : List Tm), DueAt W b p m n now kv R' lb lv acc ∧ Lf W0 W b (foot p m R) (dfoot p m R' lb lv) ∧ Sw (R.map (·.2)) was now r (R'.map (·.2)) acc
theorem due_start (h : WhAt W b p m n now kv R) (hbw : b ≤ W.heap.size) (was : Int) (hj : R[576]? = some x) :
    DueRel W b p m n now was kv R W.heap.size 0 ((W.alloc (.cells #[x.1] 69)).setCell ⟨p, 578, none⟩ (.slice none 0 0)) := by
  have hb := below_alloc (Below.refl _ W) (.cells #[x.1] 69 (0, 0))
  have hw := h.below hb
  have hx := h.row x (List.mem_of_getElem? hj)
  have hlt : ∀ k, x.1.ownBlock = some k → k < W.heap.size := fun k hk => by
    obtain ⟨_, cs, hc⟩ := RowAt.block hx hk
    exact (Array.getElem?_eq_some_iff.1 hc).1
  have hnp : ∀ k, x.1.ownBlock = some k → k ≠ p := fun k hk => (h.p_ne (List.mem_of_getElem? hj) hk).1
  obtain ⟨e1, s2, s3⟩ := hw.setRow (by have := hb.size; omega) hj (w1 := W.alloc (.cells #[x.1] 69)) (v1 := .slice none 0 0) (l1 := []) ⟨rfl, rfl, rfl, Nat.le_refl _, fun _ _ _ => rfl⟩ (World.ownsRow_nil _ _ _ _) (.inr (.inl rfl))
  have hpl := (h.foot_ty (.inl rfl)).1
  have hs2 : ∀ k, k ≠ p → ((W.alloc (.cells #[x.1] 69)).setCell ⟨p, 578, none⟩ (.slice none 0 0)).heap[k]? = (W.alloc (.cells #[x.1] 69)).heap[k]? := fun k hk => Below.heap_setCell _ ⟨p, 578, none⟩ _ k hk
  refine ⟨R.set 576 (.slice none 0 0, []), x.1, x.2, ⟨s2, ?_, fun k hk hf => ?_, ?_, hbw⟩, ⟨?_, fun k hk hn => ?_, fun k hk => ?_⟩, ?_⟩
  · exact hx.move (fun k hk => (hs2 k (hnp k hk)).trans (hb.block k (hlt k hk)))
  · rcases hf with e | e | ⟨y, hy, hk2⟩
    · exact hnp k hk e
    · exact (h.p_ne (List.mem_of_getElem? hj) hk).2 e
    · obtain ⟨i, hi, e⟩ := List.mem_iff_getElem.1 hy
      by_cases h6 : i = 576
      · subst h6
        rw [List.getElem_set_self] at e
        rw [← e] at hk2
        cases hk2
      · rw [List.getElem_set_ne (fun e => h6 e.symm)] at e
        have hi2 : i < R.length := by rw [List.length_set] at hi; exact hi
        exact h.apart (i := i) (j := 576) (y := y) (by rw [List.getElem?_eq_getElem hi2, e]) hj h6 k hk hk2
  · exact (hs2 W.heap.size (by omega)).trans (heap_alloc_new W _)
  · exact (hb.mono hbw).setCell (p := ⟨p, 578, none⟩) h.hp _
  · exact (hs2 k (fun e => hn (.inl e))).trans (hb.block k hk)
  · rcases hk with hk | hk | hk
    · rcases s3.new k hk with h1 | h1
      · exact .inl h1
      · have := hb.size; exact .inr (by omega)
    · exact .inr (by omega)
    · exact .inl (.inr (.inr ⟨x, List.mem_of_getElem? hj, hk⟩))
  · rw [map_set]
    have := Sw.start (S := R.map (·.2)) (by rw [List.length_map, h.len]) was now
    rwa [getD_map hj] at this
theorem DueRel.size {W0 : World} {was : Int} {r : Nat} (h : DueRel W0 b p m n now was kv R lb r W) : W0.heap.size ≤ W.heap.size := by
  obtain ⟨_, _, _, _, h2, _⟩ := h
  exact h2.bel.size
theorem DueRel.below {W0 : World} {was : Int} {r : Nat} (h : DueRel W0 b p m n now was kv R lb r W) (hbw : b ≤ W0.heap.size) (hb : Below W.heap.size W W') : DueRel W0 b p m n now was kv R lb r W' := by
  have hs := h.size
  obtain ⟨R', lv, acc, h1, h2, h3⟩ := h
  exact ⟨R', lv, acc, h1.below hb, h2.trans (Lf.of_below hb (Nat.le_trans hbw hs) _), h3⟩
/-- Within a rim: so far. -/
def DueIn (W0 : World) (b p m n : Nat) (now was : Int) (kv : KV) (R : List Row) (lb r : Nat) (C k : Int) (W : World) : Prop :=
  ∃ (R' : List Row) (lv : Value) (acc : List Tm), DueAt W b p m n now kv R' lb lv acc ∧ Lf W0 W b (foot p m R) (dfoot p m R' lb lv) ∧ Sw (R.map (·.2)) was now r (R'.map (·.2)) acc ∧ ∀ k' : Int, C ≤ k' → k' < k → (R'.map (·.2)).getD (64 * r + (k' % 64).toNat) [] = []
theorem DueIn.take {W0 : World} {was : Int} {r : Nat} {C k : Int} (h : DueIn W0 b p m n now was kv R lb r C k W) (hbw : b ≤ W0.heap.size) (hl : ((R.map (·.2)).flatten).length ≤ 1099511627776) (hr : r < 9) {s : Nat} (hs : s < 64) (hk : (s : Int) = k % 64) :
    Calls Try.prog 118 #[.pointer (some ⟨p, 2 + r * 64 + s, none⟩), .pointer (some ⟨lb, 0, none⟩)] W fun e w' => e = .returned (.tuple #[]) ∧ DueIn W0 b p m n now was kv R lb r C (k + 1) w' := by
  obtain ⟨R', lv, acc, h1, h2, h3, h4⟩ := h
  have hj : 64 * r + s < 577 := by omega
  obtain ⟨x, hx, _⟩ := h1.wh.get hj
  have hbw' : b ≤ W.heap.size := Nat.le_trans hbw h2.bel.size
  have hlen : acc.length + x.2.length ≤ 1099511627776 := by
    have e := (h3.take hj).prm.length_eq
    rw [getD_map hx, List.length_append, List.length_append] at e
    omega
  have := take_s h1 hbw' hx hlen
  rw [show 2 + (64 * r + s) = 2 + r * 64 + s by omega] at this
  refine this.mono ?_
  rintro e w' ⟨rfl, v1, g1, g2⟩
  refine ⟨rfl, _, v1, acc ++ x.2, g1, h2.trans g2, ?_, fun k' c1 c2 => ?_⟩
  · rw [map_set, ← getD_map hx]
    exact h3.take hj
  · rw [map_set]
    by_cases hkk : k' = k
    · subst hkk
      rw [getD_set, if_pos ⟨by omega, by rw [h3.len]; omega⟩]
    · exact set_nil (h4 k' c1 (by omega))
theorem DueIn.fin {W0 : World} {was : Int} {r : Nat} {C B : Int} (h : DueIn W0 b p m n now was kv R lb r C (B + 1) W) (hB : now / 64 ^ r = B) (hC : C = was / 64 ^ r ∨ C = B - 64) : DueRel W0 b p m n now was kv R lb (r + 1) W := by
  obtain ⟨R', lv, acc, h1, h2, h3, h4⟩ := h
  refine ⟨R', lv, acc, h1, h2, h3.next (fun k c1 c2 => ?_)⟩
  rw [hB] at c2
  rcases hC with rfl | rfl
  · exact h4 k c1 (by omega)
  · exact cover (A := was / 64 ^ r) (B := B) (fun k' d1 d2 => h4 k' d1 (by omega)) k c1 c2
/-- What due leaves. -/
def DueEnd (W : World) (b p m n : Nat) (now was : Int) (kv : KV) (R : List Row) (lv : Value) (w' : World) : Prop := ∃ R' acc, WhAt w' b p m n now kv R' ∧ RowAt w' b (lv, acc) ∧ (∀ k, lv.ownBlock = some k → ¬ foot p m R' k) ∧ Lf W w' b (foot p m R) (fun k => foot p m R' k ∨ lv.ownBlock = some k) ∧ Sw (R.map (·.2)) was now 9 (R'.map (·.2)) acc
theorem DueRel.fin {W0 : World} {was : Int} {lb : Nat} {R1 : List Row} {acc1 : List Tm} (hlb : W0.heap.size = lb) (d1 : DueAt W b p m n now kv R1 lb lv acc1) (d2 : Lf W0 W b (foot p m R) (dfoot p m R1 lb lv)) (d3 : Sw (R.map (·.2)) was now 9 (R1.map (·.2)) acc1) : DueEnd W0 b p m n now was kv R lv W :=
  ⟨R1, acc1, d1.wh, d1.row, d1.ap, ⟨d2.bel, d2.keep, fun k hk => d2.new k (by
    rcases hk with h | h
    · exact .inl h
    · exact .inr (.inr h))⟩, d3⟩
set_option maxRecDepth 100000 in
set_option maxHeartbeats 3200000 in
theorem due_s (h : WhAt W b p m n now kv R) (hbw : b ≤ W.heap.size) {was : Int} (hw0 : 0 ≤ was) (hw1 : was ≤ now) (hn1 : now ≤ 1125899906842624) (hl : ((R.map (·.2)).flatten).length ≤ 1099511627776) :
    Calls Try.prog 87 #[.pointer (some ⟨p, 0, none⟩), .int .i64 was] W fun e w' => ∃ lv, e = .returned lv ∧ DueEnd W b p m n now was kv R lv w' := by
  obtain ⟨x6, hx6, hr6⟩ := h.get (j := 576) (by decide)
  have c578 := h.cr hx6
  simp only [show 2 + 576 = 578 from rfl] at c578
  have HS := Aside0.mk (due_start h hbw was hx6)
  have hf := h.free 578
  obtain ⟨G0, c0, hv0⟩ := hr6.val
  rw [hv0] at c578 HS
  obtain ⟨lb, hlb⟩ : ∃ lb, W.heap.size = lb := ⟨_, rfl⟩
  rw [hlb] at HS
  have hA := below_alloc (Below.refl _ W) (.cells #[.slice G0 x6.2.length c0] 69 (0, 0))
  have a578 : (W.alloc (.cells #[.slice G0 x6.2.length c0] 69 (0, 0))).cell? ⟨p, 578, none⟩ = some (.slice G0 x6.2.length c0) := (World.cell?_of_block (a := ⟨p, 578, none⟩) (hA.block p (h.foot_ty (.inl rfl)).1)).trans c578
  have af578 : (W.alloc (.cells #[.slice G0 x6.2.length c0] 69 (0, 0))).frozen? ⟨p, 578, none⟩ = false := blk_frozen ((hA.block p (h.foot_ty (.inl rfl)).1).trans h.blk) _
  have hplt : p ≠ lb := by have := (h.foot_ty (.inl rfl)).1; omega
  go_enter Try.func87, Try.ntmps87
  clear h hx6 hr6 hA
  go_wp2
  go_loopw [19] (fun iv w2 => ∃ r : Nat, iv = .int .i64 r ∧ r ≤ 9 ∧ DueRel W b p m n now was kv R lb r w2) (fun iv _ => 9 - (intOf iv).toNat)
  case atStart => exact ⟨0, rfl, by omega, HS.out⟩
  case round =>
    clear HS a578 af578 c578 hf
    obtain ⟨r, rfl, hr, hd⟩ := hrel
    obtain ⟨R1, lv1, acc1, d1, d2, d3⟩ := hd
    have c1 := d1.wh.c.2.1
    obtain ⟨Gl, cl, hlv⟩ := d1.row.val
    simp only at hlv
    subst hlv
    have l0 : wr.cell? ⟨lb, 0, none⟩ = some (.slice Gl acc1.length cl) := by rw [cell_of_row _ _ _ _ _ _ d1.box]; rfl
    have HD := Aside0.mk (show DueRel W b p m n now was kv R lb r wr from ⟨R1, _, acc1, d1, d2, d3⟩)
    by_cases hlt : r < 9
    · have e1 : IntKind.i64.wrap (6 * (r : Int)) = 6 * r := by rw [IntKind.wrap_i64]; omega
      have hr1 : (r : Int) < 9 := by omega
      have hr2 : ¬ (r : Int) < 0 := by omega
      obtain ⟨A, hA⟩ : ∃ A, was / 2 ^ (6 * (r : Int)).toNat = A := ⟨_, rfl⟩
      obtain ⟨B, hB⟩ : ∃ B, now / 2 ^ (6 * (r : Int)).toNat = B := ⟨_, rfl⟩
      have hAB : 0 ≤ A ∧ A ≤ B ∧ B ≤ 1125899906842624 := by
        rw [← hA, ← hB, pow64]
        have hp := pow_pos r
        exact ⟨Int.ediv_nonneg hw0 (by omega), Int.ediv_le_ediv (by omega) hw1, Int.le_trans (Int.ediv_le_self _ (by omega)) hn1⟩
      have HAB := Aside0.mk (show was / 64 ^ r = A ∧ now / 64 ^ r = B by rw [← pow64]; exact ⟨hA, hB⟩)
      obtain ⟨ha0, hab, hb1⟩ := hAB
      have e3 : IntKind.i64.wrap (B - A) = B - A := by rw [IntKind.wrap_i64]; omega
      have hways : (decide (64 ≤ B - A) = false ∧ ∃ C, A = C) ∨ (decide (64 ≤ B - A) = true ∧ ∃ C, IntKind.i64.wrap (B - 64) = C ∧ C = B - 64 ∧ 0 ≤ C) := by
        by_cases h : 64 ≤ B - A
        · exact .inr ⟨by simp [h], B - 64, by rw [IntKind.wrap_i64]; omega, rfl, by omega⟩
        · exact .inl ⟨by simp [h], A, rfl⟩
      clear l0 d1 d2 d3
      have hways : (decide (64 ≤ B - A) = false ∧ ∃ C, C = A ∧ 0 ≤ C ∧ C ≤ B ∧ Aside0 (C = was / 64 ^ r ∨ C = B - 64)) ∨ (decide (64 ≤ B - A) = true ∧ ∃ C, IntKind.i64.wrap (B - 64) = C ∧ 0 ≤ C ∧ C ≤ B ∧ Aside0 (C = was / 64 ^ r ∨ C = B - 64)) := by
        rcases hways with ⟨hd, C, rfl⟩ | ⟨hd, C, e4, hC, hC0⟩
        · exact .inl ⟨hd, A, rfl, ha0, hab, ⟨.inl HAB.out.1.symm⟩⟩
        · exact .inr ⟨hd, C, e4, hC0, by omega, ⟨.inr hC⟩⟩
      rcases hways with ⟨hd, C, rfl, hC0, hCB, HC⟩ | ⟨hd, C, e4, hC0, hCB, HC⟩
      all_goals
        go_wp2
        go_step3
        go_wp2
        go_quiet (fail)
        go_wp2
        go_step3
        go_wp2
        have HD2 := Aside0.mk (HD.out.below hbw (Ib.bl_drewN nq))
        go_loopw [10] (fun kv_ w2 => ∃ k : Int, kv_ = .int .i64 k ∧ C ≤ k ∧ k ≤ B ∧ DueIn W b p m n now was kv R lb r C k w2) (fun kv_ _ => (B - intOf kv_).toNat)
        case atStart =>
          obtain ⟨R2, lv2, acc2, z1, z2, z3⟩ := HD2.out
          exact ⟨C, rfl, Int.le_refl _, hCB, R2, lv2, acc2, z1, z2, z3, fun k' y1 y2 => by omega⟩
        case round =>
          clear HD HD2
          obtain ⟨k, rfl, hk0, hk1, hin⟩ := hrel
          obtain ⟨s, hs, hs64, hsk⟩ : ∃ s : Nat, bits .and .i64 k 63 = s ∧ s < 64 ∧ (s : Int) = k % 64 := by
            rw [and63 k (by omega) (by omega)]
            exact ⟨(k % 64).toNat, by omega, by omega, by omega⟩
          have HT := Aside0.mk (hin.take hbw hl hlt hs64 hsk)
          have hs1 : (s : Int) < 64 := by omega
          have hs2 : ¬ (s : Int) < 0 := by omega
          have e5 : IntKind.i64.wrap (k + 1) = k + 1 := by rw [IntKind.wrap_i64]; omega
          clear hin hsk
          by_cases hend : B ≤ k
          · obtain rfl : k = B := by omega
            go_wp2_with (go_at_call 118; (with_reducible refine HT.out.mono ?_); rintro e w3 ⟨rfl, hin⟩; have HI := Aside0.mk hin; clear hin)
            rw [Exit.noGoto_normal]
            go_wp2
            exact ⟨⟨r + 1, by simp, by omega, HI.out.fin HAB.out.2 HC.out⟩, by simp [intOf]; omega⟩
          · go_wp2_with (go_at_call 118; (with_reducible refine HT.out.mono ?_); rintro e w3 ⟨rfl, hin⟩; have HI := Aside0.mk hin; clear hin)
            exact ⟨⟨k + 1, rfl, by omega, by omega, HI.out⟩, by simp [intOf]; omega⟩
    · obtain rfl : r = 9 := by omega
      have HF := Aside0.mk (And.intro d1 (And.intro d2 d3))
      clear d1 d2 d3
      go_wp2
      go_ret
      exact ⟨_, rfl, DueRel.fin hlb HF.out.1 HF.out.2.1 HF.out.2.2⟩
end Go.Proofs.Ytakmcbakogjeeaa.Wh
