/- Sets of spans: Add; no condition. -/
import Derived.Test.YtmkojmjjlcfohaaRgClone
import Derived.WalkMore
set_option linter.unusedVariables false
set_option linter.unusedSimpArgs false
namespace Go.Proofs.Ytmkojmjjlcfohaa.Rg
open Go.RowKit Go.Proofs.YtmkojmjjlcfohaaW.PrintWords Go.Proofs.YtmkojmjjlcfohaaW.PrintLast Go.Proofs.YtmkojmjjlcfohaaW.PrintMore Go.Proofs.Ytmkojmjjlcfohaa.Rw
/-- What a change leaves as it was. -/
structure Lft (w w' : World) (base g : Nat) (v v' : Value) : Prop where
  below : Below base w w'
  kept : ∀ k, k < w.heap.size → k ≠ g → v.ownBlock ≠ some k → w'.heap[k]? = w.heap[k]?
  at_ : v'.ownBlock = v.ownBlock ∨ ∃ b, v'.ownBlock = some b ∧ w.heap.size ≤ b
theorem Lft.of_below {w w' : World} {base g : Nat} {v : Value} (h : Below w.heap.size w w') (hb : base ≤ w.heap.size) : Lft w w' base g v v :=
  ⟨h.mono hb, fun k hk _ _ => h.block k hk, .inl rfl⟩
/-- A new row behind the set's field. -/
theorem set_row {w W W2 : World} {base g : Nat} {v v' : Value} {L L' : List Sp} (h : SetAt w base g v L) (hW : Below w.heap.size w W) (hr : Rp W W2 base 39 2 v v' L'.length (cells L')) (ho : Ok L') (hf : L'.length ≤ 65536) (hb : base ≤ w.heap.size) :
    SetAt (W2.setCell ⟨g, 1, none⟩ v') base g v' L' ∧ Lft w (W2.setCell ⟨g, 1, none⟩ v') base g v v' := by
  have hbg : W.heap[g]? = some (.cells #[.bool true, v] 60 (0, 0)) := (hW.block g h.lt).trans h.blk
  have hne : some g ≠ v.ownBlock := fun he => h.row_ne g he.symm rfl
  have hlt : g < W.heap.size := Nat.lt_of_lt_of_le h.lt hW.size
  have hb2 : W2.heap[g]? = some (.cells #[.bool true, v] 60 (0, 0)) := (hr.grown.block g hlt hne).trans hbg
  have hne2 : ∀ k, v'.ownBlock = some k → k ≠ g := fun k hk => by
    obtain ⟨_, cs, hc⟩ := own_typed hr.own k hk
    rintro rfl
    rw [hb2] at hc
    injection hc with hc
    injection hc with _ hc
    exact absurd hc (by decide)
  have hfar : ∀ k, k ≠ g → (W2.setCell ⟨g, 1, none⟩ v').heap[k]? = W2.heap[k]? := fun k hk => Below.heap_setCell W2 _ _ k hk
  have hss : (W2.setCell ⟨g, 1, none⟩ v').heap.size = W2.heap.size := by simp [World.setCell]
  refine ⟨⟨h.hg, blk_set hb2 1 _, ⟨hr.own.1, ?_⟩, ho, hf⟩, ⟨?_, fun k hk hkg hkv => ?_, ?_⟩⟩
  · rcases hr.own.2 with h0 | ⟨g', c, cur, rfl, hb', hgg, r⟩
    · exact .inl h0
    · exact .inr ⟨g', c, cur, rfl, hb', (hfar g' (hne2 g' rfl)).trans hgg, r⟩
  · have hbw2 : Below base w W2 := ⟨hr.grown.os.trans hW.os, hr.grown.tape.trans hW.tape, hr.grown.output.trans hW.output, Nat.le_trans hW.size hr.grown.size, fun k hk => (hr.grown.block k (by have := hW.size; omega) (fun he => by
      have := (own_typed h.row k he.symm).1
      omega)).trans (hW.block k (by omega))⟩
    exact hbw2.setCell h.hg _
  · rw [hfar k hkg, hr.grown.block k (by have := hW.size; omega) (fun he => hkv he.symm), hW.block k hk]
  · rcases hr.at_ with ha | ⟨b, hb', hle⟩
    · exact .inl ha
    · exact .inr ⟨b, hb', Nat.le_trans hW.size hle⟩
/-- The answer of Add, and the spans behind it. -/
def addR (L : List Sp) (f l : Int) : Int × List Sp := if bad f l then (2, L) else if (addL L f l).length > 65536 then (3, L) else (0, addL L f l)
theorem not_bad {f l : Int} (h : ¬ bad f l = true) : 0 ≤ f ∧ f ≤ l ∧ l ≤ 4611686018427387903 := by
  unfold bad at h
  simp only [Bool.or_eq_true, decide_eq_true_eq, not_or] at h
  omega
theorem addL_at {L : List Sp} {f l : Int} {k : Nat} {x : Sp} (h : absorb l (f, l) (L.drop (fromL L (f - 1))) = (x, L.drop k)) : addL L f l = L.take (fromL L (f - 1)) ++ x :: L.drop k := by
  unfold addL
  rw [h]
/-- Under way: k spans are looked at, x holds those that touch. -/
def AddRel (w1 : World) (L : List Sp) (f l : Int) (i X : Nat) (kv : Value) (wr : World) : Prop :=
  ∃ (k : Nat) (x : Sp), kv = .int .i64 k ∧ i ≤ k ∧ k ≤ L.length ∧ absorb l (f, l) (L.drop i) = absorb l x (L.drop k) ∧ wr.heap[X]? = some (.cells #[.int .i64 x.1, .int .i64 x.2] 39 (0, 0)) ∧ Below X w1 wr
/-- The loop is over. -/
def AddEnd (w1 : World) (L : List Sp) (f l : Int) (i X k : Nat) (x : Sp) (wr : World) : Prop :=
  i ≤ k ∧ k ≤ L.length ∧ absorb l (f, l) (L.drop i) = (x, L.drop k) ∧ wr.heap[X]? = some (.cells #[.int .i64 x.1, .int .i64 x.2] 39 (0, 0)) ∧ Below X w1 wr
theorem add_ok {L L' : List Sp} {f l c : Int} (ho : Ok L) (h : addR L f l = (c, L')) (hb : ¬ bad f l = true) (hf : L.length ≤ 65536 := by first | assumption | omega) : Ok L' ∧ L'.length ≤ 65536 := by
  obtain ⟨h0, h1, h2⟩ := not_bad hb
  unfold addR at h
  rw [if_neg hb] at h
  split at h
  · injection h with _ h
    subst h
    exact ⟨ho, hf⟩
  · next hs =>
    injection h with _ h
    subst h
    exact ⟨(addL_ok L ho f l h0 h1 h2).1, by omega⟩
theorem absorb_stop {L : List Sp} {l : Int} {x y : Sp} {k : Nat} (hy : L[k]? = some y) (h : y.1 > l + 1) : absorb l x (L.drop k) = (x, L.drop k) := by
  obtain ⟨hk, he⟩ := List.getElem?_eq_some_iff.1 hy
  rw [List.drop_eq_getElem_cons hk, he]
  unfold absorb
  rw [if_pos h]
theorem absorb_go {L : List Sp} {l : Int} {x y : Sp} {k : Nat} (hy : L[k]? = some y) (h : y.1 ≤ l + 1) : absorb l x (L.drop k) = absorb l (min x.1 y.1, max x.2 y.2) (L.drop (k + 1)) := by
  obtain ⟨hk, he⟩ := List.getElem?_eq_some_iff.1 hy
  rw [List.drop_eq_getElem_cons hk, he]
  conv => lhs; unfold absorb
  rw [if_neg (by omega)]
theorem absorb_end {L : List Sp} {l : Int} {x : Sp} {k : Nat} (h : L.length ≤ k) : absorb l x (L.drop k) = (x, L.drop k) := by
  rw [List.drop_eq_nil_of_le h]; rfl
theorem add_len {w1 wr : World} {L : List Sp} {f l : Int} {i X k : Nat} {x : Sp} (h : AddEnd w1 L f l i X k x wr) (hi : i = fromL L (f - 1)) : addL L f l = L.take i ++ x :: L.drop k ∧ (addL L f l).length = L.length - (k - i) + 1 := by
  obtain ⟨h1, h2, h3, _⟩ := h
  subst hi
  have e := addL_at h3
  refine ⟨e, ?_⟩
  rw [e, List.length_append, List.length_take, List.length_cons, List.length_drop]
  omega
theorem add_big {w1 wr : World} {L : List Sp} {f l : Int} {i X k : Nat} {x : Sp} (h : AddEnd w1 L f l i X k x wr) (hi : i = fromL L (f - 1)) (hb : ¬ bad f l = true) (hbig : L.length - (k - i) + 1 > 65536) : addR L f l = (3, L) := by
  unfold addR
  rw [if_neg hb, (add_len h hi).2, if_pos hbig]
theorem add_small {w1 wr : World} {L : List Sp} {f l : Int} {i X k : Nat} {x : Sp} (h : AddEnd w1 L f l i X k x wr) (hi : i = fromL L (f - 1)) (hb : ¬ bad f l = true) (hbig : ¬ L.length - (k - i) + 1 > 65536) : addR L f l = (0, L.take i ++ x :: L.drop k) := by
  unfold addR
  rw [if_neg hb, (add_len h hi).2, if_neg hbig, (add_len h hi).1]
theorem add_kept {w w1 wr : World} {base g : Nat} {v : Value} {L : List Sp} {f l : Int} {i k : Nat} {x : Sp} (h : SetAt w base g v L) (hbw : base ≤ w.heap.size) (hb : Below w.heap.size w w1) (he : AddEnd w1 L f l i w1.heap.size k x wr) : SetAt wr base g v L ∧ Lft w wr base g v v := by
  have hb2 : Below w.heap.size w wr := hb.trans (he.2.2.2.2.mono hb.size)
  exact ⟨h.below hb2, Lft.of_below hb2 hbw⟩
theorem bl_cells_frozen {w W : World} {base g : Nat} {v v' : Value} {L : List Sp} {n : Nat} {ys : List Value} {W2 : World} (h : SetAt w base g v L) (hW : Below w.heap.size w W) (hr : Rp W W2 base 39 2 v v' n ys) : W2.cell? ⟨g, 1, none⟩ = some v ∧ W2.frozen? ⟨g, 1, none⟩ = false := by
  have hbg : W.heap[g]? = some (.cells #[.bool true, v] 60 (0, 0)) := (hW.block g h.lt).trans h.blk
  have hne : some g ≠ v.ownBlock := fun he => h.row_ne g he.symm rfl
  have hb2 : W2.heap[g]? = some (.cells #[.bool true, v] 60 (0, 0)) := (hr.grown.block g (Nat.lt_of_lt_of_le h.lt hW.size) hne).trans hbg
  exact ⟨by rw [cell_of_row W2 g _ _ _ _ hb2]; rfl, blk_frozen hb2 1⟩
theorem add_world {w w1 wr : World} {L : List Sp} {f l : Int} {i k : Nat} {x : Sp} (hb : Below w.heap.size w w1) (he : AddEnd w1 L f l i w1.heap.size k x wr) {o : Obj} : Below w.heap.size w (wr.alloc o).drew := by
  have hb2 : Below w.heap.size w wr := hb.trans (he.2.2.2.2.mono hb.size)
  exact (hb2.alloc hb2.size o).drew
theorem add_rep {w w1 wr : World} {base g : Nat} {v : Value} {L : List Sp} {f l : Int} {i k : Nat} {x : Sp} (h : SetAt w base g v L) (hbw : base ≤ w.heap.size) (hb : Below w.heap.size w w1) (he : AddEnd w1 L f l i w1.heap.size k x wr) :
    Calls Try.prog 42 #[v, .int .i64 i, .int .i64 k, .slice (some ⟨wr.heap.size, 0, none⟩) 1 1] (wr.alloc (.cells #[.int .i64 x.1, .int .i64 x.2] 39)).drew fun e w' => ∃ v' N, e = .returned v' ∧ N = (L.take i ++ x :: L.drop k).length ∧
      Rp (wr.alloc (.cells #[.int .i64 x.1, .int .i64 x.2] 39)).drew w' base 39 2 v v' N (cells (L.take i ++ x :: L.drop k)) := by
  have hb2 : Below w.heap.size w wr := hb.trans (he.2.2.2.2.mono hb.size)
  have hs := h.below (add_world hb he (o := .cells #[.int .i64 x.1, .int .i64 x.2] 39))
  have hfew := h.few
  have hlen : (L.take i ++ x :: L.drop k).length = i + 1 + (L.length - k) := by
    rw [List.length_append, List.length_take, List.length_cons, List.length_drop]
    have := he.1
    have := he.2.1
    omega
  have hce : cells (L.take i ++ x :: L.drop k) = (cells L).take (i * 2) ++ [.int .i64 x.1, .int .i64 x.2] ++ (cells L).drop (k * 2) := by
    rw [cells_append, cells_cons, cells_take, cells_drop, List.append_assoc]
    rfl
  rw [hlen, hce]
  have hnew : (wr.alloc (.cells #[.int .i64 x.1, .int .i64 x.2] 39)).drew.heap[wr.heap.size]? = some (.cells #[.int .i64 x.1, .int .i64 x.2] 39 (0, 0)) := heap_alloc_new wr _
  have hgv : v.ownBlock.getD g < wr.heap.size := by
    cases hv : v.ownBlock with
    | none => exact Nat.lt_of_lt_of_le h.lt hb2.size
    | some k => exact Nat.lt_of_lt_of_le (h.row_lt k hv) hb2.size
  refine (replace_any (g := v.ownBlock.getD g) hs.row (cells_one L) ?_ (fun k hk => by rw [hk]; rfl) ⟨rfl, ?_, .inr ⟨wr.heap.size, 0, _, _, rfl, by omega, hnew, fun j u hj => ?_⟩⟩ i k he.1 he.2.1 (by omega) (fun h => by omega)).mono (by rintro e w' ⟨v', rfl, h⟩; exact ⟨_, _, rfl, rfl, h⟩)
  · show base ≤ (wr.alloc _).heap.size
    rw [World.size_alloc]
    have := hb2.size
    omega
  · intro u hu
    rcases List.mem_cons.1 hu with rfl | hu
    · rfl
    · rw [List.mem_singleton.1 hu]; rfl
  · rw [Nat.zero_add]
    simpa using hj
theorem add_next {w1 wr : World} {L : List Sp} {f l : Int} {i X k : Nat} {x y : Sp} (hik : i ≤ k) (hlt : k < L.length) (hab : absorb l (f, l) (L.drop i) = absorb l x (L.drop k)) (hX : wr.heap[X]? = some (.cells #[.int .i64 x.1, .int .i64 x.2] 39 (0, 0))) (hb : Below X w1 wr)
    (hy : L[k]? = some y) (h : y.1 ≤ l + 1) : AddRel w1 L f l i X (.int .i64 ((k : Int) + 1)) ((wr.setCell ⟨X, 0, none⟩ (.int .i64 (min x.1 y.1))).setCell ⟨X, 1, none⟩ (.int .i64 (max x.2 y.2))).drew := by
  refine ⟨k + 1, (min x.1 y.1, max x.2 y.2), rfl, by omega, by omega, by rw [hab]; exact absorb_go hy h, ?_, ((hb.setCell (Nat.le_refl _) _).setCell (Nat.le_refl _) _).drew⟩
  have := blk_set (blk_set hX 0 (.int .i64 (min x.1 y.1))) 1 (.int .i64 (max x.2 y.2))
  exact this
variable {w : World} {base g : Nat} {v : Value} {L : List Sp}
set_option maxHeartbeats 3200000 in
set_option maxRecDepth 100000 in
theorem add_s (h : SetAt w base g v L) (hbw : base ≤ w.heap.size) (f l : Int) :
    Calls Try.prog 17 #[.pointer (some ⟨g, 0, none⟩), .int .i64 f, .int .i64 l] w fun e w' => ∃ v', e = .returned (.int .i64 (addR L f l).1) ∧ SetAt w' base g v' (addR L f l).2 ∧ Lft w w' base g v v' := by
  have H := Aside0.mk h
  have HW := Aside0.mk (wrong_s h f l)
  have c1 := h.c1
  by_cases hb : bad f l = true
  · have e1 : addR L f l = (2, L) := by unfold addR; rw [if_pos hb]
    rw [e1]
    rw [if_pos hb] at HW
    clear h hb e1
    go_enter Try.func17, Try.ntmps17
    go_wp2
    go_step3
    go_wp2_with (go_at_call 40; refine HW.out.mono ?_; rintro e w' ⟨rfl, rfl⟩)
    rw [Exit.noGoto_ret]
    go_ret
    exact ⟨_, rfl, H.out, Lft.of_below (Below.refl _ _) hbw⟩
  · obtain ⟨hf0, hfl, hl1⟩ := not_bad hb
    rw [if_neg hb] at HW
    have HF := Aside0.mk (from_s h (f - 1) (by omega) (by omega))
    have HIL := Aside0.mk (fromL_le L (f - 1))
    have hfew := h.few
    have HB := Aside0.mk hb
    have hw1 : IntKind.i64.wrap (f - 1) = f - 1 := by rw [IntKind.wrap_i64]; omega
    obtain ⟨i, hi⟩ : ∃ i, i = fromL L (f - 1) := ⟨_, rfl⟩
    rw [← hi] at HF HIL
    have HI := Aside0.mk hi
    clear h hb hi
    go_enter Try.func17, Try.ntmps17
    go_wp2
    go_step3
    go_wp2_with (first
      | (go_at_call 40; refine HW.out.mono ?_; rintro e w' ⟨rfl, rfl⟩)
      | (go_at_call 41; refine HF.out.mono ?_; rintro e w1 ⟨rfl, hb⟩; have HBl := Aside0.mk hb; have d1 := pw_cell_below hb c1; clear hb))
    go_step3
    go_wp2_with fail
    go_loopw [9] (fun kv wr => AddRel w1 L f l i w1.heap.size kv wr) (fun kv _ => L.length - (intOf kv).toNat)
    case atStart => exact ⟨i, (f, l), rfl, Nat.le_refl _, HIL.out, rfl, heap_alloc_new w1 _, below_alloc (Below.refl _ _) _⟩
    case round =>
      obtain ⟨k, x, rfl, hik, hkl, hab, hX, hbx⟩ := hrel
      have HX := Aside0.mk hX
      have HBX := Aside0.mk hbx
      have HAB := Aside0.mk hab
      have e1 := pw_cell_below hbx d1
      have x0 : wr.cell? ⟨w1.heap.size, 0, none⟩ = some (.int .i64 x.1) := by rw [cell_of_row wr _ _ _ _ _ hX]; rfl
      have x1 : wr.cell? ⟨w1.heap.size, 1, none⟩ = some (.int .i64 x.2) := by rw [cell_of_row wr _ _ _ _ _ hX]; rfl
      clear hX hbx hab
      by_cases hlt : k < L.length
      · obtain ⟨y, hy⟩ : ∃ y, L[k]? = some y := ⟨_, List.getElem?_eq_getElem hlt⟩
        obtain ⟨A, c, rfl, hc, hnc, a2, a3⟩ := row_at H.out.row _ y hy
        have b2 := pw_cell_below (HBl.out.trans (HBX.out.mono HBl.out.size)) a2
        have b3 := pw_cell_below (HBl.out.trans (HBX.out.mono HBl.out.size)) a3
        have hyo := H.out.ok.2 y (List.mem_of_getElem? hy)
        have y0 := hyo.1
        have y1 := hyo.2.1
        have y2 := hyo.2.2
        have HY := Aside0.mk hy
        clear a2 a3 hy hyo
        by_cases hgt : y.1 > l + 1
        · have HE := Aside0.mk (show AddEnd w1 L f l i w1.heap.size k x wr from ⟨hik, hkl, (by rw [HAB.out]; exact absorb_stop HY.out hgt), HX.out, HBX.out⟩)
          by_cases hbig : L.length - (k - i) + 1 > 65536
          · have hb1 : (L.length : Int) - ((k : Int) - (i : Int)) + 1 > 65536 := by omega
            have HR := Aside0.mk (add_big HE.out HI.out HB.out hbig)
            go_wp2_with fail
            rw [Exit.noGoto_ret]
            go_ret
            rw [HR.out]
            exact ⟨_, rfl, add_kept H.out hbw HBl.out HE.out⟩
          · have hb1 : (L.length : Int) - ((k : Int) - (i : Int)) + 1 ≤ 65536 := by omega
            have e1a := pw_cell_below (below_alloc (Below.refl wr.heap.size wr) (.cells #[.int .i64 x.1, .int .i64 x.2] 39)) e1
            have HR := Aside0.mk (add_small HE.out HI.out HB.out hbig)
            go_wp2_with fail
            go_region_law (go_simp; go_at_call 42; refine (add_rep H.out hbw HBl.out HE.out).mono ?_; rintro e w2 ⟨v2, N, rfl, hN, hrp⟩; have HN := Aside0.mk hN; clear hN; obtain ⟨A2, n2, rfl, _⟩ := row_form hrp.own; obtain ⟨q1, q2⟩ := bl_cells_frozen H.out (add_world HBl.out HE.out) hrp; have HRP := Aside0.mk hrp; clear hrp)
            all_goals
              go_wp2_with fail
              rw [Exit.noGoto_ret]
              go_ret
              rw [HR.out]
              have hrp := HRP.out
              rw [HN.out] at hrp
              exact ⟨_, rfl, by have h2 := set_row H.out (add_world HBl.out HE.out) hrp (by have := add_ok H.out.ok HR.out HB.out; exact this.1) (by have := add_ok H.out.ok HR.out HB.out; exact this.2) hbw; rw [← HN.out] at h2; exact h2⟩
        · have hgt' : y.1 ≤ l + 1 := by omega
          have hmn := run_min x.1 y.1
          have hmx := run_max x.2 y.2
          have z0 := blk_frozen HX.out 0
          have z1 := blk_frozen HX.out 1
          clear hgt
          go_wp2_with fail
          go_still_tail 23, (by kernel_rfl)
          go_wp2_with fail
          go_roundw
          case rel => exact add_next hik hlt HAB.out HX.out HBX.out HY.out hgt'
          case measure => simp [intOf]; omega
      · obtain ⟨A, c, rfl, hc, hnc, _⟩ := row_form H.out.row
        have hkge : L.length ≤ k := by omega
        have HE := Aside0.mk (show AddEnd w1 L f l i w1.heap.size k x wr from ⟨hik, hkl, (by rw [HAB.out]; exact absorb_end hkge), HX.out, HBX.out⟩)
        by_cases hbig : L.length - (k - i) + 1 > 65536
        · have hb1 : (L.length : Int) - ((k : Int) - (i : Int)) + 1 > 65536 := by omega
          have HR := Aside0.mk (add_big HE.out HI.out HB.out hbig)
          go_wp2_with fail
          rw [Exit.noGoto_ret]
          go_ret
          rw [HR.out]
          exact ⟨_, rfl, add_kept H.out hbw HBl.out HE.out⟩
        · have hb1 : (L.length : Int) - ((k : Int) - (i : Int)) + 1 ≤ 65536 := by omega
          have e1a := pw_cell_below (below_alloc (Below.refl wr.heap.size wr) (.cells #[.int .i64 x.1, .int .i64 x.2] 39)) e1
          have HR := Aside0.mk (add_small HE.out HI.out HB.out hbig)
          go_wp2_with fail
          go_region_law (go_simp; go_at_call 42; refine (add_rep H.out hbw HBl.out HE.out).mono ?_; rintro e w2 ⟨v2, N, rfl, hN, hrp⟩; have HN := Aside0.mk hN; clear hN; obtain ⟨A2, n2, rfl, _⟩ := row_form hrp.own; obtain ⟨q1, q2⟩ := bl_cells_frozen H.out (add_world HBl.out HE.out) hrp; have HRP := Aside0.mk hrp; clear hrp)
          all_goals
            go_wp2_with fail
            rw [Exit.noGoto_ret]
            go_ret
            rw [HR.out]
            have hrp := HRP.out
            rw [HN.out] at hrp
            exact ⟨_, rfl, by have h2 := set_row H.out (add_world HBl.out HE.out) hrp (by have := add_ok H.out.ok HR.out HB.out; exact this.1) (by have := add_ok H.out.ok HR.out HB.out; exact this.2) hbw; rw [← HN.out] at h2; exact h2⟩
end Go.Proofs.Ytmkojmjjlcfohaa.Rg
