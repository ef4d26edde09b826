/- Wheels (layer 25): the comparison of timers; timers sorted; no condition. -/
import Derived.Test.YtakmcbakogjeeaaWh14
import Derived.Test.YtakmcbakogjeeaaWhSh
set_option linter.unusedVariables false
set_option linter.unusedSimpArgs false
namespace Go.Proofs.Ytakmcbakogjeeaa.Wh
open Go Go.RowKit Go.Maps Go.Proofs.Ytakmcbakogjeeaa.Rm Go.Proofs.Ytakmcbakogjeeaa.Rw Go.Sort Go.Lib
open Go.Proofs.YtakmcbakogjeeaaW.PrintWords Go.Proofs.YtakmcbakogjeeaaW.PrintLast Go.Proofs.YtakmcbakogjeeaaW.PrintMore
variable {W W' W2 : World} {b p m n : Nat} {now : Int} {kv : KV} {R : List Row} {L acc : List Tm} {x x' : Row} {F F' F2 : Nat → Prop} {lv : Value} {lb : Nat}
def orV (x y : Int) : Int := if x = 0 then y else x
set_option maxRecDepth 100000 in
theorem or_s (vb : Nat) (x y : Int) (h0 : W.cell? ⟨vb, 0, none⟩ = some (.int .i64 x)) (h1 : W.cell? ⟨vb, 1, none⟩ = some (.int .i64 y)) :
    Calls Try.prog 90 #[.slice (some ⟨vb, 0, none⟩) 2 2] W fun e w' => e = .returned (.int .i64 (orV x y)) ∧ W = w' := by
  unfold orV
  by_cases hx : x = 0
  · rw [if_pos hx]
    subst hx
    by_cases hy : y = 0
    · subst hy
      go_enter Try.func90, Try.ntmps90
      go_wp2
      refine wp_loop_rounds 3 ?_
      repeat (rw [rounds_succ]; go_wp2)
      go_ret
      exact ⟨rfl, rfl⟩
    · have hb : (y == 0) = false := by simp [hy]
      go_enter Try.func90, Try.ntmps90
      go_wp2
      refine wp_loop_rounds 3 ?_
      repeat (rw [rounds_succ]; go_wp2)
      go_ret
      exact ⟨rfl, rfl⟩
  · rw [if_neg hx]
    have hb : (x == 0) = false := by simp [hx]
    go_enter Try.func90, Try.ntmps90
    go_wp2
    refine wp_loop_rounds 3 ?_
    repeat (rw [rounds_succ]; go_wp2)
    go_ret
    exact ⟨rfl, rfl⟩
def cmpT (x y : Tm) : Int := orV (Lib.compareInt x.2 y.2) (Lib.compareInt x.1 y.1)
theorem cmpT_lt (x y : Tm) : cmpT x y < 0 ↔ lt x y := by
  unfold cmpT orV Lib.compareInt lt
  repeat' split
  all_goals omega
def encT (x : Tm) : List Value := [.int .i64 x.1, .int .i64 x.2]
set_option maxRecDepth 100000 in
set_option maxHeartbeats 1600000 in
theorem cmp_clo (x y : Tm) (W : World) : Calls Try.prog 89 #[.agg #[.int .i64 x.1, .int .i64 x.2], .agg #[.int .i64 y.1, .int .i64 y.2]] W fun e w' => e = .returned (.int .i64 (cmpT x y)) ∧ ∃ q os', w' = grow (W.drewN q) os' := by
  have hcon := fun u v W' => AnyG.cmp_Compare_int Try.cmpInt u v W'
  change ∀ u v W', Calls Try.prog 91 _ _ _ at hcon
  have HC := Aside0.mk hcon
  obtain ⟨c1, hc1⟩ : ∃ c1, Lib.compareInt x.2 y.2 = c1 := ⟨_, rfl⟩
  obtain ⟨c2, hc2⟩ : ∃ c2, Lib.compareInt x.1 y.1 = c2 := ⟨_, rfl⟩
  have HC1 := Aside0.mk (fun W' => hcon x.2 y.2 W')
  have HC2 := Aside0.mk (fun W' => hcon x.1 y.1 W')
  have HE := Aside0.mk (show cmpT x y = orV c1 c2 by unfold cmpT; rw [hc1, hc2])
  rw [hc1] at HC1
  rw [hc2] at HC2
  clear hcon hc1 hc2 HC
  rw [HE.out]
  obtain ⟨b1, hb1⟩ : ∃ b1, W.heap.size = b1 := ⟨_, rfl⟩
  have n1 := heap_alloc_new W (.cells #[.int .i64 x.1, .int .i64 x.2] 160 (0, 0))
  have n2 := heap_alloc_new (W.alloc (.cells #[.int .i64 x.1, .int .i64 x.2] 160 (0, 0))) (.cells #[.int .i64 y.1, .int .i64 y.2] 160 (0, 0))
  have hb2 : (W.alloc (.cells #[.int .i64 x.1, .int .i64 x.2] 160 (0, 0))).heap.size = b1 + 1 := by simp [hb1]
  rw [hb1] at n1
  rw [hb2] at n2
  have n3 := (Below.heap_alloc (W.alloc (.cells #[.int .i64 x.1, .int .i64 x.2] 160 (0, 0))) (.cells #[.int .i64 y.1, .int .i64 y.2] 160 (0, 0)) b1 (by rw [hb2]; omega)).trans n1
  have a0 : ((W.alloc (.cells #[.int .i64 x.1, .int .i64 x.2] 160 (0, 0))).alloc (.cells #[.int .i64 y.1, .int .i64 y.2] 160 (0, 0))).cell? ⟨b1, 0, none⟩ = some (.int .i64 x.1) := by rw [cell_of_row _ _ _ _ _ _ n3]; rfl
  have a1 : ((W.alloc (.cells #[.int .i64 x.1, .int .i64 x.2] 160 (0, 0))).alloc (.cells #[.int .i64 y.1, .int .i64 y.2] 160 (0, 0))).cell? ⟨b1, 1, none⟩ = some (.int .i64 x.2) := by rw [cell_of_row _ _ _ _ _ _ n3]; rfl
  have a2 : ((W.alloc (.cells #[.int .i64 x.1, .int .i64 x.2] 160 (0, 0))).alloc (.cells #[.int .i64 y.1, .int .i64 y.2] 160 (0, 0))).cell? ⟨b1 + 1, 0, none⟩ = some (.int .i64 y.1) := by rw [cell_of_row _ _ _ _ _ _ n2]; rfl
  have a3 : ((W.alloc (.cells #[.int .i64 x.1, .int .i64 x.2] 160 (0, 0))).alloc (.cells #[.int .i64 y.1, .int .i64 y.2] 160 (0, 0))).cell? ⟨b1 + 1, 1, none⟩ = some (.int .i64 y.2) := by rw [cell_of_row _ _ _ _ _ _ n2]; rfl
  clear n1 n2 n3
  go_enter Try.func89, Try.ntmps89
  go_upto_region 1 with fail
  go_region_held3 (fun w' => w'.cell? ⟨b1, 0, none⟩ = some (.int .i64 x.1) ∧ w'.cell? ⟨b1, 1, none⟩ = some (.int .i64 x.2) ∧ w'.cell? ⟨b1 + 1, 0, none⟩ = some (.int .i64 y.1) ∧ w'.cell? ⟨b1 + 1, 1, none⟩ = some (.int .i64 y.2)) (first | exact ⟨a0, a1, a2, a3⟩ | (simp [go_sem, *]; done))
    (first
    | (go_at_call 91; (first | (with_reducible refine (HC1.out _).mono ?_) | (with_reducible refine (HC2.out _).mono ?_)); rintro e w' ⟨rfl, rfl⟩)
    | (go_at_call 90; (with_reducible refine (or_s _ c1 c2 (by go_simp) (by go_simp)).mono ?_); rintro e w' ⟨rfl, rfl⟩))
  all_goals go_wp2_with fail
  all_goals go_ret
  all_goals exact ⟨rfl, 1, _, by rw [alloc_eq_grow, alloc_eq_grow, alloc_eq_grow, grow_grow, grow_grow]; rfl⟩
theorem swoT : SWO (Go.Proofs.ltOf cmpT) where
  irrefl x := by
    unfold Go.Proofs.ltOf
    rw [decide_eq_false_iff_not, cmpT_lt]
    unfold lt
    omega
  trans x y z h1 h2 := by
    unfold Go.Proofs.ltOf at *
    rw [decide_eq_true_eq, cmpT_lt] at *
    exact lt_trans h1 h2
  ntrans x y z h1 h2 := by
    unfold Go.Proofs.ltOf at *
    rw [decide_eq_false_iff_not, cmpT_lt] at *
    unfold lt at *
    omega
theorem encs_list (l : List Tm) : (flatK encT 2 l.toArray).toList = tcells l := by
  apply List.ext_getElem?
  intro q
  by_cases hq : q < l.length * 2
  · have h1 : (flatK encT 2 l.toArray).size = l.length * 2 := by simp
    have h2 := get_flatK encT 2 l.toArray q (by simpa using hq)
    rw [Array.getElem?_toList, Array.getElem?_eq_getElem (by rw [h1]; exact hq)]
    rw [getElem!_pos _ q (by rw [h1]; exact hq)] at h2
    rw [h2]
    have hlt : q / 2 < l.length := by omega
    obtain ⟨c0, c1⟩ := tcells_at l (q / 2) l[q / 2] (List.getElem?_eq_getElem hlt)
    rw [getElem!_pos l.toArray (q / 2) (by simpa using hlt)]
    simp only [List.getElem_toArray]
    rcases Nat.mod_two_eq_zero_or_one q with e | e
    · have hq2 : (tcells l)[q]? = (tcells l)[q / 2 * 2]? := by congr 1; omega
      rw [hq2, c0, e]
      rfl
    · have hq2 : (tcells l)[q]? = (tcells l)[q / 2 * 2 + 1]? := by congr 1; omega
      rw [hq2, c1, e]
      rfl
  · rw [Array.getElem?_toList, Array.getElem?_eq_none (by simp; omega), List.getElem?_eq_none (by rw [tcells_len]; omega)]
/-- A row of the wheel holds its timers, as the sort asks it. -/
theorem RowAt.holds {g c : Nat} {l : List Tm} (h : RowAt W b (.slice (some ⟨g, 0, none⟩) l.length c, l)) : HoldsK encT 2 W g 0 l.toArray := by
  intro j hj
  have hj2 : j < l.length * 2 := by simpa using hj
  have e : (flatK encT 2 l.toArray)[j]! = (tcells l)[j]'(by rw [tcells_len]; exact hj2) := by
    rw [getElem!_pos _ j hj, ← Array.getElem_toList]
    simp only [encs_list]
  obtain ⟨_, cs, hc⟩ := RowAt.block h (k := g) rfl
  refine ⟨?_, blk_frozen hc _⟩
  have := RowAt.read h j _ (List.getElem?_eq_getElem (by rw [tcells_len]; exact hj2))
  rw [add_at] at this
  rw [this, e]
  rfl
theorem RowAt.sorted {g c : Nat} {l : List Tm} (h : RowAt W b (.slice (some ⟨g, 0, none⟩) l.length c, l)) {d : Array Tm} (hd : d.size = l.length) (k : Nat) (os : Array Obj) :
    RowAt (sortWorldK encT 2 W g 0 k d os) b (.slice (some ⟨g, 0, none⟩) l.length c, d.toList) ∧ W.grownBy (sortWorldK encT 2 W g 0 k d os) (some g) := by
  have hlen := tcells_len l
  have hfl : (flatK encT 2 d).toList = tcells d.toList := by
    have := encs_list d.toList
    simpa using this
  rcases h.2 with ⟨h0, h1⟩ | ⟨g', cap', cur, h1, hbg, hb, hn, hm, hs, ht⟩
  · injection h0 with h0 _ _
    cases h0
  · injection h1 with h1 h2 h3
    injection h1 with h1
    injection h1 with h1
    subst h1; subst h3
    have hgl := (Array.getElem?_eq_some_iff.1 hb).1
    have hheap : ∀ q, q < W.heap.size → (sortWorldK encT 2 W g 0 k d os).heap[q]? = if q = g then some (.cells (putCells id 0 (flatK encT 2 d) cur) 160 (0, 0)) else W.heap[q]? := by
      intro q hq
      show ((W.heap.modify g (onCells (putCells id 0 (flatK encT 2 d)))) ++ os)[q]? = _
      simp only [Array.getElem?_append, Array.size_modify, hq, if_true, Array.getElem?_modify]
      by_cases hqg : g = q
      · subst hqg
        rw [if_pos rfl, if_pos rfl, hb]
        rfl
      · rw [if_neg hqg, if_neg (fun e => hqg e.symm)]
    have hsz : W.heap.size ≤ (sortWorldK encT 2 W g 0 k d os).heap.size := by
      show W.heap.size ≤ ((W.heap.modify g (onCells (putCells id 0 (flatK encT 2 d)))) ++ os).size
      simp
    refine ⟨⟨by simp [tcells_len], .inr ⟨g, c, putCells id 0 (flatK encT 2 d) cur, by simp [hd], hbg, by rw [hheap g hgl, if_pos rfl], ?_, hm, ?_, ?_⟩⟩, ⟨rfl, rfl, rfl, hsz, fun q hq hne => ?_⟩⟩
    · simpa [hd] using hn
    · unfold putCells
      rw [Array.size_mapIdx]
      exact hs
    · apply List.ext_getElem?
      intro q
      simp only [List.length_map, Array.length_toList, hd]
      rw [List.getElem?_take]
      have hn' : l.length ≤ c := hn
      by_cases hq : q < l.length * 2
      · rw [if_pos hq, ← hfl, Array.getElem?_toList, Array.getElem?_toList]
        unfold putCells
        rw [Array.getElem?_mapIdx, Array.getElem?_eq_getElem (show q < cur.size by omega)]
        simp only [Option.map_some, Nat.zero_le, true_and, Nat.zero_add, Nat.sub_zero, id]
        have hf : q < (flatK encT 2 d).size := by simp [hd]; omega
        rw [if_pos hf, getElem!_pos _ q hf, Array.getElem?_eq_getElem hf]
      · rw [if_neg hq, List.getElem?_eq_none (by rw [tcells_len, Array.length_toList, hd]; omega)]
    · rw [hheap q hq, if_neg (fun e => hne (by rw [e]))]
/-- slices.SortFunc at timers. -/
theorem sort_s (h : RowAt W b x) (hl : x.2.length ≤ 1099511627776) :
    Calls Try.prog 88 #[x.1, .func (.func 89) #[] #[]] W fun e w' => e = .returned (.tuple #[]) ∧ ∃ l', RowAt w' b (x.1, l') ∧ l'.length = x.2.length ∧ W.grownBy w' x.1.ownBlock ∧ l'.Perm x.2 ∧ l'.Pairwise (fun u v => ¬ lt v u) := by
  obtain ⟨v, l⟩ := x
  rcases h.shape with ⟨h1, h2⟩ | ⟨g, c, h1⟩
  · simp only at h1 h2
    subst h1; subst h2
    have hcon := AnyF.slices_SortFunc_none Try.sortTm none 0 (.func (.func 89) #[] #[]) W
    change Calls Try.prog 88 _ _ _ at hcon
    refine hcon.mono ?_
    rintro e w' ⟨rfl, rfl⟩
    exact ⟨rfl, [], h, rfl, ⟨rfl, rfl, rfl, Nat.le_refl _, fun _ _ _ => rfl⟩, List.Perm.refl _, List.Pairwise.nil⟩
  · simp only at h1
    subst h1
    have hgl : g < W.heap.size := by
      obtain ⟨_, cs, hc⟩ := RowAt.block h (k := g) rfl
      exact (Array.getElem?_eq_some_iff.1 hc).1
    have eg : ∀ args w, (callFunc 89 args).run Try.prog w = .ok (.enter 89 args) w := enters_of Try.func89 (by kernel_rfl) rfl
    have hcon := AnyQ.slices_SortFunc Try.sortTm 2 Try.isAgg160 Try.sizeOf160 encT (fun _ => rfl) (fun x v hv => by simp [encT] at hv; rcases hv with rfl | rfl <;> rfl) cmpT swoT 89 #[] g 0 c l.toArray W eg (fun _ _ _ _ x y => cmp_clo x y _) h.holds hgl (by simp only [List.size_toArray]; simp only at hl; omega)
    change Calls Try.prog 88 _ _ _ at hcon
    refine hcon.mono ?_
    rintro e w' ⟨rfl, d', k, os, hp, hs, rfl⟩
    have hd : d'.size = l.length := by simpa using hp.1
    obtain ⟨g1, g2⟩ := RowAt.sorted h hd k os
    refine ⟨rfl, d'.toList, g1, by simpa using hd, g2, ?_, ?_⟩
    · have := hp.2.2
      simp only [List.size_toArray] at this
      have e1 : (d'.extract 0 l.length).toList = d'.toList := by rw [← hd]; simp
      have e2 : (l.toArray.extract 0 l.length).toList = l := by simp
      rw [e1, e2] at this
      exact this
    · refine List.pairwise_iff_getElem.2 (fun i j hi hj hij => ?_)
      have := hs i j (Nat.zero_le _) hij (by simpa [hd] using hj)
      unfold Go.Proofs.ltOf at this
      rw [decide_eq_false_iff_not, cmpT_lt] at this
      rw [getElem!_pos d' j (by simpa using hj), getElem!_pos d' i (by simpa using hi)] at this
      simpa using this
end Go.Proofs.Ytakmcbakogjeeaa.Wh
