/- slices.Insert and slices.Replace of spans, met by what they do to a row; no condition. -/
import Derived.Test.YtmkojmjjlcfohaaChecked
import Derived.Test.YtmkojmjjlcfohaaWRow
import Derived.Test.YtmkojmjjlcfohaaRowK
import Derived.Test.YtmkojmjjlcfohaaWMore
import Derived.Laws.Externs
import Derived.Deep.RegionLaw
import Derived.Deep.QuietTactic
import Derived.BigQuiet
import Derived.Outline
set_option linter.unusedVariables false
set_option linter.unusedSimpArgs false
namespace Go.Proofs.Ytmkojmjjlcfohaa.Rg
open Go.RowKit Go.Proofs.YtmkojmjjlcfohaaW.PrintWords Go.Proofs.YtmkojmjjlcfohaaW.PrintLast Go.Proofs.YtmkojmjjlcfohaaW.PrintMore Go.Proofs.Ytmkojmjjlcfohaa.Rw
theorem infoS : (Try.prog.info? 39).map (fun i => (i.zero, i.size, i.bytes)) = some (some (.agg #[.int .i64 0, .int .i64 0]), 2, 16) := by kernel_rfl
theorem sizeS : (Try.prog.info? 39).map (·.size) = some 2 := by kernel_rfl
theorem sizeOfS : ∀ w, (Go.sizeOf 39).run Try.prog w = .ok 2 w := fun w => by
  obtain ⟨i0, hi0, _, hs, _⟩ := info_parts infoS
  simp [sizeOf, typeInfo, hi0, hs]
theorem zeroS : ∀ w, (zeroValue 39).run Try.prog w = .ok (.agg #[.int .i64 0, .int .i64 0]) w := fun w => by kernel_rfl
/-- Two blocks of plain memory do not overlap. -/
theorem over_no (w : World) (ab ao bb bo : Nat) (la ca lb cb : Nat) (hne : ab ≠ bb) (ca' cb' : Array Value) (tA tB : TypeId) (h1 : w.heap[ab]? = some (.cells ca' tA (0, 0))) (h2 : w.heap[bb]? = some (.cells cb' tB (0, 0))) (h3 : cb'.size ≠ 0) :
    (callFunc 62 #[.slice (some ⟨ab, ao, none⟩) la ca, .slice (some ⟨bb, bo, none⟩) lb cb]).run Try.prog w = .ok (.value (.bool false)) w := by
  rw [run_callFunc_extern Try.func62 (by kernel_rfl) (by kernel_rfl) (by kernel_rfl) (e := Extern.SlicesOverlaps.overlaps #[33, 33] #[4]) (by kernel_rfl),
    Lib.run_overlaps_apart w 33 4 39 Try.underlying33 2 sizeOfS ⟨ab, ao, none⟩ ⟨bb, bo, none⟩ la ca lb cb hne tA tB ca'.size cb'.size (by simp [World.shape?, h1]) (by simp [World.shape?, h2]) h3 (blk_frozen h1 _) (blk_frozen h1 _)]
  rfl
set_option maxHeartbeats 1600000 in
set_option maxRecDepth 100000 in
/-- There is room, and i stands ahead of the end: what lies behind is moved, V is written. -/
theorem insert_shift {w : World} {base g n c : Nat} {cur : Array Value} {Av : Option Addr} {m vc : Nat} {V : List Value} (hg : w.heap[g]? = some (.cells cur 39 (0, 0))) (hbase : base ≤ g) (hc : c ≤ 9223372036854775807) (hcs : cur.size = c * 2) (h1X : ∀ v ∈ cur.toList.take (n * 2), v.oneCell' = true) (hsrc : SrcV w g 2 Av m vc V) (i : Nat) (hi : i < n) (hm : 0 < m) (hroom : n + m ≤ c) :
    Calls Try.prog 61 #[.slice (some ⟨g, 0, none⟩) n c, .int .i64 i, .slice Av m vc] w fun e w' =>
      e = .returned (.slice (some ⟨g, 0, none⟩) (n + m) c) ∧ Rp w w' base 39 2 (.slice (some ⟨g, 0, none⟩) n c) (.slice (some ⟨g, 0, none⟩) (n + m) c) (n + m) (repl cur.toList (i * 2) (i * 2) (n * 2) V) := by
  have hX : cur.toList.length = cur.size := Array.length_toList
  have hVl := hsrc.len
  have hc63 : c ≤ maxLen := by unfold maxLen; omega
  have hsrc0 := hsrc
  obtain ⟨bv, ov, bcur, tb, rfl, hne, hb, hV⟩ := hsrc.at_.resolve_left (fun h => by omega)
  obtain ⟨cs, hcs'⟩ : ∃ cs, cs = (cur.toList.take (n * 2)).drop (i * 2) := ⟨_, rfl⟩
  have hdl : cs.length = (n - i) * 2 := by rw [hcs', List.length_drop, List.length_take]; omega
  have hov : ∀ lb cb, (callFunc 62 #[.slice (some ⟨bv, ov, none⟩) m vc, .slice (some ⟨g, (i + m) * 2, none⟩) lb cb]).run Try.prog w = .ok (.value (.bool false)) w := fun lb cb =>
    over_no w bv ov g ((i + m) * 2) m vc lb cb hne bcur cur tb 39 hb hg (by omega)
  obtain ⟨W1, hW1⟩ : ∃ W1, W1 = w.drew.setRow g (spl cur.toList ((i + m) * 2) cs).toArray := ⟨_, rfl⟩
  have hg1 : w.drew.heap[g]? = some (.cells cur 39 (0, 0)) := hg
  have hgW : W1.heap[g]? = some (.cells (spl cur.toList ((i + m) * 2) cs).toArray 39 (0, 0)) := by rw [hW1]; exact setRow_heap w.drew g cur _ _ _ hg1
  have hcp1 : ∀ ty dc sc, (Builtin.copy_ #[33, 33] ty #[.slice (some ⟨g, (i + m) * 2, none⟩) (n + m - (i + m)) dc, .slice (some ⟨g, i * 2, none⟩) (n + m - i) sc]).run Try.prog w.drew = .ok (goInt ((n - i : Nat) : Int)) W1 := fun ty dc sc => by
    rw [hW1]
    exact copy_at w.drew 33 33 ty 39 2 Try.underlying33 sizeS g ((i + m) * 2) _ dc g (i * 2) _ sc (n - i) cur cur 39 39 cs hg1 hg1 (by simp only [Nat.min_def]; split <;> omega) (by rw [hdl])
      (fun j v hj => by
        rw [hcs', List.getElem?_drop, List.getElem?_take] at hj
        rw [← Array.getElem?_toList]
        split at hj
        · exact hj
        · cases hj) (fun v hv => h1X v (by rw [hcs'] at hv; exact List.mem_of_mem_drop hv)) (by rw [hdl]; omega)
  have hs1 : SrcV W1 g 2 (some ⟨bv, ov, none⟩) m vc V := hsrc0.move (fun k hk hne => by rw [hW1, setRow_heap_ne _ _ _ _ hne]; rfl)
  obtain ⟨W2, hW2⟩ : ∃ W2, W2 = w.drew.setRow g (spl (spl cur.toList ((i + m) * 2) cs) (i * 2) V).toArray := ⟨_, rfl⟩
  have hsl := spl_length cur.toList ((i + m) * 2) cs (by rw [hdl]; omega)
  have hcp2 : ∀ ty dc, (Builtin.copy_ #[33, 33] ty #[.slice (some ⟨g, i * 2, none⟩) (n + m - i) dc, .slice (some ⟨bv, ov, none⟩) m vc]).run Try.prog W1 = .ok (goInt m) W2 := fun ty dc => by
    have h := hs1.copy 33 33 ty 39 Try.underlying33 sizeS g (i * 2) (n + m - i) dc _ 39 hgW (by omega) (by rw [List.size_toArray, hsl]; omega)
    rw [h, hW2, hW1, setRow_setRow]
  have hrp : Rp w W2 base 39 2 (.slice (some ⟨g, 0, none⟩) n c) (.slice (some ⟨g, 0, none⟩) (n + m) c) (n + m) (repl cur.toList (i * 2) (i * 2) (n * 2) V) := by
    rw [hW2]
    refine rp_set (w := w) (W := w.drew) rfl rfl rfl rfl hg hbase ?_ hroom hc63 hcs.symm ?_
    · rw [spl_length _ _ _ (by rw [hsl]; omega), hsl, hX]
    · have h := repl_shift cur.toList (i * 2) (i * 2) (n * 2) V (Nat.le_refl _) (by omega) (by omega) (by omega)
      rw [← h, hcs']
      have e1 : (n + m) * 2 = i * 2 + V.length + (n * 2 - i * 2) := by omega
      have e2 : (i + m) * 2 = i * 2 + V.length := by omega
      rw [e1, e2]
  have HR := Aside0.mk hrp
  have hw1 : IntKind.i64.wrap ((i : Int) + (m : Int)) = (i : Int) + (m : Int) := by rw [IntKind.wrap_i64]; omega
  have hb1 : (0 : Int) ≤ (i : Int) + (m : Int) := by omega
  have hin : i ≤ n := by omega
  have htn : ((i : Int) + (m : Int)).toNat = i + m := by omega
  have hz1 : ¬ ((m : Int) = 0) := by omega
  have hz2 : ¬ ((i : Int) = (n : Int)) := by omega
  have hb2 : ¬ (c = i + m) := by omega
  have hb3 : (i : Int) ≤ (n : Int) + (m : Int) := by omega
  have hb4 : ¬ (c = i) := by omega
  clear hrp hW1 hW2 hcs' hVl hV h1X hdl hg hb hg1 hgW hX hcs hsrc hsrc0 hs1 hsl hc63
  go_enter Try.func61, Try.ntmps61
  go_wp2_with (simp only [hov])
  go_region_law (refine step_copy_run rfl _ _ 33 33 rfl _ _ (by simp [Act.eval, Act.put]) (by simp [Act.eval, Act.put]) (hcp1 _ _ _) ?_)
  go_wp2_with (with_reducible refine wpList_copy_run _ rfl _ _ 33 33 rfl _ _ rfl rfl (hcp2 _ _) ?_)
  go_ret
  exact ⟨rfl, HR.out⟩
set_option maxHeartbeats 1600000 in
set_option maxRecDepth 100000 in
/-- Behind the end. -/
theorem insert_end {w : World} {base g n : Nat} {v : Value} {xs : List Value} {Av : Option Addr} {m vc : Nat} {V : List Value} (hown : w.ownsRow base 39 2 v n xs) (hbase : base ≤ w.heap.size) (hsrc : SrcV w g 2 Av m vc V) (hm : 0 < m) (hn : n + m ≤ 1099511627776) :
    Calls Try.prog 61 #[v, .int .i64 n, .slice Av m vc] w fun e w' => ∃ v', e = .returned v' ∧ Rp w w' base 39 2 v v' (n + m) (xs ++ V) := by
  have hVl := hsrc.len
  have hsrc0 := hsrc
  obtain ⟨bv, ov, bcur, tb, rfl, hne, hb, hV⟩ := hsrc.at_.resolve_left (fun h => by omega)
  obtain ⟨i0, hi, hz0, hz1, hz2⟩ := info_parts infoS
  have hlt : ∀ j v, V[j]? = some v → w.cell? ((⟨bv, ov, none⟩ : Addr).add j) = some v := fun j v hj => by rw [add_at, cell_of_row w bv _ bcur _ _ hb]; exact hV j v hj
  have hrun := fun ty => run_append_own_at (P := Try.prog) (w := w) base 33 ty 39 i0 _ 2 16 Try.underlying33 hi hz0 hz1 hz2 rfl (by decide) v n xs hown ⟨bv, ov, none⟩ m vc V hVl hlt hsrc0.one (by unfold maxLen; omega) (by omega) hbase
  obtain ⟨v1, w1, hr, h1, h2, _, h3⟩ := hrun 33
  have hr' : ∀ ty, (Builtin.append_ #[33, 33] ty #[v, .slice (some ⟨bv, ov, none⟩) m vc]).run Try.prog w = .ok v1 w1 := fun ty => hr
  have HR := Aside0.mk (show Rp w w1 base 39 2 v v1 (n + m) (xs ++ V) from ⟨h1, h2, h3.imp id (fun h => ⟨_, h, Nat.le_refl _⟩)⟩)
  have hz1 : ¬ ((m : Int) = 0) := by omega
  have hvs := hown.2
  clear hrun hr h1 h2 h3 hlt hV hb hVl hsrc hsrc0 hown hi hz0 hz2 hbase
  rcases hvs with ⟨rfl, rfl⟩ | ⟨gg, cap, cur, rfl, _, _, hnc, hcm, _⟩
  · go_enter Try.func61, Try.ntmps61
    go_wp2_with (at_builtin; refine Lib.wpList_append_run _ rfl _ _ _ _ rfl _ _ rfl rfl _ _ (hr' _) ?_)
    go_ret
    exact ⟨_, rfl, by have := HR.out; rw [Nat.zero_add] at this; exact this⟩
  · unfold maxLen at hcm
    by_cases hcap : cap = n
    · subst hcap
      go_enter Try.func61, Try.ntmps61
      go_wp2_with (at_builtin; refine Lib.wpList_append_run _ rfl _ _ _ _ rfl _ _ rfl rfl _ _ (hr' _) ?_)
      go_ret
      exact ⟨_, rfl, HR.out⟩
    go_enter Try.func61, Try.ntmps61
    go_wp2_with (at_builtin; refine Lib.wpList_append_run _ rfl _ _ _ _ rfl _ _ rfl rfl _ _ (hr' _) ?_)
    all_goals
      go_ret
      exact ⟨_, rfl, HR.out⟩
set_option maxHeartbeats 1600000 in
set_option maxRecDepth 100000 in
/-- Nothing is put in. -/
theorem insert_none {w : World} {base n : Nat} {v : Value} {xs : List Value} (hown : w.ownsRow base 39 2 v n xs) (i : Nat) (hi : i ≤ n) :
    Calls Try.prog 61 #[v, .int .i64 i, .slice none 0 0] w fun e w' => e = .returned v ∧ w = w' := by
  have hvs := hown.2
  clear hown
  rcases hvs with ⟨rfl, rfl⟩ | ⟨gg, cap, cur, rfl, _, _, hnc, hcm, _⟩
  · obtain rfl : i = 0 := by omega
    go_enter Try.func61, Try.ntmps61
    go_wp2
    go_ret
    exact ⟨rfl, rfl⟩
  · unfold maxLen at hcm
    by_cases hci : cap = i
    all_goals
      go_enter Try.func61, Try.ntmps61
      go_wp2
      all_goals
        go_ret
        exact ⟨rfl, rfl⟩
/-- A new row: what s holds up to i, zero values up to N elements; V and what lies from j on are copied in. -/
theorem grow_run {w : World} {base g n c : Nat} {cur : Array Value} {Av : Option Addr} {m vc : Nat} {V : List Value} (hg : w.heap[g]? = some (.cells cur 39 (0, 0))) (hbase : base ≤ g) (hc : c ≤ 9223372036854775807) (hcs : cur.size = c * 2) (h1X : ∀ v ∈ cur.toList.take (n * 2), v.oneCell' = true) (hsrc : SrcV w g 2 Av m vc V) (hm : n ≤ c) (hbw : base ≤ w.heap.size) (i j N : Nat) (hij : i ≤ j) (hj : j ≤ n) (hN : N = i + m + (n - j)) (hi : i < N) (q : Nat) (hq0 : i ≤ q) (hq : q < N) (hN2 : N ≤ 1099511627776) :
    ∃ (cp : Nat) (W0 W1 W2 : World), N ≤ cp ∧ cp ≤ maxLen ∧
      (∀ ty, (Builtin.append_ #[33, 3] ty #[.slice (some ⟨g, 0, none⟩) i q, .int .i64 ((N : Int) - (i : Int))]).run Try.prog w = .ok (.slice (some ⟨w.heap.size, 0, none⟩) N cp) W0) ∧
      (∀ ty, (Builtin.copy_ #[33, 33] ty #[.slice (some ⟨w.heap.size, i * 2, none⟩) (N - i) (cp - i), .slice Av m vc]).run Try.prog W0 = .ok (goInt m) W1) ∧
      (∀ ty dc sc, (Builtin.copy_ #[33, 33] ty #[.slice (some ⟨w.heap.size, (i + m) * 2, none⟩) (N - (i + m)) dc, .slice (some ⟨g, j * 2, none⟩) (n - j) sc]).run Try.prog W1.drew = .ok (goInt ((n - j : Nat) : Int)) W2) ∧
      ∀ v, v.ownBlock = some g → Rp w W2 base 39 2 v (.slice (some ⟨w.heap.size, 0, none⟩) N cp) N (repl cur.toList (i * 2) (j * 2) (n * 2) V) := by
  have hX : cur.toList.length = cur.size := Array.length_toList
  have hVl := hsrc.len
  obtain ⟨i0, hi0, hz0, hz1, hz2⟩ := info_parts infoS
  have hglt : g < w.heap.size := (Array.getElem?_eq_some_iff.1 hg).1
  have hold : (Builtin.firstCells i0.size i (.slice (some ⟨g, 0, none⟩) i q)).run Try.prog w.drew = .ok (cur.toList.take (i * 2)).toArray w.drew := by
    rw [hz1]
    exact run_firstCells_some w.drew 2 i ⟨g, 0, none⟩ i q (cur.toList.take (i * 2)) (by rw [List.length_take]; omega) (fun k v hk => by
      have hg' : w.drew.heap[g]? = some (.cells cur 39 (0, 0)) := hg
      rw [add_at, cell_of_row w.drew g _ cur _ _ hg']
      rw [List.getElem?_take] at hk
      rw [Nat.zero_add, ← Array.getElem?_toList]
      split at hk
      · exact hk
      · cases hk)
  have hge := grownCap_ge w (i + (N - i)) q 39
  have hle := grownCap_le_maxLen w (i + (N - i)) q 39 (by unfold maxLen; omega)
  have hrun := fun ty => Lib.run_append_grow_zeros (P := Try.prog) (ty := ty) w 33 3 39 i0 (.agg #[.int .i64 0, .int .i64 0]) .i64 .i64 Try.underlying33 Try.underlying3 hi0 hz0 (some ⟨g, 0, none⟩) i q (cur.toList.take (i * 2)) hold (N - i) (by omega) (by omega) (by omega) (by omega) (by rw [hz2]; omega) (by rw [hz2]; exact growslice_fits (by omega) (by omega))
  have eN : i + (N - i) = N := by omega
  rw [eN] at hge hle
  simp only [eN] at hrun
  obtain ⟨cp, hcp⟩ : ∃ cp, cp = grownCap w N q 39 := ⟨_, rfl⟩
  simp only [← hcp] at hrun hge hle
  obtain ⟨Y, hY⟩ : ∃ Y : Array Value, Y = (cur.toList.take (i * 2)).toArray ++ Builtin.zeroCells (Value.agg #[.int .i64 0, .int .i64 0]).cells (N - i) ++ Builtin.zeroCells (Value.agg #[.int .i64 0, .int .i64 0]).cells (cp - N) := ⟨_, rfl⟩
  simp only [← hY] at hrun
  have hYl : Y.toList.length = cp * 2 := by
    rw [Array.length_toList, hY, Array.size_append, Array.size_append, size_zeroCells, size_zeroCells, List.size_toArray, List.length_take]
    show min (i * 2) cur.toList.length + (N - i) * 2 + (cp - N) * 2 = _
    omega
  have hYt : Y.toList.take (i * 2) = cur.toList.take (i * 2) := by
    rw [hY, Array.toList_append, Array.toList_append, List.append_assoc]
    exact List.take_left' (by rw [List.length_take]; omega)
  have hg0 : (w.drew.alloc (.cells Y 39)).heap[w.heap.size]? = some (.cells Y 39 (0, 0)) := heap_alloc_new w.drew (.cells Y 39)
  have hk0 : ∀ k, k < w.heap.size → (w.drew.alloc (.cells Y 39)).heap[k]? = w.heap[k]? := fun k hk => Below.heap_alloc w.drew (.cells Y 39) k hk
  have hcopy1 := fun ty => (hsrc.move (W := w.drew.alloc (.cells Y 39)) (fun k hk _ => hk0 k hk)).copy 33 33 ty 39 Try.underlying33 sizeS w.heap.size (i * 2) (N - i) (cp - i) Y 39 hg0 (by omega) (by rw [← Array.length_toList]; omega)
  have hsl := spl_length Y.toList (i * 2) V (by omega)
  obtain ⟨W1, hW1⟩ : ∃ W1, W1 = (w.drew.alloc (.cells Y 39)).setRow w.heap.size (spl Y.toList (i * 2) V).toArray := ⟨_, rfl⟩
  have hg1 : W1.drew.heap[w.heap.size]? = some (.cells (spl Y.toList (i * 2) V).toArray 39 (0, 0)) := by
    show W1.heap[w.heap.size]? = _
    rw [hW1]; exact setRow_heap _ w.heap.size Y _ _ _ hg0
  have hgo : W1.drew.heap[g]? = some (.cells cur 39 (0, 0)) := by
    show W1.heap[g]? = _
    rw [hW1, setRow_heap_ne _ _ _ _ (by omega), hk0 g hglt]; exact hg
  obtain ⟨cs, hcs'⟩ : ∃ cs, cs = (cur.toList.take (n * 2)).drop (j * 2) := ⟨_, rfl⟩
  have hdl : cs.length = (n - j) * 2 := by rw [hcs', List.length_drop, List.length_take]; omega
  refine ⟨cp, w.drew.alloc (.cells Y 39), W1, W1.drew.setRow w.heap.size (spl (spl Y.toList (i * 2) V) ((i + m) * 2) cs).toArray, hge, hle, fun ty => ?_, fun ty => by rw [hW1]; exact hcopy1 ty, fun ty dc sc => ?_, fun v hv => ?_⟩
  · have e1 : ((N : Int) - (i : Int)) = ((N - i : Nat) : Int) := by omega
    rw [e1]
    exact hrun ty
  · exact copy_at W1.drew 33 33 ty 39 2 Try.underlying33 sizeS w.heap.size ((i + m) * 2) _ dc g (j * 2) _ sc (n - j) _ cur 39 39 cs hg1 hgo (by simp only [Nat.min_def]; split <;> omega) (by rw [hdl])
      (fun k v hk => by
        rw [hcs', List.getElem?_drop, List.getElem?_take] at hk
        rw [← Array.getElem?_toList]
        split at hk
        · exact hk
        · cases hk) (fun v hv => h1X v (by rw [hcs'] at hv; exact List.mem_of_mem_drop hv)) (by rw [List.size_toArray]; show _ ≤ (spl Y.toList (i * 2) V).length; rw [hsl, hdl]; omega)
  · refine rp_new (by rw [hW1]; rfl) (by rw [hW1]; rfl) (by rw [hW1]; rfl) ?_ (fun k hk => ?_) (setRow_heap _ w.heap.size _ _ _ _ hg1) hbw hge hle ?_ ?_
    · rw [setRow_size]
      show w.heap.size < W1.heap.size
      rw [hW1, setRow_size]
      simp
    · rw [setRow_heap_ne _ _ _ _ (by omega)]
      show W1.heap[k]? = _
      rw [hW1, setRow_heap_ne _ _ _ _ (by omega), hk0 k hk]
    · rw [spl_length _ _ _ (by rw [hsl]; omega), hsl, hYl]
    · have h := repl_grow cur.toList Y.toList (i * 2) (j * 2) (n * 2) V (by omega) (by omega) (by omega) (by omega) hYt
      rw [← h, hcs']
      have e1 : N * 2 = i * 2 + V.length + (n * 2 - j * 2) := by omega
      have e2 : (i + m) * 2 = i * 2 + V.length := by omega
      rw [e1, e2]
set_option maxHeartbeats 1600000 in
set_option maxRecDepth 100000 in
/-- There is no room, and i stands ahead of the end. -/
theorem insert_grow {w : World} {base g n c : Nat} {cur : Array Value} {Av : Option Addr} {m vc : Nat} {V : List Value} (hg : w.heap[g]? = some (.cells cur 39 (0, 0))) (hbase : base ≤ g) (hc : c ≤ 9223372036854775807) (hcs : cur.size = c * 2) (h1X : ∀ v ∈ cur.toList.take (n * 2), v.oneCell' = true) (hsrc : SrcV w g 2 Av m vc V) (hnc : n ≤ c) (hbw : base ≤ w.heap.size) (i : Nat) (hi : i < n) (hm : 0 < m) (hroom : c < n + m) (hnm : n + m ≤ 1099511627776) :
    Calls Try.prog 61 #[.slice (some ⟨g, 0, none⟩) n c, .int .i64 i, .slice Av m vc] w fun e w' => ∃ v',
      e = .returned v' ∧ Rp w w' base 39 2 (.slice (some ⟨g, 0, none⟩) n c) v' (n + m) (repl cur.toList (i * 2) (i * 2) (n * 2) V) := by
  obtain ⟨cp, W0, W1, W2, hcp, hcm, hap, hc1, hc2, hrp⟩ := grow_run hg hbase hc hcs h1X hsrc hnc hbw i i (n + m) (Nat.le_refl _) (by omega) (by omega) (by omega) c (by omega) hroom hnm
  have HR := Aside0.mk (hrp (.slice (some ⟨g, 0, none⟩) n c) rfl)
  have hap' : ∀ ty, (Builtin.append_ #[33, 3] ty #[.slice (some ⟨g, 0, none⟩) i c, .int .i64 ((n : Int) + (m : Int) - (i : Int))]).run Try.prog w = .ok (.slice (some ⟨w.heap.size, 0, none⟩) (n + m) cp) W0 := hap
  have hw1 : IntKind.i64.wrap ((i : Int) + (m : Int)) = (i : Int) + (m : Int) := by rw [IntKind.wrap_i64]; omega
  have hb1 : (0 : Int) ≤ (i : Int) + (m : Int) := by omega
  have hin : i ≤ n := by omega
  have htn : ((i : Int) + (m : Int)).toNat = i + m := by omega
  have hz1 : ¬ ((m : Int) = 0) := by omega
  have hz2 : ¬ ((i : Int) = (n : Int)) := by omega
  have hb2 : ¬ (cp = i + m) := by omega
  have hb3 : (i : Int) ≤ (n : Int) + (m : Int) := by omega
  have hb4 : ¬ (cp = i) := by omega
  have hb5 : ¬ (c = i) := by omega
  unfold maxLen at hcm
  clear hrp hap hg h1X hcs hsrc hbase hbw
  go_enter Try.func61, Try.ntmps61
  go_wp2_with (first | (at_builtin; refine Lib.wpList_append_run _ rfl _ _ _ _ rfl _ _ rfl rfl _ _ (hap' _) ?_) | (with_reducible refine wpList_copy_run _ rfl _ _ 33 33 rfl _ _ rfl rfl (hc1 _) ?_))
  go_region_law (refine step_copy_run rfl _ _ 33 33 rfl _ _ (by simp [Act.eval, Act.put]) (by simp [Act.eval, Act.put]) (hc2 _ _ _) ?_)
  go_wp2
  go_ret
  exact ⟨_, rfl, HR.out⟩
end Go.Proofs.Ytmkojmjjlcfohaa.Rg
