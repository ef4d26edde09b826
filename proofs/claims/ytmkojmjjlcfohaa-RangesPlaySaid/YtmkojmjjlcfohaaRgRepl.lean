/- slices.Replace of spans, met by what it does to a row; no condition. -/
import Derived.Test.YtmkojmjjlcfohaaRgIns
set_option linter.unusedVariables false
set_option linter.unusedSimpArgs false
namespace Go.Proofs.Ytmkojmjjlcfohaa.Rg
open Go.RowKit Go.Proofs.YtmkojmjjlcfohaaW.PrintWords Go.Proofs.YtmkojmjjlcfohaaW.PrintLast Go.Proofs.YtmkojmjjlcfohaaW.PrintMore Go.Proofs.Ytmkojmjjlcfohaa.Rw
theorem one_zero : ∀ v ∈ (Value.agg #[.int .i64 0, .int .i64 0]).cells.toList, v.oneCell' = true := by
  intro v hv
  have hv' : v ∈ [Value.int .i64 0, .int .i64 0] := hv
  rcases List.mem_cons.1 hv' with rfl | hv'
  · rfl
  · rw [List.mem_singleton.1 hv']; rfl
theorem zeros_len (k : Nat) : (Builtin.zeroCells (Value.agg #[.int .i64 0, .int .i64 0]).cells k).toList.length = k * 2 := by
  rw [Array.length_toList, size_zeroCells]
  rfl
/-- clear over a row's end. -/
theorem clear_run {w : World} {g : Nat} {cur : Array Value} (hg : w.heap[g]? = some (.cells cur 39 (0, 0))) (o k dc : Nat) (ho : o * 2 + k * 2 ≤ cur.size) (ty : TypeId) :
    (Builtin.clear_ #[33] ty #[.slice (some ⟨g, o * 2, none⟩) k dc]).run Try.prog w = .ok (.tuple #[]) (w.setRow g (spl cur.toList (o * 2) (Builtin.zeroCells (Value.agg #[.int .i64 0, .int .i64 0]).cells k).toList).toArray) := by
  have h := run_clear_rowk (P := Try.prog) w 33 39 ty _ Try.underlying33 zeroS one_zero g (o * 2) k dc cur 39 hg ho
  rw [h]
  unfold spl
  rw [zeros_len]
  rfl
theorem clear_zero {w : World} (A : Option Addr) (k dc : Nat) (ty : TypeId) (hk : k = 0) : (Builtin.clear_ #[33] ty #[.slice A k dc]).run Try.prog w = .ok (.tuple #[]) w := by
  subst hk
  cases A <;> simp [Builtin.clear_, run_underlying Try.underlying33]
theorem take_spl {α : Type} (X : List α) (o k : Nat) (cs : List α) (h : k ≤ o) (hx : o ≤ X.length) : (spl X o cs).take k = X.take k := by
  unfold spl
  rw [List.append_assoc, List.take_append, List.take_take, Nat.min_eq_left h, List.length_take, Nat.min_eq_left hx, Nat.sub_eq_zero_of_le h, List.take_zero, List.append_nil]
theorem shrink_run {w : World} {base g n c : Nat} {cur : Array Value} {Av : Option Addr} {m vc : Nat} {V : List Value} (hg : w.heap[g]? = some (.cells cur 39 (0, 0))) (hbase : base ≤ g) (hc : c ≤ 9223372036854775807) (hcs : cur.size = c * 2) (h1X : ∀ v ∈ cur.toList.take (n * 2), v.oneCell' = true) (hsrc : SrcV w g 2 Av m vc V) (hnc : n ≤ c) (i j : Nat) (hij : i < j) (hj : j < n) (hm : i + m ≤ j) :
    ∃ W1 W2 W3, (∀ ty dl dc, m ≤ dl → (Builtin.copy_ #[33, 33] ty #[.slice (some ⟨g, i * 2, none⟩) dl dc, .slice Av m vc]).run Try.prog w = .ok (goInt m) W1) ∧
      (∀ ty dl dc sc, n - j ≤ dl → (Builtin.copy_ #[33, 33] ty #[.slice (some ⟨g, (i + m) * 2, none⟩) dl dc, .slice (some ⟨g, j * 2, none⟩) (n - j) sc]).run Try.prog W1.drew = .ok (goInt ((n - j : Nat) : Int)) W2) ∧
      (∀ ty dc, (Builtin.clear_ #[33] ty #[.slice (some ⟨g, (i + m + (n - j)) * 2, none⟩) (n - (i + m + (n - j))) dc]).run Try.prog W2 = .ok (.tuple #[]) W3) ∧
      (n = i + m + (n - j) → W3 = W2) ∧
      ∀ v : Value, v = (.slice (some ⟨g, 0, none⟩) n c) → Rp w W3 base 39 2 v (.slice (some ⟨g, 0, none⟩) (i + m + (n - j)) c) (i + m + (n - j)) (repl cur.toList (i * 2) (j * 2) (n * 2) V) := by
  have hX : cur.toList.length = cur.size := Array.length_toList
  have hVl := hsrc.len
  have hc63 : c ≤ maxLen := by unfold maxLen; omega
  have hcp := fun ty dl dc (hdl : m ≤ dl) => hsrc.copy 33 33 ty 39 Try.underlying33 sizeS g (i * 2) dl dc cur 39 hg hdl (by omega)
  have hsl := spl_length cur.toList (i * 2) V (by omega)
  obtain ⟨W1, hW1⟩ : ∃ W1, W1 = w.setRow g (spl cur.toList (i * 2) V).toArray := ⟨_, rfl⟩
  have hg1 : W1.drew.heap[g]? = some (.cells (spl cur.toList (i * 2) V).toArray 39 (0, 0)) := by
    show W1.heap[g]? = _
    rw [hW1]; exact setRow_heap _ g cur _ _ _ hg
  obtain ⟨cs, hcs'⟩ : ∃ cs, cs = (cur.toList.take (n * 2)).drop (j * 2) := ⟨_, rfl⟩
  have hdl : cs.length = (n - j) * 2 := by rw [hcs', List.length_drop, List.length_take]; omega
  obtain ⟨hsh, hsh2⟩ := repl_shrink cur.toList (i * 2) (j * 2) (n * 2) V (by omega) (by omega) (by omega)
  have hsl2 := spl_length (spl cur.toList (i * 2) V) ((i + m) * 2) cs (by rw [hsl, hdl]; omega)
  have hcp2 : ∀ ty dl dc sc, n - j ≤ dl → (Builtin.copy_ #[33, 33] ty #[.slice (some ⟨g, (i + m) * 2, none⟩) dl dc, .slice (some ⟨g, j * 2, none⟩) (n - j) sc]).run Try.prog W1.drew = .ok (goInt ((n - j : Nat) : Int)) (W1.drew.setRow g (spl (spl cur.toList (i * 2) V) ((i + m) * 2) cs).toArray) := fun ty dl dc sc hdl' =>
    copy_at W1.drew 33 33 ty 39 2 Try.underlying33 sizeS g ((i + m) * 2) _ dc g (j * 2) _ sc (n - j) _ _ 39 39 cs hg1 hg1 (by simp only [Nat.min_def]; split <;> omega) (by rw [hdl])
      (fun k v hk => by
        rw [hcs', ← hsh2, List.getElem?_drop, List.getElem?_take] at hk
        rw [← Array.getElem?_toList]
        split at hk
        · exact hk
        · cases hk) (fun v hv => h1X v (by rw [hcs'] at hv; exact List.mem_of_mem_drop hv)) (by rw [List.size_toArray]; show _ ≤ (spl cur.toList (i * 2) V).length; rw [hsl, hdl]; omega)
  obtain ⟨W2, hW2⟩ : ∃ W2, W2 = W1.drew.setRow g (spl (spl cur.toList (i * 2) V) ((i + m) * 2) cs).toArray := ⟨_, rfl⟩
  have hg2 : W2.heap[g]? = some (.cells (spl (spl cur.toList (i * 2) V) ((i + m) * 2) cs).toArray 39 (0, 0)) := by rw [hW2]; exact setRow_heap _ g _ _ _ _ hg1
  have hcl := fun ty dc => clear_run hg2 (i + m + (n - j)) (n - (i + m + (n - j))) dc (by rw [List.size_toArray, hsl2, hsl]; omega) ty
  refine ⟨W1, W2, _, fun ty dl dc h => by rw [hW1]; exact hcp ty dl dc h, fun ty dl dc sc h => by rw [hW2]; exact hcp2 ty dl dc sc h, hcl, fun hn => ?_, fun v hv => ?_⟩
  · have h0 : (Builtin.zeroCells (Value.agg #[.int .i64 0, .int .i64 0]).cells (n - (i + m + (n - j)))).toList = [] := List.eq_nil_of_length_eq_zero (by rw [zeros_len]; omega)
    rw [h0]
    have : (spl (spl (spl cur.toList (i * 2) V) ((i + m) * 2) cs).toArray.toList ((i + m + (n - j)) * 2) []).toArray = (spl (spl cur.toList (i * 2) V) ((i + m) * 2) cs).toArray := by simp [spl]
    rw [this, setRow_self W2 g _ _ _ hg2]
  · subst hv
    have e : W2.setRow g (spl (spl (spl cur.toList (i * 2) V) ((i + m) * 2) cs).toArray.toList ((i + m + (n - j)) * 2) (Builtin.zeroCells (Value.agg #[.int .i64 0, .int .i64 0]).cells (n - (i + m + (n - j)))).toList).toArray =
        w.drew.setRow g (spl (spl (spl cur.toList (i * 2) V) ((i + m) * 2) cs) ((i + m + (n - j)) * 2) (Builtin.zeroCells (Value.agg #[.int .i64 0, .int .i64 0]).cells (n - (i + m + (n - j)))).toList).toArray := by
      rw [hW2, setRow_setRow, hW1]
      have : ∀ (a : Array Value), (w.setRow g a).drew = w.drew.setRow g a := fun a => rfl
      rw [this, setRow_setRow]
    rw [e]
    refine rp_set (w := w) (W := w.drew) rfl rfl rfl rfl hg hbase ?_ (by omega) hc63 hcs.symm ?_
    · rw [spl_length _ _ _ (by rw [hsl2, hsl, zeros_len]; omega), hsl2, hsl, hX]
    · rw [take_spl _ _ _ _ (Nat.le_refl _) (by rw [hsl2, hsl]; omega), ← hsh, hcs']
      have e1 : (i + m + (n - j)) * 2 = i * 2 + V.length + (n * 2 - j * 2) := by omega
      have e2 : (i + m) * 2 = i * 2 + V.length := by omega
      rw [e1, e2]
set_option maxHeartbeats 1600000 in
set_option maxRecDepth 100000 in
/-- V fits into what is taken out. -/
theorem replace_shrink {w : World} {base g n c : Nat} {cur : Array Value} {Av : Option Addr} {m vc : Nat} {V : List Value} (hg : w.heap[g]? = some (.cells cur 39 (0, 0))) (hbase : base ≤ g) (hc : c ≤ 9223372036854775807) (hcs : cur.size = c * 2) (h1X : ∀ v ∈ cur.toList.take (n * 2), v.oneCell' = true) (hsrc : SrcV w g 2 Av m vc V) (hnc : n ≤ c) (i j : Nat) (hij : i < j) (hj : j < n) (hm : i + m ≤ j) :
    Calls Try.prog 42 #[.slice (some ⟨g, 0, none⟩) n c, .int .i64 i, .int .i64 j, .slice Av m vc] w fun e w' => ∃ v',
      e = .returned v' ∧ Rp w w' base 39 2 (.slice (some ⟨g, 0, none⟩) n c) v' (i + m + (n - j)) (repl cur.toList (i * 2) (j * 2) (n * 2) V) := by
  have hz1 : ¬ ((i : Int) = (j : Int)) := by omega
  have hz2 : ¬ ((j : Int) = (n : Int)) := by omega
  have hw1 : IntKind.i64.wrap ((i : Int) + (m : Int)) = (i : Int) + (m : Int) := by rw [IntKind.wrap_i64]; omega
  have hw2 : IntKind.i64.wrap ((i : Int) + (m : Int) + ((n - j : Nat) : Int)) = (i : Int) + (m : Int) + ((n - j : Nat) : Int) := by rw [IntKind.wrap_i64]; omega
  have hb1 : (0 : Int) ≤ (i : Int) + (m : Int) := by omega
  have htn : ((i : Int) + (m : Int)).toNat = i + m := by omega
  have hci : ¬ (c = i) := by omega
  have hcj : ¬ (c = j) := by omega
  have hcm : ¬ (c = i + m) := by omega
  have hle : (i : Int) + (m : Int) ≤ (i : Int) + (m : Int) + ((n - j : Nat) : Int) := by omega
  have hnj : ¬ (n - j = 0) := by omega
  have hjn : j ≤ n := by omega
  have HW := Aside0.mk (fun nq => shrink_run (w := w.drewN nq) hg hbase hc hcs h1X (hsrc.move (fun _ _ _ => rfl)) hnc i j hij hj hm)
  clear hg h1X hcs hsrc
  go_enter Try.func42, Try.ntmps42
  go_wp2_with fail
  go_quiet (fail)
  obtain ⟨W1, W2, W3, hc1, hc2, hc3, h32, hrp⟩ := HW.out nq
  have HR := Aside0.mk (hrp _ rfl)
  have H32 := Aside0.mk h32
  clear hrp h32
  go_wp2_with (with_reducible refine wpList_copy_run _ rfl _ _ 33 33 rfl _ _ rfl rfl (hc1 _ _ _ (by omega)) ?_)
  go_region_law (refine step_copy_run rfl _ _ 33 33 rfl _ _ (by simp [Act.eval, Act.put]) (by simp [Act.eval, Act.put]) (hc2 _ _ _ _ (by omega)) ?_)
  by_cases hct : c = i + m + (n - j)
  · have hc4 := fun ty A dc => clear_zero (w := W2) A (n - (i + m + (n - j))) dc ty (by omega)
    have hn3 := H32.out (by omega)
    rw [hn3] at HR
    clear hn3 H32 HW hc1 hc2 hc3
    go_wp2_with (with_reducible refine wpList_clear_run _ rfl _ 33 rfl _ rfl (hc4 _ _ _) ?_)
    go_ret
    exact ⟨_, rfl, by have h := HR.out.of_drewN; rw [hct] at h ⊢; exact h⟩
  · go_wp2_with (with_reducible refine wpList_clear_run _ rfl _ 33 rfl _ rfl (hc3 _ _) ?_)
    go_ret
    exact ⟨_, rfl, HR.out.of_drewN⟩
set_option maxHeartbeats 1600000 in
set_option maxRecDepth 100000 in
/-- Up to the end, with room. -/
theorem replace_end {w : World} {base g n c : Nat} {cur : Array Value} {Av : Option Addr} {m vc : Nat} {V : List Value} (hg : w.heap[g]? = some (.cells cur 39 (0, 0))) (hbase : base ≤ g) (hc : c ≤ 9223372036854775807) (hcs : cur.size = c * 2) (h1X : ∀ v ∈ cur.toList.take (n * 2), v.oneCell' = true) (hsrc : SrcV w g 2 Av m vc V) (hnc : n ≤ c) (i : Nat) (hij : i < n) (hroom : i + m ≤ c) :
    Calls Try.prog 42 #[.slice (some ⟨g, 0, none⟩) n c, .int .i64 i, .int .i64 n, .slice Av m vc] w fun e w' => ∃ v',
      e = .returned v' ∧ Rp w w' base 39 2 (.slice (some ⟨g, 0, none⟩) n c) v' (i + m) (repl cur.toList (i * 2) (n * 2) (n * 2) V) := by
  have hX : cur.toList.length = cur.size := Array.length_toList
  have hVl := hsrc.len
  have hc63 : c ≤ maxLen := by unfold maxLen; omega
  have hap := fun ty => hsrc.append_room 33 ty 39 Try.underlying33 sizeS g i c cur 39 hg hroom (by omega)
  have hsl := spl_length cur.toList (i * 2) V (by omega)
  obtain ⟨W1, hW1⟩ : ∃ W1, W1 = w.setRow g (spl cur.toList (i * 2) V).toArray := ⟨_, rfl⟩
  have hg1 : W1.heap[g]? = some (.cells (spl cur.toList (i * 2) V).toArray 39 (0, 0)) := by rw [hW1]; exact setRow_heap _ g cur _ _ _ hg
  have hrep : (spl cur.toList (i * 2) V).take ((i + m) * 2) = repl cur.toList (i * 2) (n * 2) (n * 2) V := by
    unfold spl repl
    have e0 : (cur.toList.take (n * 2)).drop (n * 2) = [] := List.drop_eq_nil_of_le (by rw [List.length_take]; omega)
    rw [e0, List.append_nil]
    exact List.take_left' (by rw [List.length_append, List.length_take]; omega)
  have hr1 : Rp w W1 base 39 2 (.slice (some ⟨g, 0, none⟩) n c) (.slice (some ⟨g, 0, none⟩) (i + m) c) (i + m) (repl cur.toList (i * 2) (n * 2) (n * 2) V) := by
    rw [hW1]
    exact rp_set (w := w) (W := w) rfl rfl rfl rfl hg hbase (by rw [hsl, hX]) hroom hc63 hcs.symm hrep
  have hz1 : ¬ ((i : Int) = (n : Int)) := by omega
  have hci : ¬ (c = i) := by omega
  rw [← hW1] at hap
  by_cases hlt : i + m < n
  · have hcl := fun ty dc => clear_run hg1 (i + m) (n - (i + m)) dc (by rw [List.size_toArray, hsl]; omega) ty
    obtain ⟨W2, hW2⟩ : ∃ W2, W2 = W1.setRow g (spl (spl cur.toList (i * 2) V).toArray.toList ((i + m) * 2) (Builtin.zeroCells (Value.agg #[.int .i64 0, .int .i64 0]).cells (n - (i + m))).toList).toArray := ⟨_, rfl⟩
    have hr2 : Rp w W2 base 39 2 (.slice (some ⟨g, 0, none⟩) n c) (.slice (some ⟨g, 0, none⟩) (i + m) c) (i + m) (repl cur.toList (i * 2) (n * 2) (n * 2) V) := by
      rw [hW2, hW1, setRow_setRow]
      refine rp_set (w := w) (W := w) rfl rfl rfl rfl hg hbase ?_ hroom hc63 hcs.symm ?_
      · rw [spl_length _ _ _ (by rw [hsl, zeros_len]; omega)]
        rw [hsl, hX]
      · show (spl (spl cur.toList (i * 2) V) _ _).take _ = _
        rw [take_spl _ _ _ _ (Nat.le_refl _) (by rw [hsl]; omega)]
        exact hrep
    rw [← hW2] at hcl
    have HR := Aside0.mk hr2
    have hcm : ¬ (c = i + m) := by omega
    have hl1 : (i : Int) + (m : Int) < (n : Int) := by omega
    clear hr1 hr2 hW1 hW2 hg1 hsl hX hVl hrep hg h1X hcs hsrc
    go_enter Try.func42, Try.ntmps42
    go_wp2_with (first | (at_builtin; refine Lib.wpList_append_run _ rfl _ _ _ _ rfl _ _ rfl rfl _ _ (hap _) ?_) | (with_reducible refine wpList_clear_run _ rfl _ 33 rfl _ rfl (hcl _ _) ?_))
    go_ret
    exact ⟨_, rfl, HR.out⟩
  · have HR := Aside0.mk hr1
    have hl1 : ¬ ((i : Int) + (m : Int) < (n : Int)) := by omega
    clear hr1 hW1 hg1 hsl hX hVl hrep hg h1X hcs hsrc
    go_enter Try.func42, Try.ntmps42
    go_wp2_with (at_builtin; refine Lib.wpList_append_run _ rfl _ _ _ _ rfl _ _ rfl rfl _ _ (hap _) ?_)
    go_ret
    exact ⟨_, rfl, HR.out⟩
set_option maxHeartbeats 1600000 in
set_option maxRecDepth 100000 in
/-- Up to the end, without room. -/
theorem replace_endgrow {w : World} {base g n c : Nat} {cur : Array Value} {Av : Option Addr} {m vc : Nat} {V : List Value} (hg : w.heap[g]? = some (.cells cur 39 (0, 0))) (hbase : base ≤ g) (hc : c ≤ 9223372036854775807) (hcs : cur.size = c * 2) (h1X : ∀ v ∈ cur.toList.take (n * 2), v.oneCell' = true) (hsrc : SrcV w g 2 Av m vc V) (hnc : n ≤ c) (hbw : base ≤ w.heap.size) (i : Nat) (hij : i < n) (hroom : c < i + m) (him : i + m ≤ 1099511627776) :
    Calls Try.prog 42 #[.slice (some ⟨g, 0, none⟩) n c, .int .i64 i, .int .i64 n, .slice Av m vc] w fun e w' => ∃ v',
      e = .returned v' ∧ Rp w w' base 39 2 (.slice (some ⟨g, 0, none⟩) n c) v' (i + m) (repl cur.toList (i * 2) (n * 2) (n * 2) V) := by
  have hX : cur.toList.length = cur.size := Array.length_toList
  have hVl := hsrc.len
  have hsrc0 := hsrc
  obtain ⟨bv, ov, bcur, tb, rfl, hne, hb, hV⟩ := hsrc.at_.resolve_left (fun h => by omega)
  obtain ⟨i0, hi, hz0, hz1, hz2⟩ := info_parts infoS
  have hlt : ∀ j v, V[j]? = some v → w.cell? ((⟨bv, ov, none⟩ : Addr).add j) = some v := fun j v hj => by rw [add_at, cell_of_row w bv _ bcur _ _ hb]; exact hV j v hj
  obtain ⟨v1, w1, hr, h1, h2⟩ := run_append_arg_grows (P := Try.prog) (w := w) 33 33 39 i0 _ 2 16 Try.underlying33 hi hz0 hz1 hz2 rfl (by decide) ⟨g, 0, none⟩ i c (cur.toList.take (i * 2)) (by rw [List.length_take]; omega)
    (fun k u hk => by
      rw [add_at, cell_of_row w g _ cur _ _ hg, Nat.zero_add, ← Array.getElem?_toList]
      rw [List.getElem?_take] at hk
      split at hk
      · exact hk
      · cases hk) ⟨bv, ov, none⟩ m vc V hVl hlt hroom (by unfold maxLen; omega) (by omega)
  have hap : ∀ ty, (Builtin.append_ #[33, 33] ty #[.slice (some ⟨g, 0, none⟩) i c, .slice (some ⟨bv, ov, none⟩) m vc]).run Try.prog w = .ok v1 w1 := fun ty => hr
  have e0 : (cur.toList.take (n * 2)).drop (n * 2) = [] := List.drop_eq_nil_of_le (by rw [List.length_take]; omega)
  obtain ⟨g', cap', he, hb', hh⟩ := h1.form (by omega)
  have hr1 : Rp w w1 base 39 2 (.slice (some ⟨g, 0, none⟩) n c) v1 (i + m) (repl cur.toList (i * 2) (n * 2) (n * 2) V) := by
    unfold repl
    rw [e0, List.append_nil]
    refine ⟨⟨h1.1, ?_⟩, ⟨h2.os, h2.tape, h2.output, h2.size, fun k hk _ => h2.block k hk (by simp)⟩, .inr ⟨g', by rw [he]; rfl, hb'⟩⟩
    rcases h1.2 with h | ⟨a, b, cc, q1, q2, q3⟩
    · exact .inl h
    · exact .inr ⟨a, b, cc, q1, Nat.le_trans hbw q2, q3⟩
  subst he
  have HR := Aside0.mk hr1
  have hz1' : ¬ ((i : Int) = (n : Int)) := by omega
  have hci : ¬ (c = i) := by omega
  have hl1 : ¬ ((i : Int) + (m : Int) < (n : Int)) := by omega
  clear hr1 hr h1 h2 e0 hlt hV hb hVl hX hg h1X hcs hsrc hsrc0 hi hz0 hz1 hz2 hh
  go_enter Try.func42, Try.ntmps42
  go_wp2_with (at_builtin; refine Lib.wpList_append_run _ rfl _ _ _ _ rfl _ _ rfl rfl _ _ (hap _) ?_)
  go_ret
  exact ⟨_, rfl, HR.out⟩
/-- What lies behind is moved on, then V is written. -/
theorem exp_run {w : World} {base g n c : Nat} {cur : Array Value} {Av : Option Addr} {m vc : Nat} {V : List Value} (hg : w.heap[g]? = some (.cells cur 39 (0, 0))) (hbase : base ≤ g) (hc : c ≤ 9223372036854775807) (hcs : cur.size = c * 2) (h1X : ∀ v ∈ cur.toList.take (n * 2), v.oneCell' = true) (hsrc : SrcV w g 2 Av m vc V) (hnc : n ≤ c) (i j : Nat) (hij : i ≤ j) (hj : j < n) (hroom : i + m + (n - j) ≤ c) :
    ∃ W1 W2, (∀ ty dl dc sc, n - j ≤ dl → (Builtin.copy_ #[33, 33] ty #[.slice (some ⟨g, (i + m) * 2, none⟩) dl dc, .slice (some ⟨g, j * 2, none⟩) (n - j) sc]).run Try.prog w.drew = .ok (goInt ((n - j : Nat) : Int)) W1) ∧
      (∀ ty dl dc, m ≤ dl → (Builtin.copy_ #[33, 33] ty #[.slice (some ⟨g, i * 2, none⟩) dl dc, .slice Av m vc]).run Try.prog W1 = .ok (goInt m) W2) ∧
      Rp w W2 base 39 2 (.slice (some ⟨g, 0, none⟩) n c) (.slice (some ⟨g, 0, none⟩) (i + m + (n - j)) c) (i + m + (n - j)) (repl cur.toList (i * 2) (j * 2) (n * 2) V) := by
  have hX : cur.toList.length = cur.size := Array.length_toList
  have hVl := hsrc.len
  have hc63 : c ≤ maxLen := by unfold maxLen; omega
  obtain ⟨cs, hcs'⟩ : ∃ cs, cs = (cur.toList.take (n * 2)).drop (j * 2) := ⟨_, rfl⟩
  have hdl : cs.length = (n - j) * 2 := by rw [hcs', List.length_drop, List.length_take]; omega
  have hg0 : w.drew.heap[g]? = some (.cells cur 39 (0, 0)) := hg
  have hsl := spl_length cur.toList ((i + m) * 2) cs (by rw [hdl]; omega)
  obtain ⟨W1, hW1⟩ : ∃ W1, W1 = w.drew.setRow g (spl cur.toList ((i + m) * 2) cs).toArray := ⟨_, rfl⟩
  have hg1 : W1.heap[g]? = some (.cells (spl cur.toList ((i + m) * 2) cs).toArray 39 (0, 0)) := by rw [hW1]; exact setRow_heap _ g cur _ _ _ hg0
  have hs1 : SrcV W1 g 2 Av m vc V := hsrc.move (fun k hk hne => by rw [hW1, setRow_heap_ne _ _ _ _ hne]; rfl)
  refine ⟨W1, W1.setRow g (spl (spl cur.toList ((i + m) * 2) cs) (i * 2) V).toArray, fun ty dl dc sc h => ?_, fun ty dl dc h => ?_, ?_⟩
  · rw [hW1]
    exact copy_at w.drew 33 33 ty 39 2 Try.underlying33 sizeS g ((i + m) * 2) _ dc g (j * 2) _ sc (n - j) _ _ 39 39 cs hg0 hg0 (by simp only [Nat.min_def]; split <;> omega) (by rw [hdl])
      (fun k v hk => by
        rw [hcs', List.getElem?_drop, List.getElem?_take] at hk
        rw [← Array.getElem?_toList]
        split at hk
        · exact hk
        · cases hk) (fun v hv => h1X v (by rw [hcs'] at hv; exact List.mem_of_mem_drop hv)) (by rw [hdl]; omega)
  · exact hs1.copy 33 33 ty 39 Try.underlying33 sizeS g (i * 2) dl dc _ 39 hg1 h (by rw [List.size_toArray]; show _ ≤ (spl cur.toList ((i + m) * 2) cs).length; rw [hsl]; omega)
  · rw [hW1, setRow_setRow]
    refine rp_set (w := w) (W := w.drew) rfl rfl rfl rfl hg hbase ?_ hroom hc63 hcs.symm ?_
    · rw [spl_length _ _ _ (by rw [hsl]; omega), hsl, hX]
    · have h := repl_shift cur.toList (i * 2) (j * 2) (n * 2) V (by omega) (by omega) (by omega) (by omega)
      rw [← h, hcs']
      have e1 : (i + m + (n - j)) * 2 = i * 2 + V.length + (n * 2 - j * 2) := by omega
      have e2 : (i + m) * 2 = i * 2 + V.length := by omega
      rw [e1, e2]
set_option maxHeartbeats 1600000 in
set_option maxRecDepth 100000 in
/-- V is longer than what is taken out; there is room. -/
theorem replace_exp {w : World} {base g n c : Nat} {cur : Array Value} {Av : Option Addr} {m vc : Nat} {V : List Value} (hg : w.heap[g]? = some (.cells cur 39 (0, 0))) (hbase : base ≤ g) (hc : c ≤ 9223372036854775807) (hcs : cur.size = c * 2) (h1X : ∀ v ∈ cur.toList.take (n * 2), v.oneCell' = true) (hsrc : SrcV w g 2 Av m vc V) (hnc : n ≤ c) (i j : Nat) (hij : i < j) (hj : j < n) (hm : j < i + m) (hroom : i + m + (n - j) ≤ c) :
    Calls Try.prog 42 #[.slice (some ⟨g, 0, none⟩) n c, .int .i64 i, .int .i64 j, .slice Av m vc] w fun e w' => ∃ v',
      e = .returned v' ∧ Rp w w' base 39 2 (.slice (some ⟨g, 0, none⟩) n c) v' (i + m + (n - j)) (repl cur.toList (i * 2) (j * 2) (n * 2) V) := by
  have HW := Aside0.mk (fun nq => exp_run (w := w.drewN nq) hg hbase hc hcs h1X (hsrc.move (fun _ _ _ => rfl)) hnc i j (by omega) hj hroom)
  obtain ⟨bv, ov, bcur, tb, rfl, hne, hb, hV⟩ := hsrc.at_.resolve_left (fun h => by omega)
  have hsz : bcur.size ≠ 0 := by
    have hl := hsrc.len
    obtain ⟨x, hx⟩ : ∃ x, V[0]? = some x := ⟨_, List.getElem?_eq_getElem (by omega)⟩
    have := (Array.getElem?_eq_some_iff.1 (hV 0 x hx)).1
    omega
  have hov : ∀ nq lb cb, (callFunc 62 #[.slice (some ⟨g, (i + m) * 2, none⟩) lb cb, .slice (some ⟨bv, ov, none⟩) m vc]).run Try.prog (w.drewN nq) = .ok (.value (.bool false)) (w.drewN nq) := fun nq lb cb =>
    over_no (w.drewN nq) g ((i + m) * 2) bv ov lb cb m vc (Ne.symm hne) cur bcur 39 tb hg hb hsz
  have hz1 : ¬ ((i : Int) = (j : Int)) := by omega
  have hz2 : ¬ ((j : Int) = (n : Int)) := by omega
  have hw1 : IntKind.i64.wrap ((i : Int) + (m : Int)) = (i : Int) + (m : Int) := by rw [IntKind.wrap_i64]; omega
  have hw2 : IntKind.i64.wrap ((i : Int) + (m : Int) + ((n - j : Nat) : Int)) = (i : Int) + (m : Int) + ((n - j : Nat) : Int) := by rw [IntKind.wrap_i64]; omega
  have hb1 : (0 : Int) ≤ (i : Int) + (m : Int) := by omega
  have htn : ((i : Int) + (m : Int)).toNat = i + m := by omega
  have hci : ¬ (c = i) := by omega
  have hcj : ¬ (c = j) := by omega
  have hle : (i : Int) + (m : Int) ≤ (i : Int) + (m : Int) + ((n - j : Nat) : Int) := by omega
  have hnj : ¬ (n - j = 0) := by omega
  have hjn : j ≤ n := by omega
  have hcm : ¬ (c = i + m) := by omega
  have hnle : ¬ ((i : Int) + (m : Int) ≤ (j : Int)) := by omega
  clear hg h1X hcs hsrc hV hb hne hsz
  go_enter Try.func42, Try.ntmps42
  go_wp2_with fail
  go_quiet (fail)
  obtain ⟨W1, W2, hc1, hc2, hrp⟩ := HW.out nq
  have HR := Aside0.mk hrp
  have hc1' : ∀ ty dl dc sc, n - j ≤ dl → (Builtin.copy_ #[33, 33] ty #[.slice (some ⟨g, (i + m) * 2, none⟩) dl dc, .slice (some ⟨g, j * 2, none⟩) (n - j) sc]).run Try.prog (w.drewN (nq + 1)) = .ok (goInt ((n - j : Nat) : Int)) W1 := hc1
  clear hrp HW hc1
  go_wp2_with (simp only [hov])
  go_region_law (refine step_copy_run rfl _ _ 33 33 rfl _ _ (by simp [Act.eval, Act.put]) (by simp [Act.eval, Act.put]) (hc1' _ _ _ _ (by omega)) ?_)
  go_wp2_with (with_reducible refine wpList_copy_run _ rfl _ _ 33 33 rfl _ _ rfl rfl (hc2 _ _ _ (by omega)) ?_)
  go_ret
  exact ⟨_, rfl, HR.out.of_drewN⟩
set_option maxHeartbeats 1600000 in
set_option maxRecDepth 100000 in
/-- There is no room. -/
theorem replace_grow {w : World} {base g n c : Nat} {cur : Array Value} {Av : Option Addr} {m vc : Nat} {V : List Value} (hg : w.heap[g]? = some (.cells cur 39 (0, 0))) (hbase : base ≤ g) (hc : c ≤ 9223372036854775807) (hcs : cur.size = c * 2) (h1X : ∀ v ∈ cur.toList.take (n * 2), v.oneCell' = true) (hsrc : SrcV w g 2 Av m vc V) (hnc : n ≤ c) (hbw : base ≤ w.heap.size) (i j : Nat) (hij : i < j) (hj : j < n) (hroom : c < i + m + (n - j)) (hN : i + m + (n - j) ≤ 1099511627776) :
    Calls Try.prog 42 #[.slice (some ⟨g, 0, none⟩) n c, .int .i64 i, .int .i64 j, .slice Av m vc] w fun e w' => ∃ v',
      e = .returned v' ∧ Rp w w' base 39 2 (.slice (some ⟨g, 0, none⟩) n c) v' (i + m + (n - j)) (repl cur.toList (i * 2) (j * 2) (n * 2) V) := by
  have HW := Aside0.mk (fun nq => grow_run (w := w.drewN nq) hg hbase hc hcs h1X (hsrc.move (fun _ _ _ => rfl)) hnc hbw i j (i + m + (n - j)) (by omega) (by omega) rfl (by omega) c (by omega) hroom hN)
  have hz1 : ¬ ((i : Int) = (j : Int)) := by omega
  have hz2 : ¬ ((j : Int) = (n : Int)) := by omega
  have hw1 : IntKind.i64.wrap ((i : Int) + (m : Int)) = (i : Int) + (m : Int) := by rw [IntKind.wrap_i64]; omega
  have hw2 : IntKind.i64.wrap ((i : Int) + (m : Int) + ((n - j : Nat) : Int)) = (i : Int) + (m : Int) + ((n - j : Nat) : Int) := by rw [IntKind.wrap_i64]; omega
  have hb1 : (0 : Int) ≤ (i : Int) + (m : Int) := by omega
  have htn : ((i : Int) + (m : Int)).toNat = i + m := by omega
  have hci : ¬ (c = i) := by omega
  have hcj : ¬ (c = j) := by omega
  have hle : (i : Int) + (m : Int) ≤ (i : Int) + (m : Int) + ((n - j : Nat) : Int) := by omega
  have hnj : ¬ (n - j = 0) := by omega
  have hjn : j ≤ n := by omega
  clear hg h1X hcs hsrc
  go_enter Try.func42, Try.ntmps42
  go_wp2_with fail
  go_quiet (fail)
  obtain ⟨cp, W0, W1, W2, hcp, hcpm, hap, hc1, hc2, hrp⟩ := HW.out nq
  have HR := Aside0.mk (hrp (.slice (some ⟨g, 0, none⟩) n c) rfl)
  have hap' : ∀ ty, (Builtin.append_ #[33, 3] ty #[.slice (some ⟨g, 0, none⟩) i c, .int .i64 ((i : Int) + (m : Int) + ((n - j : Nat) : Int) - (i : Int))]).run Try.prog (w.drewN nq) = .ok (.slice (some ⟨w.heap.size, 0, none⟩) (i + m + (n - j)) cp) W0 := fun ty => by
    have h := hap ty
    rw [show (((i + m + (n - j) : Nat) : Int) - (i : Int)) = (i : Int) + (m : Int) + ((n - j : Nat) : Int) - (i : Int) by omega] at h
    exact h
  have hb2 : ¬ (cp = i + m) := by omega
  have hb4 : ¬ (cp = i) := by omega
  unfold maxLen at hcpm
  clear hrp HW hap
  have hc1' : ∀ ty, (Builtin.copy_ #[33, 33] ty #[.slice (some ⟨w.heap.size, i * 2, none⟩) (i + m + (n - j) - i) (cp - i), .slice Av m vc]).run Try.prog W0 = .ok (goInt m) W1 := hc1
  have hc2' : ∀ ty dc sc, (Builtin.copy_ #[33, 33] ty #[.slice (some ⟨w.heap.size, (i + m) * 2, none⟩) (n - j) dc, .slice (some ⟨g, j * 2, none⟩) (n - j) sc]).run Try.prog W1.drew = .ok (goInt ((n - j : Nat) : Int)) W2 := fun ty dc sc => by
    have h := hc2 ty dc sc
    rw [show i + m + (n - j) - (i + m) = n - j by omega] at h
    exact h
  clear hc1 hc2
  go_wp2_with (first | (at_builtin; refine Lib.wpList_append_run _ rfl _ _ _ _ rfl _ _ rfl rfl _ _ (hap' _) ?_) | (with_reducible refine wpList_copy_run _ rfl _ _ 33 33 rfl _ _ rfl rfl (hc1' _) ?_))
  go_region_law (refine step_copy_run rfl _ _ 33 33 rfl _ _ (by simp [Act.eval, Act.put]) (by simp [Act.eval, Act.put]) (hc2' _ _ _) ?_)
  go_wp2
  go_ret
  exact ⟨_, rfl, HR.out.of_drewN⟩
/-- slices.Insert, whatever the road. -/
theorem insert_any {w : World} {base g n : Nat} {v : Value} {xs : List Value} {Av : Option Addr} {m vc : Nat} {V : List Value} (hown : w.ownsRow base 39 2 v n xs) (h1x : ∀ v ∈ xs, v.oneCell' = true) (hbw : base ≤ w.heap.size) (hgv : ∀ k, v.ownBlock = some k → k = g)
    (hsrc : SrcV w g 2 Av m vc V) (i : Nat) (hi : i ≤ n) (hnm : n + m ≤ 1099511627776) (h0 : m = 0 → Av = none ∧ vc = 0) :
    Calls Try.prog 61 #[v, .int .i64 i, .slice Av m vc] w fun e w' => ∃ v', e = .returned v' ∧ Rp w w' base 39 2 v v' (n + m) (xs.take (i * 2) ++ V ++ xs.drop (i * 2)) := by
  by_cases hm : m = 0
  · subst hm
    obtain ⟨rfl, rfl⟩ := h0 rfl
    have hV : V = [] := List.eq_nil_of_length_eq_zero (by rw [hsrc.len, Nat.zero_mul])
    subst hV
    refine (insert_none hown i hi).mono ?_
    rintro e w' ⟨rfl, rfl⟩
    exact ⟨_, rfl, by rw [List.append_nil, List.take_append_drop]; exact ⟨hown, ⟨rfl, rfl, rfl, Nat.le_refl _, fun _ _ _ => rfl⟩, .inl rfl⟩⟩
  · by_cases hin : i = n
    · subst hin
      refine (insert_end hown hbw hsrc (by omega) hnm).mono ?_
      rintro e w' ⟨v', rfl, h⟩
      have e1 : xs.take (i * 2) = xs := List.take_of_length_le (by rw [hown.1]; exact Nat.le_refl _)
      have e2 : xs.drop (i * 2) = [] := List.drop_eq_nil_of_le (by rw [hown.1]; exact Nat.le_refl _)
      exact ⟨_, rfl, by rw [e1, e2, List.append_nil]; exact h⟩
    · rcases hown.2 with ⟨hv, hn⟩ | ⟨g', c, cur, rfl, hb, hg, hnc, hcm, hcs, hx⟩
      · omega
      · obtain rfl := hgv g' rfl
        have hc : c ≤ 9223372036854775807 := by unfold maxLen at hcm; omega
        have hX : cur.toList.length = cur.size := Array.length_toList
        have hrp : repl cur.toList (i * 2) (i * 2) (n * 2) V = xs.take (i * 2) ++ V ++ xs.drop (i * 2) := by
          unfold repl
          rw [← hx, List.take_take, Nat.min_eq_left (by omega)]
        rw [← hrp]
        by_cases hr : n + m ≤ c
        · refine (insert_shift hg hb hc hcs (by rw [hx]; exact h1x) hsrc i (by omega) (by omega) hr).mono ?_
          rintro e w' ⟨rfl, h⟩
          exact ⟨_, rfl, h⟩
        · exact insert_grow hg hb hc hcs (by rw [hx]; exact h1x) hsrc hnc hbw i (by omega) (by omega) (by omega) hnm
set_option maxHeartbeats 1600000 in
set_option maxRecDepth 100000 in
/-- From i to i: Insert. -/
theorem replace_ins {w : World} {base n : Nat} {v : Value} {xs : List Value} {Av : Option Addr} {m vc : Nat} {Q : Ending → World → Prop} (hown : w.ownsRow base 39 2 v n xs) (i : Nat) (hi : i ≤ n)
    (hins : Calls Try.prog 61 #[v, .int .i64 i, .slice Av m vc] w fun e w' => ∃ v', e = .returned v' ∧ Q (.returned v') w') :
    Calls Try.prog 42 #[v, .int .i64 i, .int .i64 i, .slice Av m vc] w fun e w' => ∃ v', e = .returned v' ∧ Q (.returned v') w' := by
  have hvs := hown.2
  have HI := Aside0.mk hins
  clear hown hins
  have hii : ((i : Int) == (i : Int)) = true := beq_self_eq_true _
  rcases hvs with ⟨rfl, rfl⟩ | ⟨gg, cap, cur, rfl, _, _, hnc, hcm, _⟩
  · obtain rfl : i = 0 := by omega
    go_enter Try.func42, Try.ntmps42
    go_wp2_with (go_at_call 61; refine HI.out.mono ?_; rintro e w' ⟨v', rfl, hq⟩; have HQ := Aside0.mk hq; clear hq)
    go_ret
    exact ⟨_, rfl, HQ.out⟩
  · unfold maxLen at hcm
    by_cases hci : cap = i
    · obtain rfl : n = i := by omega
      subst hci
      go_enter Try.func42, Try.ntmps42
      go_wp2_with (go_at_call 61; refine HI.out.mono ?_; rintro e w' ⟨v', rfl, hq⟩; have HQ := Aside0.mk hq; clear hq)
      go_ret
      exact ⟨_, rfl, HQ.out⟩
    · go_enter Try.func42, Try.ntmps42
      go_wp2_with (go_at_call 61; refine HI.out.mono ?_; rintro e w' ⟨v', rfl, hq⟩; have HQ := Aside0.mk hq; clear hq)
      go_ret
      exact ⟨_, rfl, HQ.out⟩
/-- slices.Replace, whatever the road. -/
theorem replace_any {w : World} {base g n : Nat} {v : Value} {xs : List Value} {Av : Option Addr} {m vc : Nat} {V : List Value} (hown : w.ownsRow base 39 2 v n xs) (h1x : ∀ v ∈ xs, v.oneCell' = true) (hbw : base ≤ w.heap.size) (hgv : ∀ k, v.ownBlock = some k → k = g)
    (hsrc : SrcV w g 2 Av m vc V) (i j : Nat) (hij : i ≤ j) (hj : j ≤ n) (hnm : n + m ≤ 1099511627776) (h0 : m = 0 → Av = none ∧ vc = 0) :
    Calls Try.prog 42 #[v, .int .i64 i, .int .i64 j, .slice Av m vc] w fun e w' => ∃ v', e = .returned v' ∧ Rp w w' base 39 2 v v' (i + m + (n - j)) (xs.take (i * 2) ++ V ++ xs.drop (j * 2)) := by
  by_cases he : i = j
  · subst he
    have e1 : i + m + (n - i) = n + m := by omega
    rw [e1]
    exact replace_ins (Q := fun e w' => ∃ v', e = .returned v' ∧ Rp w w' base 39 2 v v' (n + m) (xs.take (i * 2) ++ V ++ xs.drop (i * 2))) hown i hj
      ((insert_any hown h1x hbw hgv hsrc i hj hnm h0).mono (by rintro e w' ⟨v', rfl, h⟩; exact ⟨_, rfl, _, rfl, h⟩)) |>.mono (by
        rintro e w' ⟨v', rfl, v2, hv, h⟩
        injection hv with hv
        subst hv
        exact ⟨_, rfl, h⟩)
  · rcases hown.2 with ⟨hv, hn⟩ | ⟨g', c, cur, rfl, hb, hg, hnc, hcm, hcs, hx⟩
    · omega
    · obtain rfl := hgv g' rfl
      have hc : c ≤ 9223372036854775807 := by unfold maxLen at hcm; omega
      have hX : cur.toList.length = cur.size := Array.length_toList
      have hrp : repl cur.toList (i * 2) (j * 2) (n * 2) V = xs.take (i * 2) ++ V ++ xs.drop (j * 2) := by
        unfold repl
        rw [← hx, List.take_take, Nat.min_eq_left (by omega)]
      rw [← hrp]
      have h1X : ∀ v ∈ cur.toList.take (n * 2), v.oneCell' = true := by rw [hx]; exact h1x
      by_cases hjn : j = n
      · subst hjn
        have e1 : i + m + (j - j) = i + m := by omega
        rw [e1]
        by_cases hr : i + m ≤ c
        · exact replace_end hg hb hc hcs h1X hsrc hnc i (by omega) hr
        · exact replace_endgrow hg hb hc hcs h1X hsrc hnc hbw i (by omega) (by omega) (by omega)
      · by_cases hm : i + m ≤ j
        · exact replace_shrink hg hb hc hcs h1X hsrc hnc i j (by omega) (by omega) hm
        · by_cases hr : i + m + (n - j) ≤ c
          · exact replace_exp hg hb hc hcs h1X hsrc hnc i j (by omega) (by omega) (by omega) hr
          · exact replace_grow hg hb hc hcs h1X hsrc hnc hbw i j (by omega) (by omega) (by omega) (by omega)
end Go.Proofs.Ytmkojmjjlcfohaa.Rg
