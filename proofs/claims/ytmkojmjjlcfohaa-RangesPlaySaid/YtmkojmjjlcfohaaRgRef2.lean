/- The document's set (layer 5): its methods; no condition. -/
import Derived.Test.YtmkojmjjlcfohaaRgRef1
import Derived.Test.YtmkojmjjlcfohaaRgTwo
set_option linter.unusedVariables false
set_option linter.unusedSimpArgs false
namespace Go.Proofs.Ytmkojmjjlcfohaa.Rg
open Go.RowKit Go.Shelf Go.Proofs.YtmkojmjjlcfohaaW.PrintWords Go.Proofs.YtmkojmjjlcfohaaW.PrintLast Go.Proofs.YtmkojmjjlcfohaaW.PrintMore Go.Proofs.Ytmkojmjjlcfohaa.Rw
attribute [local go_sem] Oper.semAt_some
/-- The document's set, in block g. -/
structure RefAt (w : World) (base g : Nat) (v : Value) (L : List Sp) : Prop where
  hg : base ≤ g
  blk : w.heap[g]? = some (.cells #[v] 68 (0, 0))
  row : w.ownsRow base 39 2 v L.length (cells L)
  ok : Ok L
  few : L.length ≤ 65536
section
variable {w w1 : World} {base g : Nat} {v : Value} {L : List Sp}
theorem RefAt.c0 (h : RefAt w base g v L) : w.cell? ⟨g, 0, none⟩ = some v := by rw [cell_of_row w g _ _ _ _ h.blk]; rfl
theorem RefAt.fz (h : RefAt w base g v L) : w.frozen? ⟨g, 0, none⟩ = false := Boxed.frozen (t := 68) h.blk
theorem RefAt.lt (h : RefAt w base g v L) : g < w.heap.size := (Array.getElem?_eq_some_iff.1 h.blk).1
theorem RefAt.row_lt (h : RefAt w base g v L) (k : Nat) (hk : v.ownBlock = some k) : k < w.heap.size := by
  obtain ⟨_, cs, hc⟩ := own_typed h.row k hk
  exact (Array.getElem?_eq_some_iff.1 hc).1
theorem RefAt.row_ne (h : RefAt w base g v L) (k : Nat) (hk : v.ownBlock = some k) : k ≠ g := by
  obtain ⟨_, cs, hc⟩ := own_typed h.row k hk
  rintro rfl
  rw [h.blk] at hc
  injection hc with hc
  injection hc with _ hc
  exact absurd hc (by decide)
theorem RefAt.move (h : RefAt w base g v L) (hg : w1.heap[g]? = w.heap[g]?) (hv : ∀ k, v.ownBlock = some k → w1.heap[k]? = w.heap[k]?) : RefAt w1 base g v L := by
  refine ⟨h.hg, hg.trans h.blk, ⟨h.row.1, ?_⟩, h.ok, h.few⟩
  rcases h.row.2 with h0 | ⟨g', c, cur, rfl, hb, hgg, r⟩
  · exact .inl h0
  · exact .inr ⟨g', c, cur, rfl, hb, (hv g' rfl).trans hgg, r⟩
theorem RefAt.below (h : RefAt w base g v L) (hb : Below w.heap.size w w1) : RefAt w1 base g v L := h.move (hb.block _ h.lt) (fun k hk => hb.block _ (h.row_lt k hk))
theorem RefAt.mono {b' : Nat} (h : RefAt w base g v L) (hb : b' ≤ base) : RefAt w b' g v L := by
  refine ⟨Nat.le_trans hb h.hg, h.blk, ⟨h.row.1, ?_⟩, h.ok, h.few⟩
  rcases h.row.2 with h0 | ⟨g', c, cur, rfl, hb', hgg, r⟩
  · exact .inl h0
  · exact .inr ⟨g', c, cur, rfl, Nat.le_trans hb hb', hgg, r⟩
end
variable {w : World} {base g : Nat} {v : Value} {L : List Sp}
theorem hasL_take (n : Int) (k : Nat) (x : Sp) (hx : L[k]? = some x) : hasL (L.take (k + 1)) n = (hasL (L.take k) n || (decide (x.1 ≤ n) && decide (n ≤ x.2))) := by
  rw [take_snoc hx]
  unfold hasL
  rw [List.any_append]
  simp
theorem gapR_take (f : Int) (k : Nat) (x : Sp) (hx : L[k]? = some x) : gapR (L.take (k + 1)) f = if x.1 ≤ gapR (L.take k) f ∧ gapR (L.take k) f ≤ x.2 then x.2 + 1 else gapR (L.take k) f := by
  rw [take_snoc hx]
  unfold gapR
  rw [List.foldl_append]
  rfl
def HasRel (w : World) (L : List Sp) (n : Int) (i : Value) (W : World) : Prop := ∃ k : Nat, k ≤ L.length ∧ i = .int .i64 k ∧ w = W ∧ hasL (L.take k) n = false
set_option maxHeartbeats 800000 in
theorem rhas_s (h : RefAt w base g v L) (n : Int) : Calls Try.prog 54 #[.pointer (some ⟨g, 0, none⟩), .int .i64 n] w fun e w' => e = .returned (.bool (hasL L n)) ∧ w = w' := by
  obtain ⟨A, c, rfl, hc, hnc, _⟩ := row_form h.row
  have c0 := h.c0
  have H := Aside0.mk h
  have hfew := h.few
  clear h
  go_enter Try.func54, Try.ntmps54
  go_wp2
  go_loopw [5] (fun i W => HasRel w L n i W) (fun i _ => L.length - (intOf i).toNat)
  case atStart => exact ⟨0, Nat.zero_le _, rfl, rfl, rfl⟩
  case round =>
    obtain ⟨k, hk, rfl, rfl, hno⟩ := hrel
    have HN := Aside0.mk hno
    clear hno
    by_cases hlt : k < L.length
    · obtain ⟨x, hx⟩ : ∃ x, L[k]? = some x := ⟨_, List.getElem?_eq_getElem hlt⟩
      obtain ⟨g', c', hv, _, _, a0, a1⟩ := row_at H.out.row k x hx
      injection hv with hv1 _ hv2
      subst hv1; subst hv2
      have HX := Aside0.mk (hasL_take n k x hx)
      have HHH : Aside0 (hasL (L.take (k + 1)) n = true → hasL L n = true) := ⟨fun hh => by
        rw [hasL_mem] at hh ⊢
        obtain ⟨y, hy, h1⟩ := hh
        exact ⟨y, List.mem_of_mem_take hy, h1⟩⟩
      clear hx
      by_cases d1 : x.1 ≤ n
      · by_cases d2 : n ≤ x.2
        · go_wp2
          go_ret
          exact ⟨by rw [HHH.out (by rw [HX.out]; simp [d1, d2])]; rfl, rfl⟩
        · have d3 : x.2 < n := by omega
          go_wp2
          exact ⟨⟨k + 1, by omega, by simp, rfl, by rw [HX.out, HN.out]; simp; omega⟩, by simp [intOf]; omega⟩
      · have d3 : n < x.1 := by omega
        go_wp2
        exact ⟨⟨k + 1, by omega, by simp, rfl, by rw [HX.out, HN.out]; simp; omega⟩, by simp [intOf]; omega⟩
    · obtain rfl : k = L.length := by omega
      go_wp2
      go_ret
      have := HN.out
      rw [List.take_length] at this
      exact ⟨by rw [this]; rfl, rfl⟩
def GapRel (w : World) (L : List Sp) (f0 : Int) (f i : Value) (W : World) : Prop := ∃ (k : Nat) (y : Int), k ≤ L.length ∧ i = .int .i64 k ∧ f = .int .i64 y ∧ y = gapR (L.take k) f0 ∧ w = W ∧ 0 ≤ y ∧ y ≤ 9223372036854775807
theorem gap_end (n y : Int) (ho : Ok L) (h : y = gapR L (max n 0)) : gapL L n = if y > 4611686018427387903 then -1 else y := by
  rw [gapL_is L ho, h]
set_option maxHeartbeats 1600000 in
theorem rgap_s (h : RefAt w base g v L) (n : Int) (hn1 : n ≤ 9223372036854775807) : Calls Try.prog 55 #[.pointer (some ⟨g, 0, none⟩), .int .i64 n] w fun e w' => e = .returned (.int .i64 (gapL L n)) ∧ w = w' := by
  obtain ⟨A, c, rfl, hc, hnc, _⟩ := row_form h.row
  have c0 := h.c0
  have H := Aside0.mk h
  have hfew := h.few
  have HE := Aside0.mk (fun y => gap_end (L := L) n y h.ok)
  have HO := Aside0.mk h.ok
  obtain ⟨f0, hf0⟩ : ∃ f0, f0 = max n 0 := ⟨_, rfl⟩
  rw [← hf0] at HE
  clear h
  by_cases hn : n < 0
  · obtain rfl : f0 = 0 := by omega
    clear hf0
    go_enter Try.func55, Try.ntmps55
    go_wp2
    go_loopw [1, 5] (fun f i W => GapRel w L 0 f i W) (fun _ i _ => L.length - (intOf i).toNat)
    case atStart => exact ⟨0, 0, Nat.zero_le _, rfl, rfl, rfl, rfl, by omega, by omega⟩
    case round =>
      obtain ⟨k, y, hk, rfl, rfl, hy, rfl, hy0, hy1⟩ := hrel
      have HY := Aside0.mk hy
      clear hy
      by_cases hlt : k < L.length
      · obtain ⟨x, hx⟩ : ∃ x, L[k]? = some x := ⟨_, List.getElem?_eq_getElem hlt⟩
        obtain ⟨g', c', hv, _, _, a0, a1⟩ := row_at H.out.row k x hx
        injection hv with hv1 _ hv2
        subst hv1; subst hv2
        have hxo := HO.out.2 x (List.mem_of_getElem? hx)
        have x0 := hxo.1
        have x1 := hxo.2.1
        have x2 := hxo.2.2
        have HX := Aside0.mk (gapR_take 0 k x hx)
        clear hx hxo
        by_cases d1 : x.1 ≤ y
        · by_cases d2 : y ≤ x.2
          · go_wp2
            exact ⟨⟨k + 1, x.2 + 1, by omega, by simp, rfl, by rw [HX.out, ← HY.out, if_pos ⟨d1, d2⟩], rfl, by omega, by omega⟩, by simp [intOf]; omega⟩
          · have d3 : x.2 < y := by omega
            go_wp2
            exact ⟨⟨k + 1, y, by omega, by simp, rfl, by rw [HX.out, ← HY.out, if_neg (by omega)], rfl, by omega, by omega⟩, by simp [intOf]; omega⟩
        · have d3 : y < x.1 := by omega
          go_wp2
          exact ⟨⟨k + 1, y, by omega, by simp, rfl, by rw [HX.out, ← HY.out, if_neg (by omega)], rfl, by omega, by omega⟩, by simp [intOf]; omega⟩
      · obtain rfl : k = L.length := by omega
        have hq := HE.out y (by have := HY.out; rwa [List.take_length] at this)
        have HQ := Aside0.mk hq
        clear hq
        by_cases d : y > 4611686018427387903
        · go_wp2
          go_ret
          exact ⟨by rw [HQ.out, if_pos d]; rfl, rfl⟩
        · have d' : y ≤ 4611686018427387903 := by omega
          clear d
          go_wp2
          go_ret
          exact ⟨by rw [HQ.out, if_neg (show ¬ y > 4611686018427387903 by omega)]; rfl, rfl⟩
  · obtain rfl : f0 = n := by omega
    clear hf0
    go_enter Try.func55, Try.ntmps55
    go_wp2
    go_loopw [1, 5] (fun f i W => GapRel w L f0 f i W) (fun _ i _ => L.length - (intOf i).toNat)
    case atStart => exact ⟨0, f0, Nat.zero_le _, rfl, rfl, rfl, rfl, by omega, by omega⟩
    case round =>
      obtain ⟨k, y, hk, rfl, rfl, hy, rfl, hy0, hy1⟩ := hrel
      have HY := Aside0.mk hy
      clear hy
      by_cases hlt : k < L.length
      · obtain ⟨x, hx⟩ : ∃ x, L[k]? = some x := ⟨_, List.getElem?_eq_getElem hlt⟩
        obtain ⟨g', c', hv, _, _, a0, a1⟩ := row_at H.out.row k x hx
        injection hv with hv1 _ hv2
        subst hv1; subst hv2
        have hxo := HO.out.2 x (List.mem_of_getElem? hx)
        have x0 := hxo.1
        have x1 := hxo.2.1
        have x2 := hxo.2.2
        have HX := Aside0.mk (gapR_take f0 k x hx)
        clear hx hxo
        by_cases d1 : x.1 ≤ y
        · by_cases d2 : y ≤ x.2
          · go_wp2
            exact ⟨⟨k + 1, x.2 + 1, by omega, by simp, rfl, by rw [HX.out, ← HY.out, if_pos ⟨d1, d2⟩], rfl, by omega, by omega⟩, by simp [intOf]; omega⟩
          · have d3 : x.2 < y := by omega
            go_wp2
            exact ⟨⟨k + 1, y, by omega, by simp, rfl, by rw [HX.out, ← HY.out, if_neg (by omega)], rfl, by omega, by omega⟩, by simp [intOf]; omega⟩
        · have d3 : y < x.1 := by omega
          go_wp2
          exact ⟨⟨k + 1, y, by omega, by simp, rfl, by rw [HX.out, ← HY.out, if_neg (by omega)], rfl, by omega, by omega⟩, by simp [intOf]; omega⟩
      · obtain rfl : k = L.length := by omega
        have hq := HE.out y (by have := HY.out; rwa [List.take_length] at this)
        have HQ := Aside0.mk hq
        clear hq
        by_cases d : y > 4611686018427387903
        · go_wp2
          go_ret
          exact ⟨by rw [HQ.out, if_pos d]; rfl, rfl⟩
        · have d' : y ≤ 4611686018427387903 := by omega
          clear d
          go_wp2
          go_ret
          exact ⟨by rw [HQ.out, if_neg (show ¬ y > 4611686018427387903 by omega)]; rfl, rfl⟩
set_option maxHeartbeats 800000 in
theorem rends_s (h : RefAt w base g v L) : Calls Try.prog 53 #[.pointer (some ⟨g, 0, none⟩)] w fun e w' => e = .returned (.tuple #[.int .i64 (endsL L).1, .int .i64 (endsL L).2]) ∧ ∃ k, w' = w.drewN k := by
  have c1 := h.c0
  have H := Aside0.mk h
  have hfew := h.few
  by_cases hl : L.length = 0
  · have : L = [] := List.eq_nil_of_length_eq_zero hl
    subst this
    obtain ⟨A, c, rfl, hc, _, _⟩ := row_form h.row
    clear h hl
    simp only [List.length_nil] at c1
    go_enter Try.func53, Try.ntmps53
    go_wp2
    go_ret2
    exact ⟨rfl, 0, rfl⟩
  · obtain ⟨x, hx⟩ : ∃ x, L[0]? = some x := ⟨_, List.getElem?_eq_getElem (by omega)⟩
    obtain ⟨y, hy⟩ : ∃ y, L[L.length - 1]? = some y := ⟨_, List.getElem?_eq_getElem (by omega)⟩
    obtain ⟨A, c, rfl, hc, hnc, a2, _⟩ := row_at h.row _ x hx
    obtain ⟨A', c', hv, _, _, _, b3⟩ := row_at h.row _ y hy
    injection hv with hv1 _ hv2
    injection hv1 with hv1
    injection hv1 with hv1
    subst hv1; subst hv2
    have he : endsL L = (x.1, y.2) := by
      unfold endsL
      rw [List.head?_eq_getElem?, List.getLast?_eq_getElem?, hx, hy]
    rw [he]
    obtain ⟨n, hn⟩ : ∃ n, n = L.length := ⟨_, rfl⟩
    rw [← hn] at c1 b3 hnc hfew
    have hz : ((n : Int) == 0) = false := beq_eq_false_iff_ne.mpr (by omega)
    have hp : (0 : Int) < (n : Int) := by omega
    have hw1 : IntKind.i64.wrap ((n : Int) - 1) = (n : Int) - 1 := by rw [IntKind.wrap_i64]; omega
    have hp1 : (0 : Int) ≤ (n : Int) - 1 := by omega
    have hp2 : (n : Int) - 1 < (n : Int) := by omega
    have hp3 : ((n : Int) - 1).toNat = n - 1 := by omega
    rw [Nat.zero_mul] at a2
    clear h he hx hy hl hn
    go_enter Try.func53, Try.ntmps53
    go_wp2
    go_quiet (fail)
    go_wp2
    go_ret2
    exact ⟨rfl, _, rfl⟩
end Go.Proofs.Ytmkojmjjlcfohaa.Rg
