/- Sets of spans in memory: what they hold, and what their methods that only read tell; no condition. -/
import Derived.Test.YtmkojmjjlcfohaaRgFrom
import Derived.Deep.RegionHeld3
import Derived.StillTailTactics
set_option linter.unusedVariables false
set_option linter.unusedSimpArgs false
namespace Go.Proofs.Ytmkojmjjlcfohaa.Rg
open Go.RowKit Go.Proofs.YtmkojmjjlcfohaaW.PrintWords Go.Proofs.YtmkojmjjlcfohaaW.PrintLast Go.Proofs.YtmkojmjjlcfohaaW.PrintMore Go.Proofs.Ytmkojmjjlcfohaa.Rw
/-- The set at block g: its row's value v, its spans L. -/
structure SetAt (w : World) (base g : Nat) (v : Value) (L : List Sp) : Prop where
  hg : base ≤ g
  blk : w.heap[g]? = some (.cells #[.bool true, v] 60 (0, 0))
  row : w.ownsRow base 39 2 v L.length (cells L)
  ok : Ok L
  few : L.length ≤ 65536
section
variable {w w1 : World} {base g : Nat} {v : Value} {L : List Sp}
theorem SetAt.c0 (h : SetAt w base g v L) : w.cell? ⟨g, 0, none⟩ = some (.bool true) := by rw [cell_of_row w g _ _ _ _ h.blk]; rfl
theorem SetAt.c1 (h : SetAt w base g v L) : w.cell? ⟨g, 1, none⟩ = some v := by rw [cell_of_row w g _ _ _ _ h.blk]; rfl
theorem SetAt.lt (h : SetAt w base g v L) : g < w.heap.size := (Array.getElem?_eq_some_iff.1 h.blk).1
theorem own_typed {n : Nat} {xs : List Value} {e : TypeId} {size : Nat} (h : w.ownsRow base e size v n xs) (k : Nat) (hk : v.ownBlock = some k) : base ≤ k ∧ ∃ cells, w.heap[k]? = some (.cells cells e (0, 0)) := by
  rcases h.2 with ⟨rfl, _⟩ | ⟨g', c, cur, rfl, hb, hg, _⟩
  · simp [Value.ownBlock] at hk
  · have : g' = k := by simpa [Value.ownBlock] using hk
    subst this
    exact ⟨hb, cur, hg⟩
theorem SetAt.row_lt (h : SetAt w base g v L) (k : Nat) (hk : v.ownBlock = some k) : k < w.heap.size := by
  obtain ⟨_, cs, hc⟩ := own_typed h.row k hk
  exact (Array.getElem?_eq_some_iff.1 hc).1
theorem SetAt.row_ne (h : SetAt w base g v L) (k : Nat) (hk : v.ownBlock = some k) : k ≠ g := by
  obtain ⟨_, cs, hc⟩ := own_typed h.row k hk
  rintro rfl
  rw [h.blk] at hc
  injection hc with hc
  injection hc with _ hc
  exact absurd hc (by decide)
/-- Where its blocks lie as they lay. -/
theorem SetAt.move (h : SetAt w base g v L) (hg : w1.heap[g]? = w.heap[g]?) (hv : ∀ k, v.ownBlock = some k → w1.heap[k]? = w.heap[k]?) : SetAt w1 base g v L := by
  refine ⟨h.hg, hg.trans h.blk, ⟨h.row.1, ?_⟩, h.ok, h.few⟩
  rcases h.row.2 with h0 | ⟨g', c, cur, rfl, hb, hgg, r⟩
  · exact .inl h0
  · exact .inr ⟨g', c, cur, rfl, hb, (hv g' rfl).trans hgg, r⟩
theorem SetAt.below (h : SetAt w base g v L) (hb : Below w.heap.size w w1) : SetAt w1 base g v L := h.move (hb.block _ h.lt) (fun k hk => hb.block _ (h.row_lt k hk))
theorem SetAt.drewN (h : SetAt w base g v L) (n : Nat) : SetAt (w.drewN n) base g v L := h.move rfl (fun _ _ => rfl)
theorem SetAt.alloc (h : SetAt w base g v L) (o : Obj) : SetAt (w.alloc o) base g v L := h.below (below_alloc (Below.refl _ _) o)
end
variable {w : World} {base g : Nat} {v : Value} {L : List Sp}
theorem none_s (h : SetAt w base g v L) : Calls Try.prog 43 #[.pointer (some ⟨g, 0, none⟩)] w fun e w' => e = .returned (.bool false) ∧ w = w' := by
  have c0 := h.c0
  clear h
  go_enter Try.func43, Try.ntmps43
  go_wp2
  go_ret
  exact ⟨rfl, rfl⟩
/-- Is a change refused? -/
def bad (f l : Int) : Bool := decide (f < 0) || decide (l > 4611686018427387903) || decide (f > l)
theorem wrong_s (h : SetAt w base g v L) (f l : Int) : Calls Try.prog 40 #[.pointer (some ⟨g, 0, none⟩), .int .i64 f, .int .i64 l] w fun e w' => e = .returned (.int .i64 (if bad f l then 2 else 0)) ∧ w = w' := by
  have H := Aside0.mk h
  clear h
  obtain ⟨r, hr⟩ : ∃ r : Int, r = if bad f l then 2 else 0 := ⟨_, rfl⟩
  rw [← hr]
  unfold bad at hr
  by_cases h1 : f < 0
  · have e1 : r = 2 := by rw [hr]; simp [h1]
    subst e1; clear hr
    go_enter Try.func40, Try.ntmps40
    go_wp2_with (go_at_call 43; refine (none_s H.out).mono ?_; rintro e w' ⟨rfl, rfl⟩)
    go_ret
    exact ⟨rfl, rfl⟩
  by_cases h2 : l > 4611686018427387903
  · have e1 : r = 2 := by rw [hr]; simp [h2]
    subst e1; clear hr
    go_enter Try.func40, Try.ntmps40
    go_wp2_with (go_at_call 43; refine (none_s H.out).mono ?_; rintro e w' ⟨rfl, rfl⟩)
    go_ret
    exact ⟨rfl, rfl⟩
  by_cases h3 : f > l
  · have e1 : r = 2 := by rw [hr]; simp [h3]
    subst e1; clear hr
    go_enter Try.func40, Try.ntmps40
    go_wp2_with (go_at_call 43; refine (none_s H.out).mono ?_; rintro e w' ⟨rfl, rfl⟩)
    go_ret
    exact ⟨rfl, rfl⟩
  · have e1 : r = 0 := by rw [hr]; simp [h1, h2, h3]
    subst e1; clear hr
    have h3' : f ≤ l := by omega
    have h2' : l ≤ 4611686018427387903 := by omega
    have h1' : 0 ≤ f := by omega
    clear h1 h2 h3
    go_enter Try.func40, Try.ntmps40
    go_wp2_with (go_at_call 43; refine (none_s H.out).mono ?_; rintro e w' ⟨rfl, rfl⟩)
    go_ret
    exact ⟨rfl, rfl⟩
theorem from_s (h : SetAt w base g v L) (n : Int) (hn : -1 ≤ n) (hn1 : n ≤ 9223372036854775807) : Calls Try.prog 41 #[.pointer (some ⟨g, 0, none⟩), .int .i64 n] w fun e w' => e = .returned (.int .i64 (fromL L n)) ∧ Below w.heap.size w w' := by
  have c1 := h.c1
  have HB := Aside0.mk (bsf h.row h.ok (by have := h.few; omega) n hn hn1)
  clear h
  go_enter Try.func41, Try.ntmps41
  go_wp2_with (go_at_call 59; refine HB.out.mono ?_; rintro e w1 ⟨b, rfl, hb⟩; have HBl := Aside0.mk hb; clear hb)
  go_ret
  exact ⟨rfl, HBl.out⟩
/-- What stands at the place of n. -/
theorem at_place (h : SetAt w base g v L) (n : Int) : (L.length ≤ fromL L n) ∨ ∃ x A c, L[fromL L n]? = some x ∧ fromL L n < L.length ∧ v = .slice (some ⟨A, 0, none⟩) L.length c ∧ c ≤ 9223372036854775807 ∧ w.cell? ⟨A, fromL L n * 2, none⟩ = some (.int .i64 x.1) ∧ w.cell? ⟨A, fromL L n * 2 + 1, none⟩ = some (.int .i64 x.2) := by
  by_cases hlt : fromL L n < L.length
  · right
    obtain ⟨x, hx⟩ : ∃ x, L[fromL L n]? = some x := ⟨_, List.getElem?_eq_getElem hlt⟩
    obtain ⟨A, c, h1, h2, _, h3, h4⟩ := row_at h.row _ x hx
    exact ⟨x, A, c, hx, hlt, h1, h2, h3, h4⟩
  · left; omega
set_option maxHeartbeats 800000 in
theorem has_s (h : SetAt w base g v L) (n : Int) (hn1 : n ≤ 9223372036854775807) : Calls Try.prog 18 #[.pointer (some ⟨g, 0, none⟩), .int .i64 n] w fun e w' => e = .returned (.bool (hasL L n)) ∧ Below w.heap.size w w' := by
  have c1 := h.c1
  have H := Aside0.mk h
  have hfew := h.few
  by_cases h0 : n < 0
  · rw [hasL_neg L h.ok n h0]
    clear h
    go_enter Try.func18, Try.ntmps18
    go_wp2_with (go_at_call 43; refine (none_s H.out).mono ?_; rintro e w' ⟨rfl, rfl⟩)
    go_ret
    exact ⟨rfl, Below.refl _ _⟩
  · have HF := Aside0.mk (from_s h n (by omega) hn1)
    have h0' : 0 ≤ n := by omega
    rcases at_place h n with hout | ⟨x, A, c, hx, hlt, rfl, hc, c2, c3⟩
    · rw [hasL_out L h.ok n hout]
      obtain ⟨A, c, rfl, hc, _, _⟩ := row_form h.row
      generalize fromL L n = i at *
      clear h h0
      go_enter Try.func18, Try.ntmps18
      go_wp2_with (first | (go_at_call 43; refine (none_s H.out).mono ?_; rintro e w' ⟨rfl, rfl⟩) | (go_at_call 41; refine (HF.out).mono ?_; rintro e w1 ⟨rfl, hb⟩; have HBl := Aside0.mk hb; have d1 := pw_cell_below hb c1; clear hb))
      go_ret
      exact ⟨rfl, HBl.out⟩
    · rw [hasL_at L h.ok n x hx]
      clear hx
      generalize fromL L n = i at *
      clear h h0
      go_enter Try.func18, Try.ntmps18
      go_wp2_with (first | (go_at_call 43; refine (none_s H.out).mono ?_; rintro e w' ⟨rfl, rfl⟩) | (go_at_call 41; refine (HF.out).mono ?_; rintro e w1 ⟨rfl, hb⟩; have HBl := Aside0.mk hb; have d1 := pw_cell_below hb c1; have d2 := pw_cell_below hb c2; clear hb))
      go_ret
      exact ⟨rfl, HBl.out⟩
theorem run_max (x y : Int) (W : World) : (Builtin.max_ #[3, 3] 3 #[.int .i64 x, .int .i64 y]).run Try.prog W = .ok (.int .i64 (max x y)) W := by
  have h : (if x < y then y else x) = max x y := by split <;> omega
  rw [← h]
  simp [Builtin.max_, Builtin.max2, go_sem]
theorem run_min (x y : Int) (W : World) : (Builtin.min_ #[3, 3] 3 #[.int .i64 x, .int .i64 y]).run Try.prog W = .ok (.int .i64 (min x y)) W := by
  have h : (if y < x then y else x) = min x y := by split <;> omega
  rw [← h]
  simp [Builtin.min_, Builtin.min2, go_sem]
theorem gapL_out (n : Int) (h : L.length ≤ fromL L (max n 0)) : gapL L n = if max n 0 > 4611686018427387903 then -1 else max n 0 := by
  unfold gapL
  simp only [List.getElem?_eq_none h]
theorem gapL_at (n : Int) (x : Sp) (h : L[fromL L (max n 0)]? = some x) : gapL L n = if x.1 ≤ max n 0 then (if x.2 + 1 > 4611686018427387903 then -1 else x.2 + 1) else if max n 0 > 4611686018427387903 then -1 else max n 0 := by
  unfold gapL
  simp only [h]
  split <;> rfl
set_option maxHeartbeats 800000 in
theorem gap_s (h : SetAt w base g v L) (n : Int) (hn1 : n ≤ 9223372036854775807) : Calls Try.prog 28 #[.pointer (some ⟨g, 0, none⟩), .int .i64 n] w fun e w' => e = .returned (.int .i64 (gapL L n)) ∧ Below w.heap.size w w' := by
  have c1 := h.c1
  have H := Aside0.mk h
  have hfew := h.few
  have hmax := run_max n 0
  have hfo := gapL_out (L := L) n
  have hfa := gapL_at (L := L) n
  obtain ⟨f, hf⟩ : ∃ f, f = max n 0 := ⟨_, rfl⟩
  have hf0 : 0 ≤ f := by omega
  have hf1 : f ≤ 9223372036854775807 := by omega
  rw [← hf] at hmax hfo hfa
  clear hf
  have HF := Aside0.mk (from_s h f (by omega) hf1)
  rcases at_place h f with hout | ⟨x, A, c, hx, hlt, rfl, hc, c2, c3⟩
  · rw [hfo hout]
    obtain ⟨A, c, rfl, hc, _, _⟩ := row_form h.row
    generalize fromL L f = i at *
    clear h hfa hfo
    by_cases hbig : f > 4611686018427387903
    · rw [if_pos hbig]
      go_enter Try.func28, Try.ntmps28
      go_wp2_with (first | (go_at_call 43; refine (none_s H.out).mono ?_; rintro e w' ⟨rfl, rfl⟩) | (go_at_call 41; refine (HF.out).mono ?_; rintro e w1 ⟨rfl, hb⟩; have HBl := Aside0.mk hb; have d1 := pw_cell_below hb c1; clear hb))
      go_ret
      exact ⟨rfl, HBl.out⟩
    · rw [if_neg hbig]
      have hsm : f ≤ 4611686018427387903 := by omega
      clear hbig
      go_enter Try.func28, Try.ntmps28
      go_wp2_with (first | (go_at_call 43; refine (none_s H.out).mono ?_; rintro e w' ⟨rfl, rfl⟩) | (go_at_call 41; refine (HF.out).mono ?_; rintro e w1 ⟨rfl, hb⟩; have HBl := Aside0.mk hb; have d1 := pw_cell_below hb c1; clear hb))
      go_ret
      exact ⟨rfl, HBl.out⟩
  · rw [hfa x hx]
    have hxo := h.ok.2 x (List.mem_of_getElem? hx)
    have x0 := hxo.1
    have x1 := hxo.2.1
    have x2 := hxo.2.2
    clear hx hfo hfa hxo
    generalize fromL L f = i at *
    clear h
    by_cases hle : x.1 ≤ f
    · rw [if_pos hle]
      by_cases hbig : x.2 + 1 > 4611686018427387903
      · rw [if_pos hbig]
        go_enter Try.func28, Try.ntmps28
        go_wp2_with (first | (go_at_call 43; refine (none_s H.out).mono ?_; rintro e w' ⟨rfl, rfl⟩) | (go_at_call 41; refine (HF.out).mono ?_; rintro e w1 ⟨rfl, hb⟩; have HBl := Aside0.mk hb; have d1 := pw_cell_below hb c1; have d2 := pw_cell_below hb c2; have d3 := pw_cell_below hb c3; clear hb))
        go_ret
        exact ⟨rfl, HBl.out⟩
      · rw [if_neg hbig]
        have hsm : x.2 + 1 ≤ 4611686018427387903 := by omega
        clear hbig
        go_enter Try.func28, Try.ntmps28
        go_wp2_with (first | (go_at_call 43; refine (none_s H.out).mono ?_; rintro e w' ⟨rfl, rfl⟩) | (go_at_call 41; refine (HF.out).mono ?_; rintro e w1 ⟨rfl, hb⟩; have HBl := Aside0.mk hb; have d1 := pw_cell_below hb c1; have d2 := pw_cell_below hb c2; have d3 := pw_cell_below hb c3; clear hb))
        go_ret
        exact ⟨rfl, HBl.out⟩
    · rw [if_neg hle]
      have hgt : f < x.1 := by omega
      have hsm : f ≤ 4611686018427387903 := by omega
      have hnb : ¬ (f > 4611686018427387903) := by omega
      rw [if_neg hnb]
      clear hle hnb
      go_enter Try.func28, Try.ntmps28
      go_wp2_with (first | (go_at_call 43; refine (none_s H.out).mono ?_; rintro e w' ⟨rfl, rfl⟩) | (go_at_call 41; refine (HF.out).mono ?_; rintro e w1 ⟨rfl, hb⟩; have HBl := Aside0.mk hb; have d1 := pw_cell_below hb c1; have d2 := pw_cell_below hb c2; have d3 := pw_cell_below hb c3; clear hb))
      go_ret
      exact ⟨rfl, HBl.out⟩
/-- What the ends are. -/
def endsL (L : List Sp) : Int × Int := match L.head?, L.getLast? with
  | some x, some y => (x.1, y.2)
  | _, _ => (-1, -1)
set_option maxHeartbeats 800000 in
theorem ends_s (h : SetAt w base g v L) : Calls Try.prog 27 #[.pointer (some ⟨g, 0, none⟩)] w fun e w' => e = .returned (.tuple #[.int .i64 (endsL L).1, .int .i64 (endsL L).2]) ∧ ∃ k, w' = w.drewN k := by
  have c1 := h.c1
  have H := Aside0.mk h
  have hfew := h.few
  by_cases hl : L.length = 0
  · have : L = [] := List.eq_nil_of_length_eq_zero hl
    subst this
    obtain ⟨A, c, rfl, hc, _, _⟩ := row_form h.row
    clear h hl
    simp only [List.length_nil] at c1
    go_enter Try.func27, Try.ntmps27
    go_wp2_with (go_at_call 43; refine (none_s H.out).mono ?_; rintro e w' ⟨rfl, rfl⟩)
    go_ret2
    exact ⟨rfl, 0, rfl⟩
  · obtain ⟨x, hx⟩ : ∃ x, L[0]? = some x := ⟨_, List.getElem?_eq_getElem (by omega)⟩
    obtain ⟨y, hy⟩ : ∃ y, L[L.length - 1]? = some y := ⟨_, List.getElem?_eq_getElem (by omega)⟩
    obtain ⟨A, c, rfl, hc, hnc, a2, _⟩ := row_at h.row _ x hx
    obtain ⟨A', c', hv, _, _, _, b3⟩ := row_at h.row _ y hy
    injection hv with hv1 _ hv2
    injection hv1 with hv1
    injection hv1 with hv1
    subst hv1; subst hv2
    have he : endsL L = (x.1, y.2) := by
      unfold endsL
      rw [List.head?_eq_getElem?, List.getLast?_eq_getElem?, hx, hy]
    rw [he]
    obtain ⟨n, hn⟩ : ∃ n, n = L.length := ⟨_, rfl⟩
    rw [← hn] at c1 b3 hnc hfew
    have hz : ((n : Int) == 0) = false := beq_eq_false_iff_ne.mpr (by omega)
    have hp : (0 : Int) < (n : Int) := by omega
    have hw1 : IntKind.i64.wrap ((n : Int) - 1) = (n : Int) - 1 := by rw [IntKind.wrap_i64]; omega
    have hp1 : (0 : Int) ≤ (n : Int) - 1 := by omega
    have hp2 : (n : Int) - 1 < (n : Int) := by omega
    have hp3 : ((n : Int) - 1).toNat = n - 1 := by omega
    rw [Nat.zero_mul] at a2
    clear h he hx hy hl hn
    go_enter Try.func27, Try.ntmps27
    go_wp2_with (go_at_call 43; refine (none_s H.out).mono ?_; rintro e w' ⟨rfl, rfl⟩)
    go_quiet (fail)
    go_wp2
    go_ret2
    exact ⟨rfl, _, rfl⟩
end Go.Proofs.Ytmkojmjjlcfohaa.Rg
