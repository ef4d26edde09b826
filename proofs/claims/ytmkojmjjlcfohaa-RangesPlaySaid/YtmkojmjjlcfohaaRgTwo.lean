/- One or two sets side by side, under their methods; no condition. -/
import Derived.Test.YtmkojmjjlcfohaaRgSpans
set_option linter.unusedVariables false
set_option linter.unusedSimpArgs false
namespace Go.Proofs.Ytmkojmjjlcfohaa.Rg
open Go.RowKit Go.Shelf Go.Proofs.YtmkojmjjlcfohaaW.PrintWords Go.Proofs.YtmkojmjjlcfohaaW.PrintLast Go.Proofs.YtmkojmjjlcfohaaW.PrintMore Go.Proofs.Ytmkojmjjlcfohaa.Rw
theorem SetAt.mono {w : World} {b b' g : Nat} {v : Value} {L : List Sp} (h : SetAt w b g v L) (hb : b' ≤ b) : SetAt w b' g v L := by
  refine ⟨Nat.le_trans hb h.hg, h.blk, ⟨h.row.1, ?_⟩, h.ok, h.few⟩
  rcases h.row.2 with h0 | ⟨g', c, cur, rfl, hb', hgg, r⟩
  · exact .inl h0
  · exact .inr ⟨g', c, cur, rfl, Nat.le_trans hb hb', hgg, r⟩
/-- One set. -/
def One (b g : Nat) (L : List Sp) (W : World) : Prop := ∃ v, SetAt W b g v L
/-- Two sets, apart. -/
def Two (b g1 : Nat) (L1 : List Sp) (g2 : Nat) (L2 : List Sp) (W : World) : Prop := ∃ v1 v2, SetAt W b g1 v1 L1 ∧ SetAt W b g2 v2 L2 ∧ g1 ≠ g2 ∧ ∀ k, v1.ownBlock = some k → v2.ownBlock ≠ some k
structure Rk (R : World → Prop) : Prop where
  move : ∀ W W', R W → Below W.heap.size W W' → R W'
theorem one_rk (b g : Nat) (L : List Sp) : Rk (One b g L) := ⟨fun W W' ⟨v, h⟩ hb => ⟨v, h.below hb⟩⟩
theorem two_rk (b g1 g2 : Nat) (L1 L2 : List Sp) : Rk (Two b g1 L1 g2 L2) := ⟨fun W W' ⟨v1, v2, h1, h2, h3, h4⟩ hb => ⟨v1, v2, h1.below hb, h2.below hb, h3, h4⟩⟩
theorem Two.swap {b g1 g2 : Nat} {L1 L2 : List Sp} {W : World} (h : Two b g1 L1 g2 L2 W) : Two b g2 L2 g1 L1 W := by
  obtain ⟨v1, v2, h1, h2, h3, h4⟩ := h
  exact ⟨v2, v1, h2, h1, fun e => h3 e.symm, fun k e2 e1 => h4 k e1 e2⟩
theorem Two.left {b g1 g2 : Nat} {L1 L2 : List Sp} {W : World} (h : Two b g1 L1 g2 L2 W) : One b g1 L1 W := by obtain ⟨v1, v2, h1, h2, h3, h4⟩ := h; exact ⟨v1, h1⟩
theorem Two.right {b g1 g2 : Nat} {L1 L2 : List Sp} {W : World} (h : Two b g1 L1 g2 L2 W) : One b g2 L2 W := h.swap.left
/-- The first goes on by itself. -/
theorem two_on {b g1 g2 : Nat} {v1 v1' v2 : Value} {L1 L1' L2 : List Sp} {W W' : World} (h1 : SetAt W b g1 v1 L1) (h2 : SetAt W b g2 v2 L2) (h3 : g1 ≠ g2) (h4 : ∀ k, v1.ownBlock = some k → v2.ownBlock ≠ some k)
    (hs : SetAt W' b g1 v1' L1') (hl : Lft W W' b g1 v1 v1') : Two b g1 L1' g2 L2 W' := by
  have n1 : v1.ownBlock ≠ some g2 := fun e => by
    obtain ⟨_, cs, hc⟩ := own_typed h1.row _ e
    rw [h2.blk] at hc
    injection hc with hc
    injection hc with _ hc
    exact absurd hc (by decide)
  have n2 : ∀ k, v2.ownBlock = some k → k ≠ g1 := fun k e => by
    obtain ⟨_, cs, hc⟩ := own_typed h2.row _ e
    rintro rfl
    rw [h1.blk] at hc
    injection hc with hc
    injection hc with _ hc
    exact absurd hc (by decide)
  refine ⟨v1', v2, hs, h2.move (hl.kept g2 h2.lt (fun e => h3 e.symm) n1) (fun k e => hl.kept k (h2.row_lt k e) (n2 k e) (fun e1 => h4 k e1 e)), h3, fun k e1 e2 => ?_⟩
  rcases hl.at_ with ha | ⟨c, hc, hlt⟩
  · rw [ha] at e1
    exact h4 k e1 e2
  · have := h2.row_lt k e2
    rw [hc] at e1
    cases e1
    omega
/-- What a law knows under way: what it began with lies as it lay, and its sets. -/
structure Kst (w : World) (R : World → Prop) (W : World) : Prop where
  bel : Below w.heap.size w W
  r : R W
theorem Kst.below {w W W' : World} {R : World → Prop} (h : Kst w R W) (hR : Rk R) (hb : Below W.heap.size W W') : Kst w R W' := ⟨h.bel.trans (hb.mono h.bel.size), hR.move _ _ h.r hb⟩
theorem bl_drewN {W : World} (k : Nat) : Below W.heap.size W (W.drewN k) := by
  induction k with
  | zero => exact Below.refl _ _
  | succ k ih => exact ih.drew
variable {w W : World} {b g g2 : Nat} {L L2 : List Sp}
theorem one_add (h : Kst w (One w.heap.size g L) W) (f l : Int) : Calls Try.prog 17 #[.pointer (some ⟨g, 0, none⟩), .int .i64 f, .int .i64 l] W fun e w' => e = .returned (.int .i64 (addR L f l).1) ∧ Kst w (One w.heap.size g (addR L f l).2) w' := by
  obtain ⟨v, hs⟩ := h.r
  refine (add_s hs h.bel.size f l).mono ?_
  rintro e w' ⟨v', rfl, hs', hl⟩
  exact ⟨rfl, h.bel.trans hl.below, v', hs'⟩
theorem one_rem (h : Kst w (One w.heap.size g L) W) (f l : Int) : Calls Try.prog 19 #[.pointer (some ⟨g, 0, none⟩), .int .i64 f, .int .i64 l] W fun e w' => e = .returned (.int .i64 (remR L f l).1) ∧ Kst w (One w.heap.size g (remR L f l).2) w' := by
  obtain ⟨v, hs⟩ := h.r
  refine (rem_s hs h.bel.size f l).mono ?_
  rintro e w' ⟨v', rfl, hs', hl⟩
  exact ⟨rfl, h.bel.trans hl.below, v', hs'⟩
theorem two_add (h : Kst w (Two w.heap.size g L g2 L2) W) (f l : Int) : Calls Try.prog 17 #[.pointer (some ⟨g, 0, none⟩), .int .i64 f, .int .i64 l] W fun e w' => e = .returned (.int .i64 (addR L f l).1) ∧ Kst w (Two w.heap.size g (addR L f l).2 g2 L2) w' := by
  obtain ⟨v1, v2, h1, h2, h3, h4⟩ := h.r
  refine (add_s h1 h.bel.size f l).mono ?_
  rintro e w' ⟨v', rfl, hs', hl⟩
  exact ⟨rfl, h.bel.trans hl.below, two_on h1 h2 h3 h4 hs' hl⟩
theorem two_rem (h : Kst w (Two w.heap.size g L g2 L2) W) (f l : Int) : Calls Try.prog 19 #[.pointer (some ⟨g, 0, none⟩), .int .i64 f, .int .i64 l] W fun e w' => e = .returned (.int .i64 (remR L f l).1) ∧ Kst w (Two w.heap.size g (remR L f l).2 g2 L2) w' := by
  obtain ⟨v1, v2, h1, h2, h3, h4⟩ := h.r
  refine (rem_s h1 h.bel.size f l).mono ?_
  rintro e w' ⟨v', rfl, hs', hl⟩
  exact ⟨rfl, h.bel.trans hl.below, two_on h1 h2 h3 h4 hs' hl⟩
theorem two_add2 (h : Kst w (Two w.heap.size g L g2 L2) W) (f l : Int) : Calls Try.prog 17 #[.pointer (some ⟨g2, 0, none⟩), .int .i64 f, .int .i64 l] W fun e w' => e = .returned (.int .i64 (addR L2 f l).1) ∧ Kst w (Two w.heap.size g L g2 (addR L2 f l).2) w' := by
  refine (two_add ⟨h.bel, h.r.swap⟩ f l).mono ?_
  rintro e w' ⟨rfl, hs⟩
  exact ⟨rfl, hs.bel, hs.r.swap⟩
theorem two_rem2 (h : Kst w (Two w.heap.size g L g2 L2) W) (f l : Int) : Calls Try.prog 19 #[.pointer (some ⟨g2, 0, none⟩), .int .i64 f, .int .i64 l] W fun e w' => e = .returned (.int .i64 (remR L2 f l).1) ∧ Kst w (Two w.heap.size g L g2 (remR L2 f l).2) w' := by
  refine (two_rem ⟨h.bel, h.r.swap⟩ f l).mono ?_
  rintro e w' ⟨rfl, hs⟩
  exact ⟨rfl, hs.bel, hs.r.swap⟩
theorem one_has {R : World → Prop} (hR : Rk R) (h : Kst w R W) (hv : One b g L W) (n : Int) (hn : n ≤ 9223372036854775807) : Calls Try.prog 18 #[.pointer (some ⟨g, 0, none⟩), .int .i64 n] W fun e w' => e = .returned (.bool (hasL L n)) ∧ Kst w R w' := by
  obtain ⟨v, hs⟩ := hv
  refine (has_s hs n hn).mono ?_
  rintro e w' ⟨rfl, hb⟩
  exact ⟨rfl, h.below hR hb⟩
theorem one_gap {R : World → Prop} (hR : Rk R) (h : Kst w R W) (hv : One b g L W) (n : Int) (hn : n ≤ 9223372036854775807) : Calls Try.prog 28 #[.pointer (some ⟨g, 0, none⟩), .int .i64 n] W fun e w' => e = .returned (.int .i64 (gapL L n)) ∧ Kst w R w' := by
  obtain ⟨v, hs⟩ := hv
  refine (gap_s hs n hn).mono ?_
  rintro e w' ⟨rfl, hb⟩
  exact ⟨rfl, h.below hR hb⟩
theorem one_spans {R : World → Prop} (hR : Rk R) (h : Kst w R W) (hv : One b g L W) : Calls Try.prog 20 #[.pointer (some ⟨g, 0, none⟩)] W fun e w' => e = .returned (.int .i64 L.length) ∧ Kst w R w' := by
  obtain ⟨v, hs⟩ := hv
  refine (spans_s hs).mono ?_
  rintro e w' ⟨rfl, hb⟩
  exact ⟨rfl, h.below hR hb⟩
theorem one_ends {R : World → Prop} (hR : Rk R) (h : Kst w R W) (hv : One b g L W) : Calls Try.prog 27 #[.pointer (some ⟨g, 0, none⟩)] W fun e w' => e = .returned (.tuple #[.int .i64 (endsL L).1, .int .i64 (endsL L).2]) ∧ Kst w R w' := by
  obtain ⟨v, hs⟩ := hv
  refine (ends_s hs).mono ?_
  rintro e w' ⟨rfl, k, rfl⟩
  exact ⟨rfl, h.below hR (bl_drewN k)⟩
theorem one_clone (h : Kst w (One w.heap.size g L) W) : Calls Try.prog 22 #[.pointer (some ⟨g, 0, none⟩)] W fun e w' => ∃ g2, e = .returned (.pointer (some ⟨g2, 0, none⟩)) ∧ Kst w (Two w.heap.size g L g2 L) w' := by
  obtain ⟨v, hs⟩ := h.r
  refine (clone_s hs).mono ?_
  rintro e w' ⟨g', v', rfl, hg, hs2, hb⟩
  refine ⟨g', rfl, h.bel.trans (hb.mono h.bel.size), v, v', hs.below hb, hs2.mono h.bel.size, by have := hs.lt; omega, fun k e1 e2 => ?_⟩
  have := hs.row_lt k e1
  have := (own_typed hs2.row k e2).1
  omega
theorem one_new (w W : World) (h : Below w.heap.size w W) : Calls Try.prog 16 #[] W fun e w' => ∃ g, e = .returned (.pointer (some ⟨g, 0, none⟩)) ∧ Kst w (One w.heap.size g []) w' := by
  refine (new_s W).mono ?_
  rintro e w' ⟨rfl, rfl⟩
  exact ⟨_, rfl, below_alloc h _, _, new_at W _ h.size⟩
theorem two_new (h : Kst w (One w.heap.size g L) W) : Calls Try.prog 16 #[] W fun e w' => ∃ g2, e = .returned (.pointer (some ⟨g2, 0, none⟩)) ∧ Kst w (Two w.heap.size g L g2 []) w' := by
  obtain ⟨v, hs⟩ := h.r
  refine (new_s W).mono ?_
  rintro e w' ⟨rfl, rfl⟩
  exact ⟨_, rfl, below_alloc h.bel _, v, _, hs.alloc _, new_at W _ h.bel.size, by have := hs.lt; omega, fun k _ e2 => by simp [Value.ownBlock] at e2⟩
/-! What the list holds. -/
theorem addR_first : addR [] 1 2 = (0, [(1, 2)]) := by decide +kernel
theorem remR_first : remR [(1, 2)] 1 2 = (0, []) := by decide +kernel
theorem addR_done {f l : Int} (h : (addR L f l).1 = 0) : bad f l = false ∧ (addR L f l).2 = addL L f l ∧ (addL L f l).length ≤ 65536 := by
  unfold addR at h ⊢
  cases hb : bad f l
  · simp only [hb, Bool.false_eq_true, if_false] at h ⊢
    split at h
    · cases h
    · rename_i hl
      rw [if_neg hl]
      exact ⟨trivial, rfl, by omega⟩
  · simp [hb] at h
theorem addR_has {f l : Int} (ho : Ok L) (h : (addR L f l).1 = 0) : hasL (addR L f l).2 f = true := by
  obtain ⟨hb, h2, _⟩ := addR_done h
  obtain ⟨hf, hfl, hl⟩ := not_bad (f := f) (l := l) (by rw [hb]; simp)
  rw [h2, hasL_mem, (addL_ok L ho f l hf hfl hl).2]
  exact .inl ⟨Int.le_refl _, hfl⟩
theorem remR_all (ho : Ok L) : remR L 0 4611686018427387903 = (0, []) := by
  have hr : removeL L 0 4611686018427387903 = [] := by
    refine ok_unique _ _ (remove_ok L ho _ _ (by omega) (by omega) (by omega)).1 ok_nil (fun n => ?_)
    rw [(remove_ok L ho _ _ (by omega) (by omega) (by omega)).2]
    constructor
    · rintro ⟨⟨x, hx, h1, h2⟩, hn⟩
      have := ho.2 x hx
      omega
    · intro hn
      exact absurd hn mem_nil
  unfold remR
  rw [hr]
  rfl
/-- A span that came in. -/
abbrev spK : Kd Sp := Kd.pair (Kd.int .i64) (Kd.int .i64)
theorem came_span {w : World} {A : Option Addr} {xs : List Sp} {k : Nat} {x : Sp} (h : Kd.C spK w A xs.length xs) (hk : xs[k]? = some x) :
    ∃ ad, A = some ad ∧ w.cell? (ad.add (k * 2)) = some (.int .i64 x.1) ∧ w.cell? (ad.add (k * 2 + 1)) = some (.int .i64 x.2) := by
  have hlt := (List.getElem?_eq_some_iff.1 hk).1
  obtain ⟨ad, hA, hq⟩ := h.2.2 (by omega)
  obtain ⟨cs, _, ⟨c0, c1, rfl, h0, h1⟩, hcell⟩ := hq k x hk
  have e0 : c0 = [.int .i64 x.1] := h0
  have e1 : c1 = [.int .i64 x.2] := h1
  subst e0; subst e1
  exact ⟨ad, hA, hcell 0 _ rfl, hcell 1 _ rfl⟩
end Go.Proofs.Ytmkojmjjlcfohaa.Rg
