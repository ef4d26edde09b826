/- RangesPlay: the law's walk; no condition but the reach of its argument. -/
import Derived.Test.YtmkojmjjlcfohaaRgStands
set_option linter.unusedVariables false
set_option linter.unusedSimpArgs false
namespace Go.Proofs.Ytmkojmjjlcfohaa.Rg
open Go.RowKit Go.Shelf Go.Proofs.YtmkojmjjlcfohaaW.PrintWords Go.Proofs.YtmkojmjjlcfohaaW.PrintLast Go.Proofs.YtmkojmjjlcfohaaW.PrintMore Go.Proofs.Ytmkojmjjlcfohaa.Rw
/-- A set and the document's, apart. -/
def Duo (b s : Nat) (L : List Sp) (r : Nat) (M : List Sp) (W : World) : Prop := ∃ v1 v2, SetAt W b s v1 L ∧ RefAt W b r v2 M ∧ ∀ k, v1.ownBlock = some k → v2.ownBlock ≠ some k
/-- The same, and a variable of the law's own. -/
def DuoX (b s : Nat) (L : List Sp) (r : Nat) (M : List Sp) (ab : Nat) (cs : Array Value) (W : World) : Prop := ∃ v1 v2, SetAt W b s v1 L ∧ RefAt W b r v2 M ∧ (∀ k, v1.ownBlock = some k → v2.ownBlock ≠ some k) ∧ W.heap[ab]? = some (.cells cs 58 (0, 0))
/-- Two sets and the document's. -/
def TrioX (b s : Nat) (L : List Sp) (o : Nat) (N : List Sp) (r : Nat) (M : List Sp) (ab : Nat) (cs : Array Value) (W : World) : Prop := ∃ v1 v3 v2, SetAt W b s v1 L ∧ SetAt W b o v3 N ∧ RefAt W b r v2 M ∧ s ≠ o ∧ (∀ k, v1.ownBlock = some k → v2.ownBlock ≠ some k) ∧ (∀ k, v1.ownBlock = some k → v3.ownBlock ≠ some k) ∧ (∀ k, v3.ownBlock = some k → v2.ownBlock ≠ some k) ∧ W.heap[ab]? = some (.cells cs 58 (0, 0))
theorem duoX_rk (b s : Nat) (L : List Sp) (r : Nat) (M : List Sp) (ab : Nat) (cs : Array Value) : Rk (DuoX b s L r M ab cs) := ⟨fun W W' ⟨v1, v2, h1, h2, h3, h4⟩ hb => ⟨v1, v2, h1.below hb, h2.below hb, h3, (hb.block _ (Array.getElem?_eq_some_iff.1 h4).1).trans h4⟩⟩
theorem duo_rk (b s : Nat) (L : List Sp) (r : Nat) (M : List Sp) : Rk (Duo b s L r M) := ⟨fun W W' ⟨v1, v2, h1, h2, h3⟩ hb => ⟨v1, v2, h1.below hb, h2.below hb, h3⟩⟩
theorem DuoX.duo {b s : Nat} {L : List Sp} {r : Nat} {M : List Sp} {ab : Nat} {cs : Array Value} {W : World} (h : DuoX b s L r M ab cs W) : Duo b s L r M W := by
  obtain ⟨v1, v2, h1, h2, h3, h4⟩ := h
  exact ⟨v1, v2, h1, h2, h3⟩
/-- Two blocks of unlike types are two. -/
theorem ty_apart {W : World} {i j : Nat} {cs cs' : Array Value} {t t' : TypeId} {z z' : Nat × Nat} (h : W.heap[i]? = some (.cells cs t z)) (h' : W.heap[j]? = some (.cells cs' t' z')) (hn : t ≠ t') : i ≠ j := by
  rintro rfl
  rw [h] at h'
  injection h' with h'
  injection h' with _ h' _
  exact hn h'
variable {w W : World} {s r o ab : Nat} {L M N : List Sp} {cs : Array Value}
/-- The program's set goes on by itself. -/
theorem setX_on {b : Nat} {v1 v1' v2 : Value} {L' : List Sp} {W' : World} (h1 : SetAt W b s v1 L) (h2 : RefAt W b r v2 M) (h3 : ∀ k, v1.ownBlock = some k → v2.ownBlock ≠ some k) (h4 : W.heap[ab]? = some (.cells cs 58 (0, 0)))
    (hs : SetAt W' b s v1' L') (hl : Lft W W' b s v1 v1') : DuoX b s L' r M ab cs W' := by
  have n1 : r ≠ s := ty_apart h2.blk h1.blk (by decide)
  have n2 : v1.ownBlock ≠ some r := fun e => by
    obtain ⟨_, c, hc⟩ := own_typed h1.row _ e
    exact ty_apart hc h2.blk (by decide) rfl
  have n3 : ∀ k, v2.ownBlock = some k → k ≠ s := fun k e => by
    obtain ⟨_, c, hc⟩ := own_typed h2.row _ e
    exact ty_apart hc h1.blk (by decide)
  have n4 : ab ≠ s := ty_apart h4 h1.blk (by decide)
  have n5 : v1.ownBlock ≠ some ab := fun e => by
    obtain ⟨_, c, hc⟩ := own_typed h1.row _ e
    exact ty_apart hc h4 (by decide) rfl
  refine ⟨v1', v2, hs, h2.move (hl.kept r h2.lt n1 n2) (fun k e => hl.kept k (h2.row_lt k e) (n3 k e) (fun e1 => h3 k e1 e)), fun k e1 e2 => ?_, (hl.kept ab (Array.getElem?_eq_some_iff.1 h4).1 n4 n5).trans h4⟩
  rcases hl.at_ with ha | ⟨c, hc, hlt⟩
  · rw [ha] at e1
    exact h3 k e1 e2
  · have := h2.row_lt k e2
    rw [hc] at e1
    cases e1
    omega
/-- The document's set goes on by itself. -/
theorem refX_on {b : Nat} {v1 v2 v2' : Value} {M' : List Sp} {W' : World} (h1 : SetAt W b s v1 L) (h2 : RefAt W b r v2 M) (h3 : ∀ k, v1.ownBlock = some k → v2.ownBlock ≠ some k) (h4 : W.heap[ab]? = some (.cells cs 58 (0, 0)))
    (hs : RefAt W' b r v2' M') (hl : LftR W W' b r v2 v2') : DuoX b s L r M' ab cs W' := by
  have n1 : s ≠ r := ty_apart h1.blk h2.blk (by decide)
  have n3 : ∀ k, v1.ownBlock = some k → k ≠ r := fun k e => by
    obtain ⟨_, c, hc⟩ := own_typed h1.row _ e
    exact ty_apart hc h2.blk (by decide)
  have n4 : ab ≠ r := ty_apart h4 h2.blk (by decide)
  refine ⟨v1, v2', h1.move (hl.kept s h1.lt n1) (fun k e => hl.kept k (h1.row_lt k e) (n3 k e)), hs, fun k e1 e2 => ?_, (hl.kept ab (Array.getElem?_eq_some_iff.1 h4).1 n4).trans h4⟩
  rcases hl.at_ k e2 with h | h
  · exact h3 k e1 h
  · have := h1.row_lt k e1
    omega
theorem duo_add (h : Kst w (DuoX w.heap.size s L r M ab cs) W) (f l : Int) : Calls Try.prog 17 #[.pointer (some ⟨s, 0, none⟩), .int .i64 f, .int .i64 l] W fun e w' => e = .returned (.int .i64 (addR L f l).1) ∧ Kst w (DuoX w.heap.size s (addR L f l).2 r M ab cs) w' := by
  obtain ⟨v1, v2, h1, h2, h3, h4⟩ := h.r
  refine (add_s h1 h.bel.size f l).mono ?_
  rintro e w' ⟨v', rfl, hs', hl⟩
  exact ⟨rfl, h.bel.trans hl.below, setX_on h1 h2 h3 h4 hs' hl⟩
theorem duo_rem (h : Kst w (DuoX w.heap.size s L r M ab cs) W) (f l : Int) : Calls Try.prog 19 #[.pointer (some ⟨s, 0, none⟩), .int .i64 f, .int .i64 l] W fun e w' => e = .returned (.int .i64 (remR L f l).1) ∧ Kst w (DuoX w.heap.size s (remR L f l).2 r M ab cs) w' := by
  obtain ⟨v1, v2, h1, h2, h3, h4⟩ := h.r
  refine (rem_s h1 h.bel.size f l).mono ?_
  rintro e w' ⟨v', rfl, hs', hl⟩
  exact ⟨rfl, h.bel.trans hl.below, setX_on h1 h2 h3 h4 hs' hl⟩
theorem duo_radd (h : Kst w (DuoX w.heap.size s L r M ab cs) W) (f l : Int) : Calls Try.prog 30 #[.pointer (some ⟨r, 0, none⟩), .int .i64 f, .int .i64 l] W fun e w' => e = .returned (.int .i64 (addR M f l).1) ∧ Kst w (DuoX w.heap.size s L r (addR M f l).2 ab cs) w' := by
  obtain ⟨v1, v2, h1, h2, h3, h4⟩ := h.r
  refine (radd_s h2 h.bel.size f l).mono ?_
  rintro e w' ⟨v', rfl, hs', hl⟩
  exact ⟨rfl, h.bel.trans hl.below, refX_on h1 h2 h3 h4 hs' hl⟩
theorem duo_rrem (h : Kst w (DuoX w.heap.size s L r M ab cs) W) (f l : Int) : Calls Try.prog 31 #[.pointer (some ⟨r, 0, none⟩), .int .i64 f, .int .i64 l] W fun e w' => e = .returned (.int .i64 (remR M f l).1) ∧ Kst w (DuoX w.heap.size s L r (remR M f l).2 ab cs) w' := by
  obtain ⟨v1, v2, h1, h2, h3, h4⟩ := h.r
  refine (rrem_s h2 h.bel.size f l).mono ?_
  rintro e w' ⟨v', rfl, hs', hl⟩
  exact ⟨rfl, h.bel.trans hl.below, refX_on h1 h2 h3 h4 hs' hl⟩
theorem duo_clone (h : Kst w (DuoX w.heap.size s L r M ab cs) W) : Calls Try.prog 22 #[.pointer (some ⟨s, 0, none⟩)] W fun e w' => ∃ o, e = .returned (.pointer (some ⟨o, 0, none⟩)) ∧ Kst w (TrioX w.heap.size s L o L r M ab cs) w' := by
  obtain ⟨v1, v2, h1, h2, h3, h4⟩ := h.r
  refine (clone_s h1).mono ?_
  rintro e w' ⟨o, v3, rfl, hg, hs2, hb⟩
  refine ⟨o, rfl, h.bel.trans (hb.mono h.bel.size), v1, v3, v2, h1.below hb, hs2.mono h.bel.size, h2.below hb, by have := h1.lt; omega, h3, fun k e1 e2 => ?_, fun k e1 e2 => ?_, (hb.block _ (Array.getElem?_eq_some_iff.1 h4).1).trans h4⟩
  · have := h1.row_lt k e1
    have := (own_typed hs2.row k e2).1
    omega
  · have := h2.row_lt k e2
    have := (own_typed hs2.row k e1).1
    omega
theorem trio_add (h : Kst w (TrioX w.heap.size s L o N r M ab cs) W) (f l : Int) : Calls Try.prog 17 #[.pointer (some ⟨s, 0, none⟩), .int .i64 f, .int .i64 l] W fun e w' => e = .returned (.int .i64 (addR L f l).1) ∧ Kst w (DuoX w.heap.size o N r M ab cs) w' := by
  obtain ⟨v1, v3, v2, h1, h3, h2, hne, a12, a13, a32, h4⟩ := h.r
  refine (add_s h1 h.bel.size f l).mono ?_
  rintro e w' ⟨v', rfl, hs', hl⟩
  obtain ⟨_, _, _, q2, _, q4⟩ := setX_on h1 h2 a12 h4 hs' hl
  have n1 : v1.ownBlock ≠ some o := fun e => by
    obtain ⟨_, c, hc⟩ := own_typed h1.row _ e
    exact ty_apart hc h3.blk (by decide) rfl
  have n2 : ∀ k, v3.ownBlock = some k → k ≠ s := fun k e => by
    obtain ⟨_, c, hc⟩ := own_typed h3.row _ e
    exact ty_apart hc h1.blk (by decide)
  have m3 := h3.move (hl.kept o h3.lt (fun e => hne e.symm) n1) (fun k e => hl.kept k (h3.row_lt k e) (n2 k e) (fun e1 => a13 k e1 e))
  have n3 : r ≠ s := ty_apart h2.blk h1.blk (by decide)
  have n4 : v1.ownBlock ≠ some r := fun e => by
    obtain ⟨_, c, hc⟩ := own_typed h1.row _ e
    exact ty_apart hc h2.blk (by decide) rfl
  have n5 : ∀ k, v2.ownBlock = some k → k ≠ s := fun k e => by
    obtain ⟨_, c, hc⟩ := own_typed h2.row _ e
    exact ty_apart hc h1.blk (by decide)
  exact ⟨rfl, h.bel.trans hl.below, v3, v2, m3, h2.move (hl.kept r h2.lt n3 n4) (fun k e => hl.kept k (h2.row_lt k e) (n5 k e) (fun e1 => a12 k e1 e)), a32, q4⟩
theorem duo_stands {R : World → Prop} (hR : Rk R) (h : Kst w R W) (hd : Duo w.heap.size s L r L W) (n : Int) (hn : n ≤ 9223372036854775807) : Calls Try.prog 32 #[.pointer (some ⟨s, 0, none⟩), .pointer (some ⟨r, 0, none⟩), .int .i64 n] W fun e w' => e = .returned (.bool true) ∧ Kst w R w' := by
  obtain ⟨v1, v2, h1, h2, _⟩ := hd
  refine (stands_s h1 h2 n hn).mono ?_
  rintro e w' ⟨rfl, hb⟩
  exact ⟨rfl, h.below hR hb⟩
/-- An act that came in. -/
abbrev Act4 := Int × Int × Int × Int
abbrev actK : Kd Act4 := Kd.pair (Kd.int .i64) (Kd.pair (Kd.int .i64) (Kd.pair (Kd.int .i64) (Kd.int .i64)))
theorem came_act {w : World} {A : Option Addr} {xs : List Act4} {k : Nat} {x : Act4} (h : Kd.C actK w A xs.length xs) (hk : xs[k]? = some x) :
    ∃ ad, A = some ad ∧ w.cell? (ad.add (k * 4)) = some (.int .i64 x.1) ∧ w.cell? (ad.add (k * 4 + 1)) = some (.int .i64 x.2.1) ∧ w.cell? (ad.add (k * 4 + 2)) = some (.int .i64 x.2.2.1) ∧ w.cell? (ad.add (k * 4 + 3)) = some (.int .i64 x.2.2.2) := by
  have hlt := (List.getElem?_eq_some_iff.1 hk).1
  obtain ⟨ad, hA, hq⟩ := h.2.2 (by omega)
  obtain ⟨cs, _, ⟨c0, d0, rfl, h0, ⟨c1, d1, rfl, h1, ⟨c2, c3, rfl, h2, h3⟩⟩⟩, hcell⟩ := hq k x hk
  have e0 : c0 = [.int .i64 x.1] := h0
  have e1 : c1 = [.int .i64 x.2.1] := h1
  have e2 : c2 = [.int .i64 x.2.2.1] := h2
  have e3 : c3 = [.int .i64 x.2.2.2] := h3
  subst e0; subst e1; subst e2; subst e3
  exact ⟨ad, hA, hcell 0 _ rfl, hcell 1 _ rfl, hcell 2 _ rfl, hcell 3 _ rfl⟩
theorem duoX_cells {b : Nat} {a0 a1 a2 a3 : Value} (h : DuoX b s L r M ab #[a0, a1, a2, a3] W) : W.cell? ⟨ab, 0, none⟩ = some a0 ∧ W.cell? ⟨ab, 1, none⟩ = some a1 ∧ W.cell? ⟨ab, 2, none⟩ = some a2 ∧ W.cell? ⟨ab, 3, none⟩ = some a3 := by
  obtain ⟨_, _, _, _, _, h4⟩ := h
  refine ⟨?_, ?_, ?_, ?_⟩ <;> (rw [cell_of_row W ab _ _ _ _ h4]; rfl)
theorem trioX_cells {b : Nat} {a0 a1 a2 a3 : Value} (h : TrioX b s L o N r M ab #[a0, a1, a2, a3] W) : W.cell? ⟨ab, 0, none⟩ = some a0 ∧ W.cell? ⟨ab, 1, none⟩ = some a1 ∧ W.cell? ⟨ab, 2, none⟩ = some a2 ∧ W.cell? ⟨ab, 3, none⟩ = some a3 := by
  obtain ⟨_, _, _, _, _, _, _, _, _, _, h4⟩ := h
  refine ⟨?_, ?_, ?_, ?_⟩ <;> (rw [cell_of_row W ab _ _ _ _ h4]; rfl)
/-- Under way: so many acts are done, and both hold the same. -/
def PlayRel (w : World) (r : Nat) (acts : List Act4) (sv iv : Value) (W : World) : Prop := ∃ (k s : Nat) (L : List Sp), k ≤ acts.length ∧ sv = .pointer (some ⟨s, 0, none⟩) ∧ iv = .int .i64 k ∧ Kst w (Duo w.heap.size s L r L) W
set_option maxRecDepth 100000 in
set_option maxHeartbeats 6400000 in
theorem play_walk (A1 : Option Addr) (acts : List Act4) (c1 : Nat) (w : World) (hlo : ∀ x ∈ acts, x.2.2.1 ≤ 9223372036854775807 ∧ x.2.2.2 ≤ 9223372036854775807) (hr1 : Kd.C actK w A1 acts.length acts) (hl1 : acts.length ≤ 140737488351232) :
    Calls Try.prog 8 #[.slice A1 acts.length c1] w fun e w' => e = .returned (.bool true) ∧ Below w.heap.size w w' := by
  have HR1 := Aside0.mk hr1
  have HLO := Aside0.mk hlo
  clear hr1 hlo
  have CN : Aside0 (∀ W, Calls Try.prog 29 #[] W fun e w' => e = .returned (.bool true) ∧ Drawn0 W w') := ⟨fun W => QRg.caravellaw05_names.calls true W rfl⟩
  go_enter Try.func8, Try.ntmps8
  go_wp2_with (first
    | (go_at_call 16; refine (new_s _).mono ?_; rintro e w1 ⟨rfl, hw1⟩)
    | (go_at_call 29; refine (CN.out _).mono ?_; rintro e w2 ⟨rfl, hd⟩))
  obtain ⟨r, hr⟩ : ∃ r, w.heap.size + 1 = r := ⟨_, rfl⟩
  have hb2 : Below w.heap.size w ((w.alloc (.cells #[.bool true, .slice none 0 0] 60)).alloc (.cells #[.slice none 0 0] 68)) := (below_alloc (Below.refl _ w) _).alloc (by simp) _
  have hd2 : Kst w (Duo w.heap.size w.heap.size [] r []) ((w.alloc (.cells #[.bool true, .slice none 0 0] 60)).alloc (.cells #[.slice none 0 0] 68)) := by
    have hb := heap_alloc_new (w.alloc (.cells #[.bool true, .slice none 0 0] 60)) (.cells #[.slice none 0 0] 68)
    rw [World.size_alloc, hr] at hb
    exact ⟨hb2, _, _, (new_at w _ (Nat.le_refl _)).alloc _, ⟨by omega, hb, ⟨by simp [cells], .inl ⟨rfl, rfl⟩⟩, ok_nil, by simp⟩, fun k e => by simp [Value.ownBlock] at e⟩
  have n0 : Kst w (Duo w.heap.size w.heap.size [] r []) w2 := by
    obtain ⟨k, rfl⟩ := hd
    exact hd2.below (duo_rk _ _ _ _ _) (bl_drewN k)
  have HS := Aside0.mk n0
  rw [hr]
  clear hb2 hd2 n0 hd hw1 hr CN
  go_loopw [3, 5] (fun sv iv W => PlayRel w r acts sv iv W) (fun _ iv _ => acts.length - (intOf iv).toNat)
  case atStart => exact ⟨0, _, [], Nat.zero_le _, rfl, rfl, HS.out⟩
  case round =>
    clear HS
    obtain ⟨k, s, L, hk, rfl, rfl, hs⟩ := hrel
    have HS := Aside0.mk hs
    clear hs
    by_cases hlt : k < acts.length
    · obtain ⟨x, hx⟩ : ∃ x, acts[k]? = some x := ⟨_, List.getElem?_eq_getElem hlt⟩
      obtain ⟨ad, hA1, g0, g1, g2, g3⟩ := came_act HR1.out hx
      subst hA1
      have hlow := HLO.out x (List.mem_of_getElem? hx)
      have e0 := pw_cell_below HS.out.bel g0
      have e1 := pw_cell_below HS.out.bel g1
      have e2 := pw_cell_below HS.out.bel g2
      have e3 := pw_cell_below HS.out.bel g3
      clear g0 g1 g2 g3 hx
      obtain ⟨kd, f, l, q⟩ := x
      simp only at e0 e1 e2 e3 hlow
      rw [add_field _ _ _ (by decide)] at e1 e2 e3
      go_upto_region 8 with fail
      obtain ⟨ab, hab⟩ : ∃ ab, wr.heap.size = ab := ⟨_, rfl⟩
      have hnew := heap_alloc_new wr (.cells #[.int .i64 kd, .int .i64 f, .int .i64 l, .int .i64 q] 58)
      rw [hab] at hnew ⊢
      have hk2 := HS.out.below (duo_rk _ _ _ _ _) (below_alloc (Below.refl _ wr) (.cells #[.int .i64 kd, .int .i64 f, .int .i64 l, .int .i64 q] 58))
      obtain ⟨wa, hwa⟩ : ∃ wa, wr.alloc (.cells #[.int .i64 kd, .int .i64 f, .int .i64 l, .int .i64 q] 58) = wa := ⟨_, rfl⟩
      rw [hwa] at hnew hk2 ⊢
      have n0 : Kst w (DuoX w.heap.size s L r L ab #[.int .i64 kd, .int .i64 f, .int .i64 l, .int .i64 q]) wa := by
        obtain ⟨hb, v1, v2, h1, h2, h3⟩ := hk2
        exact ⟨hb, v1, v2, h1, h2, h3, hnew⟩
      clear HS hwa hab hk2 hnew e0 e1 e2 e3
      have HS := Aside0.mk n0
      clear n0
      obtain ⟨ea0, ea1, ea2, ea3⟩ := duoX_cells HS.out.r
      by_cases h0 : kd = 0
      · subst h0
        · go_upto_region 10 with fail
          obtain ⟨c, L1, hp⟩ : ∃ c L1, addR L f l = (c, L1) := ⟨_, _, rfl⟩
          have C1 : Aside0 (∀ W, Kst w (DuoX w.heap.size s L r L ab #[.int .i64 0, .int .i64 f, .int .i64 l, .int .i64 q]) W → Calls Try.prog 17 #[.pointer (some ⟨s, 0, none⟩), .int .i64 f, .int .i64 l] W fun e w' => e = .returned (.int .i64 c) ∧ Kst w (DuoX w.heap.size s L1 r L ab #[.int .i64 0, .int .i64 f, .int .i64 l, .int .i64 q]) w') := ⟨fun W h => by have := duo_add h f l; rw [hp] at this; exact this⟩
          have C2 : Aside0 (∀ W, Kst w (DuoX w.heap.size s L1 r L ab #[.int .i64 0, .int .i64 f, .int .i64 l, .int .i64 q]) W → Calls Try.prog 30 #[.pointer (some ⟨r, 0, none⟩), .int .i64 f, .int .i64 l] W fun e w' => e = .returned (.int .i64 c) ∧ Kst w (DuoX w.heap.size s L1 r L1 ab #[.int .i64 0, .int .i64 f, .int .i64 l, .int .i64 q]) w') := ⟨fun W h => by have := duo_radd h f l; rw [hp] at this; exact this⟩
          clear hp
          go_region_held3 (fun w' => w'.cell? ⟨ab, 1, none⟩ = some (.int .i64 f) ∧ w'.cell? ⟨ab, 2, none⟩ = some (.int .i64 l)) (first | exact ⟨ea1, ea2⟩ | (simp [go_sem, *]; done))
            (first
              | (go_at_call 17; with_reducible refine (C1.out _ (show Kst w (DuoX w.heap.size s L r L ab #[.int .i64 0, .int .i64 f, .int .i64 l, .int .i64 q]) _ from by first | exact HS.out | exact HS.out.below (duoX_rk _ _ _ _ _ _ _) (Below.refl _ _).drew | exact HS.out.below (duoX_rk _ _ _ _ _ _ _) (bl_drewN _))).mono ?_; rintro e w4 ⟨rfl, hs⟩; clear HS ea0 ea1 ea2 ea3; have HS := Aside0.mk hs; clear hs; obtain ⟨ea0, ea1, ea2, ea3⟩ := duoX_cells HS.out.r)
              | (go_at_call 30; with_reducible refine (C2.out _ (show Kst w (DuoX w.heap.size s L1 r L ab #[.int .i64 0, .int .i64 f, .int .i64 l, .int .i64 q]) _ from by first | exact HS.out | exact HS.out.below (duoX_rk _ _ _ _ _ _ _) (Below.refl _ _).drew | exact HS.out.below (duoX_rk _ _ _ _ _ _ _) (bl_drewN _))).mono ?_; rintro e w5 ⟨rfl, hs⟩; clear HS ea0 ea1 ea2 ea3; have HS := Aside0.mk hs; clear hs; obtain ⟨ea0, ea1, ea2, ea3⟩ := duoX_cells HS.out.r))
          clear C1 C2
          go_wp2_with (first
            | (go_at_call 32; with_reducible refine (duo_stands (duoX_rk _ _ _ _ _ _ _) HS.out HS.out.r.duo q hlow.2).mono ?_; rintro e w6 ⟨rfl, hs⟩; clear HS ea0 ea1 ea2 ea3; have HS := Aside0.mk hs; clear hs; obtain ⟨ea0, ea1, ea2, ea3⟩ := duoX_cells HS.out.r)
            | (go_at_call 32; with_reducible refine (duo_stands (duoX_rk _ _ _ _ _ _ _) HS.out HS.out.r.duo l hlow.1).mono ?_; rintro e w7 ⟨rfl, hs⟩; clear HS ea0 ea1 ea2 ea3; have HS := Aside0.mk hs; clear hs; obtain ⟨ea0, ea1, ea2, ea3⟩ := duoX_cells HS.out.r))
          exact ⟨⟨k + 1, s, L1, by omega, rfl, by simp, HS.out.bel, HS.out.r.duo⟩, by simp [intOf]; omega⟩

      · by_cases h1 : kd = 1
        · subst h1
          go_upto_region 13 with fail
          obtain ⟨c, L1, hp⟩ : ∃ c L1, remR L f l = (c, L1) := ⟨_, _, rfl⟩
          have C1 : Aside0 (∀ W, Kst w (DuoX w.heap.size s L r L ab #[.int .i64 1, .int .i64 f, .int .i64 l, .int .i64 q]) W → Calls Try.prog 19 #[.pointer (some ⟨s, 0, none⟩), .int .i64 f, .int .i64 l] W fun e w' => e = .returned (.int .i64 c) ∧ Kst w (DuoX w.heap.size s L1 r L ab #[.int .i64 1, .int .i64 f, .int .i64 l, .int .i64 q]) w') := ⟨fun W h => by have := duo_rem h f l; rw [hp] at this; exact this⟩
          have C2 : Aside0 (∀ W, Kst w (DuoX w.heap.size s L1 r L ab #[.int .i64 1, .int .i64 f, .int .i64 l, .int .i64 q]) W → Calls Try.prog 31 #[.pointer (some ⟨r, 0, none⟩), .int .i64 f, .int .i64 l] W fun e w' => e = .returned (.int .i64 c) ∧ Kst w (DuoX w.heap.size s L1 r L1 ab #[.int .i64 1, .int .i64 f, .int .i64 l, .int .i64 q]) w') := ⟨fun W h => by have := duo_rrem h f l; rw [hp] at this; exact this⟩
          clear hp
          go_region_held3 (fun w' => w'.cell? ⟨ab, 1, none⟩ = some (.int .i64 f) ∧ w'.cell? ⟨ab, 2, none⟩ = some (.int .i64 l)) (first | exact ⟨ea1, ea2⟩ | (simp [go_sem, *]; done))
            (first
              | (go_at_call 19; with_reducible refine (C1.out _ (show Kst w (DuoX w.heap.size s L r L ab #[.int .i64 1, .int .i64 f, .int .i64 l, .int .i64 q]) _ from by first | exact HS.out | exact HS.out.below (duoX_rk _ _ _ _ _ _ _) (Below.refl _ _).drew | exact HS.out.below (duoX_rk _ _ _ _ _ _ _) (bl_drewN _))).mono ?_; rintro e w4 ⟨rfl, hs⟩; clear HS ea0 ea1 ea2 ea3; have HS := Aside0.mk hs; clear hs; obtain ⟨ea0, ea1, ea2, ea3⟩ := duoX_cells HS.out.r)
              | (go_at_call 31; with_reducible refine (C2.out _ (show Kst w (DuoX w.heap.size s L1 r L ab #[.int .i64 1, .int .i64 f, .int .i64 l, .int .i64 q]) _ from by first | exact HS.out | exact HS.out.below (duoX_rk _ _ _ _ _ _ _) (Below.refl _ _).drew | exact HS.out.below (duoX_rk _ _ _ _ _ _ _) (bl_drewN _))).mono ?_; rintro e w5 ⟨rfl, hs⟩; clear HS ea0 ea1 ea2 ea3; have HS := Aside0.mk hs; clear hs; obtain ⟨ea0, ea1, ea2, ea3⟩ := duoX_cells HS.out.r))
          clear C1 C2
          go_wp2_with (first
            | (go_at_call 32; with_reducible refine (duo_stands (duoX_rk _ _ _ _ _ _ _) HS.out HS.out.r.duo q hlow.2).mono ?_; rintro e w6 ⟨rfl, hs⟩; clear HS ea0 ea1 ea2 ea3; have HS := Aside0.mk hs; clear hs; obtain ⟨ea0, ea1, ea2, ea3⟩ := duoX_cells HS.out.r)
            | (go_at_call 32; with_reducible refine (duo_stands (duoX_rk _ _ _ _ _ _ _) HS.out HS.out.r.duo l hlow.1).mono ?_; rintro e w7 ⟨rfl, hs⟩; clear HS ea0 ea1 ea2 ea3; have HS := Aside0.mk hs; clear hs; obtain ⟨ea0, ea1, ea2, ea3⟩ := duoX_cells HS.out.r))
          exact ⟨⟨k + 1, s, L1, by omega, rfl, by simp, HS.out.bel, HS.out.r.duo⟩, by simp [intOf]; omega⟩

        · by_cases h2 : kd = 2
          · subst h2
            have CC := Aside0.mk (duo_clone HS.out)
            go_wp2_with (first
              | (go_at_call 22; with_reducible refine CC.out.mono ?_; rintro e w4 ⟨o, rfl, hs⟩; clear HS ea0 ea1 ea2 ea3; have HT := Aside0.mk hs; clear hs; obtain ⟨ea0, ea1, ea2, ea3⟩ := trioX_cells HT.out.r)
              | (go_at_call 17; with_reducible refine (trio_add HT.out f l).mono ?_; rintro e w5 ⟨rfl, hs⟩; clear ea0 ea1 ea2 ea3; have HS := Aside0.mk hs; clear hs; obtain ⟨ea0, ea1, ea2, ea3⟩ := duoX_cells HS.out.r)
              | (go_at_call 32; with_reducible refine (duo_stands (duoX_rk _ _ _ _ _ _ _) HS.out HS.out.r.duo q hlow.2).mono ?_; rintro e w6 ⟨rfl, hs⟩; clear HS ea0 ea1 ea2 ea3; have HS := Aside0.mk hs; clear hs; obtain ⟨ea0, ea1, ea2, ea3⟩ := duoX_cells HS.out.r)
              | (go_at_call 32; with_reducible refine (duo_stands (duoX_rk _ _ _ _ _ _ _) HS.out HS.out.r.duo l hlow.1).mono ?_; rintro e w7 ⟨rfl, hs⟩; clear HS ea0 ea1 ea2 ea3; have HS := Aside0.mk hs; clear hs; obtain ⟨ea0, ea1, ea2, ea3⟩ := duoX_cells HS.out.r))
            exact ⟨⟨k + 1, o, L, by omega, rfl, by simp, HS.out.bel, HS.out.r.duo⟩, by simp [intOf]; omega⟩
          · have d0 : (kd == 0) = false := by simp [h0]
            have d1 : (kd == 1) = false := by simp [h1]
            have d2 : (kd == 2) = false := by simp [h2]
            go_wp2_with (first
              | (go_at_call 32; with_reducible refine (duo_stands (duoX_rk _ _ _ _ _ _ _) HS.out HS.out.r.duo q hlow.2).mono ?_; rintro e w6 ⟨rfl, hs⟩; clear HS ea0 ea1 ea2 ea3; have HS := Aside0.mk hs; clear hs; obtain ⟨ea0, ea1, ea2, ea3⟩ := duoX_cells HS.out.r)
              | (go_at_call 32; with_reducible refine (duo_stands (duoX_rk _ _ _ _ _ _ _) HS.out HS.out.r.duo l hlow.1).mono ?_; rintro e w7 ⟨rfl, hs⟩; clear HS ea0 ea1 ea2 ea3; have HS := Aside0.mk hs; clear hs; obtain ⟨ea0, ea1, ea2, ea3⟩ := duoX_cells HS.out.r))
            exact ⟨⟨k + 1, s, L, by omega, rfl, by simp, HS.out.bel, HS.out.r.duo⟩, by simp [intOf]; omega⟩
    · obtain rfl : k = acts.length := by omega
      go_wp2_with (go_at_call 32; refine (duo_stands (duo_rk _ _ _ _ _) HS.out HS.out.r 0 (by omega)).mono ?_; rintro e w6 ⟨rfl, hs⟩; have HF := Aside0.mk hs; clear hs)
      go_ret
      exact ⟨rfl, HF.out.bel⟩
theorem play_row (A1 : Option Addr) (acts : List Act4) (c1 : Nat) (w : World) (hok : ∀ x ∈ acts, (Lit.int .i64 x.1).wf = true ∧ (Lit.int .i64 x.2.1).wf = true ∧ (Lit.int .i64 x.2.2.1).wf = true ∧ (Lit.int .i64 x.2.2.2).wf = true)
    (hr1 : Kd.C actK w A1 acts.length acts) (hl1 : acts.length * Try.prog.bytesOf 58 ≤ reachBytes) :
    Calls Try.prog 8 #[.slice A1 acts.length c1] w fun e w' => e = .returned (.bool true) ∧ Below w.heap.size w w' := by
  have e2 : Try.prog.bytesOf 58 = 32 := by kernel_rfl
  have e4 : reachBytes = 140737488351232 := by decide +kernel
  rw [e2, e4] at hl1
  have m0 : IntKind.i64.min = -9223372036854775808 := by decide +kernel
  have m1 : IntKind.i64.max = 9223372036854775807 := by decide +kernel
  have hw : ∀ x : Int, (Lit.int .i64 x).wf = true → -9223372036854775808 ≤ x ∧ x ≤ 9223372036854775807 := fun x h => by
    simp [Lit.wf, m0, m1] at h
    exact h
  exact play_walk A1 acts c1 w (fun x hx => ⟨(hw _ (hok x hx).2.2.1).2, (hw _ (hok x hx).2.2.2).2⟩) hr1 (by omega)
end Go.Proofs.Ytmkojmjjlcfohaa.Rg
