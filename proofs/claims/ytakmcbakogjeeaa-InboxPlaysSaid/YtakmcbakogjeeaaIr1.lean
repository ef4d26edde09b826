/- The document's box (layer 6): what lies in memory; New, Grow, End, Ready; no condition. -/
import Derived.Test.YtakmcbakogjeeaaIb10
import Derived.Test.YtakmcbakogjeeaaWRow
set_option linter.unusedVariables false
set_option linter.unusedSimpArgs false
namespace Go.Proofs.Ytakmcbakogjeeaa.Ib
open Go Go.RowKit Go.Maps Go.Proofs.Ytakmcbakogjeeaa.Rm Go.Proofs.Ytakmcbakogjeeaa.Rw
open Go.Proofs.YtakmcbakogjeeaaW.PrintWords Go.Proofs.YtakmcbakogjeeaaW.PrintLast Go.Proofs.YtakmcbakogjeeaaW.PrintMore
/-- Bytes with their places, as cells. -/
def bcells (L : List By) : List Value := L.flatMap (fun z => [.int .i64 z.1, .int .u8 z.2])
theorem bc_cons (z : By) (L : List By) : bcells (z :: L) = .int .i64 z.1 :: .int .u8 z.2 :: bcells L := by unfold bcells; rw [List.flatMap_cons]; rfl
theorem bc_append (L M : List By) : bcells (L ++ M) = bcells L ++ bcells M := by unfold bcells; rw [List.flatMap_append]
theorem bc_len : ∀ L : List By, (bcells L).length = L.length * 2
  | [] => rfl
  | z :: L => by rw [bc_cons, List.length_cons, List.length_cons, List.length_cons, bc_len L]; omega
theorem bc_drop : ∀ (L : List By) (k : Nat), (bcells L).drop (k * 2) = bcells (L.drop k)
  | L, 0 => by simp
  | [], k + 1 => by simp [bcells]
  | z :: L, k + 1 => by
    rw [bc_cons, show (k + 1) * 2 = k * 2 + 1 + 1 by omega, List.drop_succ_cons, List.drop_succ_cons, bc_drop L k, List.drop_succ_cons]
theorem bc_take : ∀ (L : List By) (k : Nat), (bcells L).take (k * 2) = bcells (L.take k)
  | L, 0 => by simp [bcells]
  | [], k + 1 => by simp [bcells]
  | z :: L, k + 1 => by
    rw [bc_cons, show (k + 1) * 2 = k * 2 + 1 + 1 by omega, List.take_succ_cons, List.take_succ_cons, bc_take L k, List.take_succ_cons, bc_cons]
theorem bc_get : ∀ (L : List By) (k : Nat) (z : By), L[k]? = some z → (bcells L)[k * 2]? = some (.int .i64 z.1) ∧ (bcells L)[k * 2 + 1]? = some (.int .u8 z.2)
  | [], k, z, h => by simp at h
  | y :: L, 0, z, h => by
    have e : y = z := by simpa using h
    subst e
    rw [bc_cons]
    exact ⟨rfl, rfl⟩
  | y :: L, k + 1, z, h => by
    rw [bc_cons, show (k + 1) * 2 = k * 2 + 1 + 1 by omega]
    simpa using bc_get L k z (by simpa using h)
theorem bc_one {L : List By} : ∀ u ∈ bcells L, u.oneCell' = true := fun u hu => by
  obtain ⟨z, _, hz⟩ := List.mem_flatMap.1 hu
  rcases List.mem_cons.1 hz with rfl | hz
  · rfl
  · rw [List.mem_singleton.1 hz]; rfl
/-- The document's box in block r. -/
structure RBox (W : World) (b r : Nat) (h : Hd) (A : Option Addr) (c : Nat) (L : List By) : Prop where
  hg : b ≤ r
  blk : W.heap[r]? = some (.cells #[.int .i64 h.room, .int .i64 h.place, .int .i64 h.limit, .int .i64 h.reach, .int .i64 h.final, .bool h.known, .slice A L.length c] 56 (0, 0))
  row : WRow W b 157 2 (.slice A L.length c) L.length (bcells L)
section
variable {W W' : World} {b r : Nat} {h : Hd} {A : Option Addr} {c : Nat} {L : List By}
theorem RBox.lt (x : RBox W b r h A c L) : r < W.heap.size := (Array.getElem?_eq_some_iff.1 x.blk).1
theorem RBox.cl (x : RBox W b r h A c L) : W.cell? ⟨r, 0, none⟩ = some (.int .i64 h.room) ∧ W.cell? ⟨r, 1, none⟩ = some (.int .i64 h.place) ∧ W.cell? ⟨r, 2, none⟩ = some (.int .i64 h.limit) ∧ W.cell? ⟨r, 3, none⟩ = some (.int .i64 h.reach) ∧
    W.cell? ⟨r, 4, none⟩ = some (.int .i64 h.final) ∧ W.cell? ⟨r, 5, none⟩ = some (.bool h.known) ∧ W.cell? ⟨r, 6, none⟩ = some (.slice A L.length c) := by
  refine ⟨?_, ?_, ?_, ?_, ?_, ?_, ?_⟩ <;> (rw [cell_of_row W r _ _ _ _ x.blk]; rfl)
theorem RBox.free (x : RBox W b r h A c L) (i : Nat) : W.frozen? ⟨r, i, none⟩ = false := blk_frozen x.blk i
theorem RBox.row_ne (x : RBox W b r h A c L) (k : Nat) (hk : (Value.slice A L.length c).ownBlock = some k) : k ≠ r := by
  obtain ⟨_, cs, hc⟩ := wr_typed x.row k hk
  rintro rfl
  rw [x.blk] at hc
  injection hc with hc
  injection hc with _ hc
  exact absurd hc (by decide)
/-- It lies as it lay. -/
theorem RBox.move (x : RBox W b r h A c L) (hr : W'.heap[r]? = W.heap[r]?) (hm : ∀ k, (Value.slice A L.length c).ownBlock = some k → W'.heap[k]? = W.heap[k]?) : RBox W' b r h A c L := ⟨x.hg, hr.trans x.blk, wr_move x.row hm⟩
theorem RBox.below (x : RBox W b r h A c L) (hb : Below W.heap.size W W') : RBox W' b r h A c L := x.move (hb.block r x.lt) (fun k hk => hb.block k (wr_lt x.row k hk))
theorem RBox.drewN (x : RBox W b r h A c L) (k : Nat) : RBox (W.drewN k) b r h A c L := x.below (bl_drewN k)
/-- One number set. -/
theorem RBox.put (x : RBox W b r h A c L) (i : Nat) (v : Value) (h' : Hd) (he : #[Value.int .i64 h.room, .int .i64 h.place, .int .i64 h.limit, .int .i64 h.reach, .int .i64 h.final, .bool h.known, .slice A L.length c].setIfInBounds i v = #[Value.int .i64 h'.room, .int .i64 h'.place, .int .i64 h'.limit, .int .i64 h'.reach, .int .i64 h'.final, .bool h'.known, .slice A L.length c]) : RBox (W.setCell ⟨r, i, none⟩ v) b r h' A c L := by
  refine ⟨x.hg, ?_, wr_move x.row (fun k hk => Below.heap_setCell W ⟨r, i, none⟩ v k (x.row_ne k hk))⟩
  rw [← he]
  exact blk_set x.blk i v
theorem heap_dn (W : World) (n k : Nat) : (W.drewN n).heap[k]? = W.heap[k]? := by
  induction n with
  | zero => rfl
  | succ n ih => exact ih
/-- What a call leaves of all else. -/
structure LfR (W W' : World) (b r : Nat) : Prop where
  bel : Below b W W'
  kept : ∀ k, k < W.heap.size → k ≠ r → W'.heap[k]? = W.heap[k]?
theorem LfR.refl (W : World) (b r : Nat) : LfR W W b r := ⟨Below.refl _ _, fun _ _ _ => rfl⟩
theorem LfR.of_below (hb : Below W.heap.size W W') (h : b ≤ W.heap.size) : LfR W W' b r := ⟨hb.mono h, fun k hk _ => hb.block k hk⟩
theorem LfR.then {W2 : World} (h : LfR W W' b r) (h2 : LfR W' W2 b r) : LfR W W2 b r := ⟨h.bel.trans h2.bel, fun k hk hn => (h2.kept k (Nat.lt_of_lt_of_le hk h.bel.size) hn).trans (h.kept k hk hn)⟩
theorem LfR.set (h : LfR W W' b r) (hg : b ≤ r) (i : Nat) (v : Value) : LfR W (W'.setCell ⟨r, i, none⟩ v) b r := ⟨h.bel.setCell (p := ⟨r, i, none⟩) hg v, fun k hk hn => (Below.heap_setCell W' ⟨r, i, none⟩ v k hn).trans (h.kept k hk hn)⟩
theorem LfR.drewN (h : LfR W W' b r) (n : Nat) : LfR W (W'.drewN n) b r := ⟨pw_below_drewN h.bel n, fun k hk hn => by rw [← h.kept k hk hn]; exact heap_dn W' n k⟩
theorem rnew_bad (room : Int) (W : World) (hr : room < 0 ∨ 1048576 < room) : Calls Try.prog 25 #[.int .i64 room] W fun e w' => e = .returned (.tuple #[.pointer none, .int .i64 2]) ∧ W = w' := by
  by_cases h0 : room < 0
  · go_enter Try.func25, Try.ntmps25
    go_wp2
    go_ret2
    exact ⟨rfl, rfl⟩
  · have h1 : 1048576 < room := by omega
    go_enter Try.func25, Try.ntmps25
    go_wp2
    go_ret2
    exact ⟨rfl, rfl⟩
theorem rnew_s (room : Int) (W : World) (h0 : 0 ≤ room) (h1 : room ≤ 1048576) : Calls Try.prog 25 #[.int .i64 room] W fun e w' => ∃ r, e = .returned (.tuple #[.pointer (some ⟨r, 0, none⟩), .int .i64 0]) ∧ RBox w' W.heap.size r ⟨room, 0, room, 0, 0, false⟩ none 0 [] ∧ Below W.heap.size W w' := by
  go_enter Try.func25, Try.ntmps25
  go_wp2
  go_ret2
  exact ⟨_, rfl, ⟨Nat.le_refl _, heap_alloc_new W _, wr_nil _ _ _ _⟩, below_alloc (Below.refl _ W) _⟩
theorem raise_s (x : RBox W b r h A c L) (hp0 : 0 ≤ h.place) (hp1 : h.place ≤ 4611686018427387903) (hr0 : 0 ≤ h.room) (hr1 : h.room ≤ 1048576) : Calls Try.prog 80 #[.pointer (some ⟨r, 0, none⟩)] W fun e w' => e = .returned (.tuple #[]) ∧ RBox w' b r { h with limit := max h.limit (h.place + h.room) } A c L ∧ LfR W w' b r := by
  obtain ⟨c0, c1, c2, c3, c4, c5, c6⟩ := x.cl
  have f2 := x.free 2
  have X := Aside0.mk x
  clear x
  by_cases hl : h.place + h.room > h.limit
  · rw [show max h.limit (h.place + h.room) = h.place + h.room by omega]
    go_enter Try.func80, Try.ntmps80
    go_wp2_with fail
    go_quiet (fail)
    go_upto_region 1 with fail
    have x1 := X.out.drewN nq
    have l1 := (LfR.refl W b r).drewN nq
    obtain ⟨W1, hW1⟩ : ∃ W1, W.drewN nq = W1 := ⟨_, rfl⟩
    rw [hW1] at x1 l1 ⊢
    clear hW1 c0 c1 c2 c3 c4 c5 c6 f2 X
    have X := Aside0.mk x1
    have HL := Aside0.mk l1
    clear x1 l1
    obtain ⟨c0, c1, c2, c3, c4, c5, c6⟩ := X.out.cl
    have f2 := X.out.free 2
    go_region
    go_wp2_with fail
    go_end0
    exact ⟨rfl, (X.out.put 2 (.int .i64 (h.place + h.room)) { h with limit := h.place + h.room } rfl).below (Below.refl _ _).drew, (HL.out.set X.out.hg 2 (.int .i64 (h.place + h.room))).drewN 1⟩
  · rw [show max h.limit (h.place + h.room) = h.limit by omega]
    have hl' : h.place + h.room ≤ h.limit := by omega
    clear hl
    go_enter Try.func80, Try.ntmps80
    go_wp2_with fail
    go_quiet (fail)
    go_wp2_with fail
    go_end0
    exact ⟨rfl, X.out.drewN nq, (LfR.refl W b r).drewN nq⟩
theorem rgrow_bad (x : RBox W b r h A c L) (room : Int) (hr : room < 0 ∨ 1048576 < room) : Calls Try.prog 30 #[.pointer (some ⟨r, 0, none⟩), .int .i64 room] W fun e w' => e = .returned (.int .i64 2) ∧ W = w' := by
  clear x
  by_cases h0 : room < 0
  · go_enter Try.func30, Try.ntmps30
    go_wp2
    go_ret
    exact ⟨rfl, rfl⟩
  · have h1 : 1048576 < room := by omega
    go_enter Try.func30, Try.ntmps30
    go_wp2
    go_ret
    exact ⟨rfl, rfl⟩
theorem rgrow_s (x : RBox W b r h A c L) (room : Int) (hr0 : 0 ≤ room) (hr1 : room ≤ 1048576) (hp0 : 0 ≤ h.place) (hp1 : h.place ≤ 4611686018427387903) : Calls Try.prog 30 #[.pointer (some ⟨r, 0, none⟩), .int .i64 room] W fun e w' => e = .returned (.int .i64 0) ∧ RBox w' b r { h with room := room, limit := max h.limit (h.place + room) } A c L ∧ LfR W w' b r := by
  obtain ⟨c0, c1, c2, c3, c4, c5, c6⟩ := x.cl
  have f0 := x.free 0
  have Y := Aside0.mk (x.put 0 (.int .i64 room) { h with room := room } rfl)
  have HL := Aside0.mk ((LfR.refl W b r).set x.hg 0 (.int .i64 room))
  clear x
  go_enter Try.func30, Try.ntmps30
  go_wp2_with (go_at_call 80; (with_reducible refine (raise_s Y.out hp0 hp1 hr0 hr1).mono ?_); rintro e w2 ⟨rfl, hx, hl⟩; have HX := Aside0.mk hx; have HL2 := Aside0.mk hl; clear hx hl)
  go_ret
  exact ⟨rfl, HX.out, HL.out.then HL2.out⟩
set_option maxHeartbeats 3200000 in
theorem rend_s (x : RBox W b r h A c L) (f : Int) : Calls Try.prog 29 #[.pointer (some ⟨r, 0, none⟩), .int .i64 f] W fun e w' => e = .returned (.int .i64 (endV h f)) ∧ RBox w' b r (endH h f) A c L ∧ LfR W w' b r := by
  obtain ⟨c0, c1, c2, c3, c4, c5, c6⟩ := x.cl
  have f3 := x.free 3
  have f4 := x.free 4
  have f5 := x.free 5
  have X := Aside0.mk x
  clear x
  obtain ⟨rm, pl, li, re, fi, kn⟩ := h
  simp only at c0 c1 c2 c3 c4 c5
  by_cases h0 : f < 0
  · have hv : endV ⟨rm, pl, li, re, fi, kn⟩ f = 2 := by unfold endV; rw [if_pos (.inl h0)]
    have hh : endH ⟨rm, pl, li, re, fi, kn⟩ f = ⟨rm, pl, li, re, fi, kn⟩ := by unfold endH; rw [hv]; rfl
    rw [hv, hh]
    clear hv hh
    go_enter Try.func29, Try.ntmps29
    go_wp2
    go_ret
    exact ⟨rfl, X.out, LfR.refl _ _ _⟩
  by_cases h1 : f > 4611686018427387903
  · have hv : endV ⟨rm, pl, li, re, fi, kn⟩ f = 2 := by unfold endV; rw [if_pos (.inr h1)]
    have hh : endH ⟨rm, pl, li, re, fi, kn⟩ f = ⟨rm, pl, li, re, fi, kn⟩ := by unfold endH; rw [hv]; rfl
    rw [hv, hh]
    clear hv hh
    go_enter Try.func29, Try.ntmps29
    go_wp2
    go_ret
    exact ⟨rfl, X.out, LfR.refl _ _ _⟩
  by_cases hre : f < re
  · have hv : endV ⟨rm, pl, li, re, fi, kn⟩ f = 33 := by unfold endV endsV; rw [if_neg (by omega), if_pos (by simp [hre])]
    have hh : endH ⟨rm, pl, li, re, fi, kn⟩ f = ⟨rm, pl, li, re, fi, kn⟩ := by unfold endH; rw [hv]; rfl
    rw [hv, hh]
    clear hv hh
    have d3 : decide (f < re) = true := decide_eq_true hre
    cases kn
    · go_enter Try.func29, Try.ntmps29
      go_wp2
      go_ret
      exact ⟨rfl, X.out, LfR.refl _ _ _⟩
    · by_cases hf : fi = f
      · subst hf
        have d4 : (fi != fi) = false := by simp
        go_enter Try.func29, Try.ntmps29
        go_wp2
        go_ret
        exact ⟨rfl, X.out, LfR.refl _ _ _⟩
      · have d4 : (fi != f) = true := by simp [hf]
        go_enter Try.func29, Try.ntmps29
        go_wp2
        go_ret
        exact ⟨rfl, X.out, LfR.refl _ _ _⟩
  have d3 : decide (f < re) = false := decide_eq_false hre
  by_cases hk : kn = true ∧ fi ≠ f
  · obtain ⟨rfl, hf⟩ := hk
    have hv : endV ⟨rm, pl, li, re, fi, true⟩ f = 33 := by unfold endV endsV; rw [if_neg (by omega), if_pos (by simp [Ne.symm hf])]
    have hh : endH ⟨rm, pl, li, re, fi, true⟩ f = ⟨rm, pl, li, re, fi, true⟩ := by unfold endH; rw [hv]; rfl
    rw [hv, hh]
    clear hv hh
    have d4 : (fi != f) = true := by simp [hf]
    go_enter Try.func29, Try.ntmps29
    go_wp2
    go_ret
    exact ⟨rfl, X.out, LfR.refl _ _ _⟩
  have hq : (kn && (decide (f > fi) || (true && !(f == fi))) || (true && decide (f < re))) = false := by
    rw [d3]
    cases kn with
    | false => rfl
    | true =>
      have : fi = f := by
        by_cases e : fi = f
        · exact e
        · exact absurd ⟨rfl, e⟩ hk
      subst this
      simp
  have hk' : kn = false ∨ fi = f := by
    cases kn with
    | false => exact .inl rfl
    | true => exact .inr (by
        by_cases e : fi = f
        · exact e
        · exact absurd ⟨rfl, e⟩ hk)
  clear hk
  by_cases hli : f > li
  · have hv : endV ⟨rm, pl, li, re, fi, kn⟩ f = 30 := by unfold endV endsV; rw [if_neg (by omega), if_neg (by rw [hq]; decide), if_pos hli]
    have hh : endH ⟨rm, pl, li, re, fi, kn⟩ f = ⟨rm, pl, li, re, fi, kn⟩ := by unfold endH; rw [hv]; rfl
    rw [hv, hh]
    clear hv hh hq
    rcases hk' with rfl | rfl
    · go_enter Try.func29, Try.ntmps29
      go_wp2
      go_ret
      exact ⟨rfl, X.out, LfR.refl _ _ _⟩
    · cases kn <;> (go_enter Try.func29, Try.ntmps29; go_wp2; go_ret; exact ⟨rfl, X.out, LfR.refl _ _ _⟩)
  · have hv : endV ⟨rm, pl, li, re, fi, kn⟩ f = 0 := by unfold endV endsV; rw [if_neg (by omega), if_neg (by rw [hq]; decide), if_neg hli]
    have hh : endH ⟨rm, pl, li, re, fi, kn⟩ f = ⟨rm, pl, li, f, f, true⟩ := by unfold endH; rw [hv]; rfl
    rw [hv, hh]
    clear hv hh hq
    have hli' : f ≤ li := by omega
    clear hli
    have fin : ∀ w', w' = ((W.setCell ⟨r, 5, none⟩ (.bool true)).setCell ⟨r, 4, none⟩ (.int .i64 f)).setCell ⟨r, 3, none⟩ (.int .i64 f) → RBox w' b r ⟨rm, pl, li, f, f, true⟩ A c L ∧ LfR W w' b r := fun w' hw => by
      subst hw
      have y1 := X.out.put 5 (.bool true) ⟨rm, pl, li, re, fi, true⟩ rfl
      have y2 := y1.put 4 (.int .i64 f) ⟨rm, pl, li, re, f, true⟩ rfl
      have y3 := y2.put 3 (.int .i64 f) ⟨rm, pl, li, f, f, true⟩ rfl
      exact ⟨y3, (((LfR.refl W b r).set X.out.hg 5 _).set X.out.hg 4 _).set X.out.hg 3 _⟩
    have FIN := Aside0.mk fin
    clear fin
    rcases hk' with rfl | rfl
    · go_enter Try.func29, Try.ntmps29
      go_wp2
      go_ret
      exact ⟨rfl, FIN.out _ rfl⟩
    · cases kn <;> (go_enter Try.func29, Try.ntmps29; go_wp2; go_ret; exact ⟨rfl, FIN.out _ rfl⟩)
/-- A round of Ready. -/
def RRd (W : World) (pl : Int) (L : List By) (v : Value) (wr : World) : Prop := ∃ (k nd : Nat), wr = W.drewN nd ∧ v = .int .i64 k ∧ k ≤ L.length ∧ readyB pl L = k + readyB (pl + k) (L.drop k)
theorem rb_step {L : List By} {k : Nat} {z : By} (hz : L[k]? = some z) (pl : Int) : readyB (pl + k) (L.drop k) = if z.1 = pl + k then readyB (pl + ((k + 1 : Nat) : Int)) (L.drop (k + 1)) + 1 else 0 := by
  obtain ⟨hk, he⟩ := List.getElem?_eq_some_iff.1 hz
  rw [List.drop_eq_getElem_cons hk, he, readyB]
  rw [show pl + (k : Int) + 1 = pl + ((k + 1 : Nat) : Int) by push_cast; omega]
/-- An element's cells. -/
theorem RBox.el (x : RBox W b r h A c L) {k : Nat} {z : By} (hz : L[k]? = some z) : ∃ g off, A = some ⟨g, off, none⟩ ∧ L.length ≤ c ∧ W.cell? ⟨g, off + k * 2, none⟩ = some (.int .i64 z.1) ∧ W.cell? ⟨g, off + k * 2 + 1, none⟩ = some (.int .u8 z.2) := by
  have hlt := (List.getElem?_eq_some_iff.1 hz).1
  obtain ⟨A', c', he, hc, hA⟩ := wr_slice x.row
  injection he with e1 _ e3
  subst e1; subst e3
  obtain ⟨g, off, rfl⟩ := hA (by omega)
  obtain ⟨q1, q2⟩ := bc_get L k z hz
  refine ⟨g, off, rfl, hc, ?_, ?_⟩
  · exact (wr_cell x.row _ _ q1).1
  · have := (wr_cell x.row _ _ q2).1
    rw [show off + (k * 2 + 1) = off + k * 2 + 1 by omega] at this
    exact this
set_option maxRecDepth 100000 in
set_option maxHeartbeats 3200000 in
theorem rready_s (x : RBox W b r h A c L) (hp0 : 0 ≤ h.place) (hp1 : h.place ≤ 4611686018427387903) (hl : L.length ≤ 1048576) : Calls Try.prog 31 #[.pointer (some ⟨r, 0, none⟩)] W fun e w' => e = .returned (.int .i64 (readyB h.place L)) ∧ ∃ nd, w' = W.drewN nd := by
  have X := Aside0.mk x
  clear x
  go_enter Try.func31, Try.ntmps31
  go_wp2_with fail
  go_loopw [3] (fun v wr => RRd W h.place L v wr) (fun v _ => L.length - (intOf v).toNat)
  case atStart => exact ⟨0, 0, rfl, rfl, Nat.zero_le _, by simp⟩
  case round =>
    obtain ⟨k, nd, rfl, rfl, hk, hs⟩ := hrel
    have HS := Aside0.mk hs
    clear hs
    obtain ⟨c0, c1, c2, c3, c4, c5, c6⟩ := X.out.cl
    by_cases hlt : k < L.length
    · obtain ⟨z, hz⟩ : ∃ z, L[k]? = some z := ⟨_, List.getElem?_eq_getElem hlt⟩
      obtain ⟨g, off, rfl, hc, e1, _⟩ := X.out.el hz
      have HZ := Aside0.mk (rb_step hz h.place)
      have hb : decide ((k : Int) < (L.length : Int)) = true := decide_eq_true (by omega)
      clear hz
      by_cases he : z.1 = h.place + k
      · have he1 : (z.1 == h.place + k) = true := by simp [he]
        rw [he] at e1
        go_wp2_with fail
        go_quiet (fail)
        go_wp2_with fail
        refine ⟨⟨k + 1, nd + nq, rfl, by simp, by omega, ?_⟩, by simp [intOf]; omega⟩
        have h1 := HS.out
        rw [HZ.out, if_pos he] at h1
        omega
      · have he1 : (z.1 == h.place + k) = false := by simp [he]
        go_wp2_with fail
        go_quiet (fail)
        go_wp2_with fail
        go_ret
        have h1 := HS.out
        rw [HZ.out, if_neg he, Nat.add_zero] at h1
        rw [h1]
        exact ⟨rfl, nd + nq, by first | rfl | simp [go_sem] | (rw [World.drewN_add])⟩
    · obtain rfl : k = L.length := by omega
      have hb : decide ((L.length : Int) < (L.length : Int)) = false := decide_eq_false (by omega)
      go_wp2_with fail
      go_quiet (fail)
      go_wp2_with fail
      go_ret
      have h1 := HS.out
      rw [List.drop_length, readyB, Nat.add_zero] at h1
      rw [h1]
      exact ⟨rfl, nd + nq, by first | rfl | simp [go_sem] | (rw [World.drewN_add])⟩
end
end Go.Proofs.Ytakmcbakogjeeaa.Ib
