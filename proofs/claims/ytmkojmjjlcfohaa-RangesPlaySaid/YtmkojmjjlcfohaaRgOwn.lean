/- What a law's loop over a set carries along: the sets themselves, and a list that grows; no condition. -/
import Derived.Test.YtmkojmjjlcfohaaRgPure3
set_option linter.unusedVariables false
set_option linter.unusedSimpArgs false
namespace Go.Proofs.Ytmkojmjjlcfohaa.Rg
open Go.RowKit Go.Shelf Go.Proofs.YtmkojmjjlcfohaaW.PrintWords Go.Proofs.YtmkojmjjlcfohaaW.PrintLast Go.Proofs.YtmkojmjjlcfohaaW.PrintMore Go.Proofs.Ytmkojmjjlcfohaa.Rw
theorem grown_cells {A C : World} {B : Nat} {row : Option Nat} {k : Nat} {cs : Array Value} {t : TypeId} {z : Nat × Nat} (h : A.heap[k]? = some (.cells cs t z)) (hg : A.grownBy C row) (hr : ∀ r, row = some r → B ≤ r ∧ ∃ o : Obj, A.heap[r]? = some o ∧ o.isCells = false) : C.heap[k]? = A.heap[k]? :=
  hg.block k (Array.getElem?_eq_some_iff.1 h).1 (fun e => by
    obtain ⟨o, ho, hc⟩ := (hr k e.symm).2
    rw [h] at ho
    cases ho
    cases hc)
theorem set_own {A C : World} {B b g : Nat} {v : Value} {L : List Sp} {row : Option Nat} (h : SetAt A b g v L) (hg : A.grownBy C row) (hr : ∀ r, row = some r → B ≤ r ∧ ∃ o : Obj, A.heap[r]? = some o ∧ o.isCells = false) : SetAt C b g v L :=
  h.move (grown_cells h.blk hg hr) (fun k hk => by
    obtain ⟨_, cs, hc⟩ := own_typed h.row k hk
    exact grown_cells hc hg hr)
theorem kst_own {β : Type} {W0 : World} {B ga gb : Nat} {La Lb : List Sp} (hB : W0.heap.size ≤ B) : OwnFrom B (fun (_ : β) W => Kst W0 (Two W0.heap.size ga La gb Lb) W) := by
  intro _ A C row hs hg hr
  obtain ⟨v1, v2, h1, h2, h3, h4⟩ := hs.r
  exact ⟨ownFrom_below (β := Unit) (Nat.le_refl _) hB () A C row hs.bel hg hr, v1, v2, set_own h1 hg hr, set_own h2 hg hr, h3, h4⟩
theorem row_own {A C : World} {B b n : Nat} {v : Value} {xs : List Value} {e : TypeId} {z : Nat} {row : Option Nat} (h : A.ownsRow b e z v n xs) (hg : A.grownBy C row) (hr : ∀ r, row = some r → B ≤ r ∧ ∃ o : Obj, A.heap[r]? = some o ∧ o.isCells = false) : C.ownsRow b e z v n xs := by
  refine ⟨h.1, ?_⟩
  rcases h.2 with h0 | ⟨g', c, cur, rfl, hb, hgg, r⟩
  · exact .inl h0
  · exact .inr ⟨g', c, cur, rfl, hb, (grown_cells hgg hg hr).trans hgg, r⟩
/-- All that lay in w lies there still, but what block X holds. -/
structure BelX (X : Nat) (w W : World) : Prop where
  os : W.os = w.os
  tape : W.tape = w.tape
  output : W.output = w.output
  size : w.heap.size ≤ W.heap.size
  block : ∀ k, k < w.heap.size → k ≠ X → W.heap[k]? = w.heap[k]?
theorem BelX.refl (X : Nat) (w : World) : BelX X w w := ⟨rfl, rfl, rfl, Nat.le_refl _, fun _ _ _ => rfl⟩
theorem BelX.then {X : Nat} {w W W' : World} (h : BelX X w W) (hb : Below w.heap.size W W') : BelX X w W' :=
  ⟨hb.os.trans h.os, hb.tape.trans h.tape, hb.output.trans h.output, Nat.le_trans h.size hb.size, fun k hk hx => (hb.block k hk).trans (h.block k hk hx)⟩
theorem BelX.set {X : Nat} {w W : World} (h : BelX X w W) (v : Value) : BelX X w (W.setCell ⟨X, 0, none⟩ v) :=
  ⟨h.os, h.tape, h.output, by simpa [World.setCell] using h.size, fun k hk hx => (Below.heap_setCell W _ _ k hx).trans (h.block k hk hx)⟩
theorem belX_own {β : Type} {X : Nat} {w : World} : OwnFrom w.heap.size (fun (_ : β) W => BelX X w W) := fun _ A C row hs hg hr =>
  hs.then ((Below.refl _ A).grown hg hs.size (fun k e => (hr k e).1))
/-- The sets lie as they lay. -/
theorem BelX.kst {X : Nat} {W0 w W : World} {ga gb : Nat} {La Lb : List Sp} {v : Value} (h : BelX X w W) (hk : Kst W0 (Two W0.heap.size ga La gb Lb) w) (hX : Boxed w X 33 v) (h0 : W0.heap.size ≤ X) : Kst W0 (Two W0.heap.size ga La gb Lb) W := by
  have hs := hk.bel.size
  have ne1 : ∀ {g : Nat} {vv : Value} {L : List Sp}, SetAt w W0.heap.size g vv L → SetAt W W0.heap.size g vv L := fun {g vv L} h1 => h1.move (h.block g h1.lt (fun e => by
      have := h1.blk
      rw [e, show w.heap[X]? = _ from hX] at this
      injection this with this
      injection this with _ this
      exact absurd this (by decide))) (fun k e => h.block k (h1.row_lt k e) (fun e' => by
      obtain ⟨_, cs, hc⟩ := own_typed h1.row k e
      rw [e', show w.heap[X]? = _ from hX] at hc
      injection hc with hc
      injection hc with _ hc
      exact absurd hc (by decide)))
  obtain ⟨v1, v2, h1, h2, h3, h4⟩ := hk.r
  exact ⟨⟨h.os.trans hk.bel.os, h.tape.trans hk.bel.tape, h.output.trans hk.bel.output, Nat.le_trans hs h.size, fun k hlt => (h.block k (by omega) (by omega)).trans (hk.bel.block k hlt)⟩, v1, v2, ne1 h1, ne1 h2, h3, h4⟩
/-- Under way in the range that fills a list (its variable in box X, its row behind w). -/
def ListI (w : World) (X : Nat) (pre : List SpT) (W : World) : Prop :=
  BelX X w W ∧ ∃ vL, Boxed W X 33 vL ∧ W.ownsRow w.heap.size 39 2 vL pre.length (cells (pre.map (·.1)))
theorem listI_own {w : World} {X : Nat} : OwnFrom w.heap.size (ListI w X) := by
  rintro pre A C row ⟨h1, vL, h3, h4⟩ hg hr
  exact ⟨belX_own (β := Unit) () A C row h1 hg hr, vL, (grown_cells h3 hg hr).trans h3, row_own h4 hg hr⟩
theorem ListI.below {w W W' : World} {X : Nat} {pre : List SpT} (h : ListI w X pre W) (hb : Below W.heap.size W W') : ListI w X pre W' := by
  obtain ⟨h1, vL, h3, h4⟩ := h
  refine ⟨h1.then (hb.mono h1.size), vL, (hb.block X h3.lt).trans h3, h4.1, ?_⟩
  rcases h4.2 with h0 | ⟨g', c, cur, rfl, hb', hgg, r⟩
  · exact .inl h0
  · exact .inr ⟨g', c, cur, rfl, hb', (hb.block g' (Array.getElem?_eq_some_iff.1 hgg).1).trans hgg, r⟩
end Go.Proofs.Ytmkojmjjlcfohaa.Rg
