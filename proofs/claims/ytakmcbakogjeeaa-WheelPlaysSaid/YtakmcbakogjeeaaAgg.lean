/- A struct by value, opened to its fields (any number of one-cell fields). -/
import Derived.Lib.SmallJoins
import Derived.Deep.Slices
import Derived.ChangeSame
set_option linter.unusedVariables false
set_option linter.unusedSimpArgs false
namespace Go.Proofs.Ytakmcbakogjeeaa
open Go.Joins Go.ChangeShapes Go.WideShapes Go.RowKit Go.Deep
theorem open_fields {H : Type} {enc : TypeId × Value → H} {P : Program} {w : World} {base : Nat} {spare : Nat → Bool} {held : Bool} {r : Reach} {b0 : Nat} {t : TypeId} {fs : Array Field} {v : Value} {d : DataW H} {p : List MemPlace}
    (hs : P.underlying t = some (.struct fs)) (hone : oneCellFields P fs = true) (hC : P.cellsOf t = fs.size) (hv : Value.okWide P w r b0 t v) (h : DataW.Trod enc P w base spare held t v d p) :
    ∃ cs : List Value, v = .agg cs.toArray ∧ cs.length = fs.size ∧ ∀ (j : Nat) (f : Field), fs[j]? = some f → ∃ (c : Value) (y : DataW H × List MemPlace) (m : Nat), cs[j]? = some c ∧ DataW.trod enc P w base spare held m f.type [c] = some y := by
  obtain ⟨cs, rfl, hsz⟩ := okWide_struct hs hv
  obtain ⟨l⟩ := cs
  have hl : l.length = fs.size := hsz.trans hC
  refine ⟨l, rfl, hl, fun j f hj => ?_⟩
  obtain ⟨fuel, hf⟩ := h
  obtain ⟨xs, n, _, hx, _, hlen, hg⟩ := DataW.trod_struct hs hf
  have hjl : j < fs.size := (Array.getElem?_eq_some_iff.1 hj).1
  obtain ⟨o, k⟩ := hone_of hone j f hj
  have h1 := hg j f hj
  rw [o, k] at h1
  have hc : (Value.agg l.toArray).cells.toList = l := rfl
  have hd : (l.drop j).take 1 = [l[j]'(by omega)] := by
    rw [List.drop_eq_getElem_cons (by omega)]; rfl
  have h2 : DataW.trod enc P w base spare held n f.type [l[j]'(by omega)] = xs[j]? := by
    rw [← hd]; simpa [Value.cells] using h1
  rw [List.getElem?_eq_getElem (by omega)] at h2
  exact ⟨_, _, n, List.getElem?_eq_getElem (by omega), h2⟩
theorem slice_shape {H : Type} {enc : TypeId × Value → H} {P : Program} {w : World} {base : Nat} {spare : Nat → Bool} {held : Bool} {t e : TypeId} {fuel : Nat} {cs : List Value} {x : DataW H × List MemPlace} (ht : P.underlying t = some (.slice e))
    (h : DataW.trod enc P w base spare held fuel t cs = some x) : ∃ a n c, cs = [.slice a n c] := by
  rcases open_slice ht h with ⟨h0, _⟩ | ⟨a, len, cap, m, n, D, Pl, hcs, _⟩
  · exact ⟨none, 0, 0, h0⟩
  · exact ⟨some a, len, cap, hcs⟩
theorem list1 {α : Type} {l : List α} {x0 : α} (hl : l.length = 1) (g0 : l[0]? = some x0) : l = [x0] := by
  match l, hl with
  | [y0], _ =>
    simp only [List.getElem?_cons_zero, List.getElem?_cons_succ, Option.some.injEq] at g0
    rw [g0]
theorem list2 {α : Type} {l : List α} {x0 x1 : α} (hl : l.length = 2) (g0 : l[0]? = some x0) (g1 : l[1]? = some x1) : l = [x0, x1] := by
  match l, hl with
  | [y0, y1], _ =>
    simp only [List.getElem?_cons_zero, List.getElem?_cons_succ, Option.some.injEq] at g0 g1
    rw [g0, g1]
theorem list3 {α : Type} {l : List α} {x0 x1 x2 : α} (hl : l.length = 3) (g0 : l[0]? = some x0) (g1 : l[1]? = some x1) (g2 : l[2]? = some x2) : l = [x0, x1, x2] := by
  match l, hl with
  | [y0, y1, y2], _ =>
    simp only [List.getElem?_cons_zero, List.getElem?_cons_succ, Option.some.injEq] at g0 g1 g2
    rw [g0, g1, g2]
theorem list4 {α : Type} {l : List α} {x0 x1 x2 x3 : α} (hl : l.length = 4) (g0 : l[0]? = some x0) (g1 : l[1]? = some x1) (g2 : l[2]? = some x2) (g3 : l[3]? = some x3) : l = [x0, x1, x2, x3] := by
  match l, hl with
  | [y0, y1, y2, y3], _ =>
    simp only [List.getElem?_cons_zero, List.getElem?_cons_succ, Option.some.injEq] at g0 g1 g2 g3
    rw [g0, g1, g2, g3]
theorem list5 {α : Type} {l : List α} {x0 x1 x2 x3 x4 : α} (hl : l.length = 5) (g0 : l[0]? = some x0) (g1 : l[1]? = some x1) (g2 : l[2]? = some x2) (g3 : l[3]? = some x3) (g4 : l[4]? = some x4) : l = [x0, x1, x2, x3, x4] := by
  match l, hl with
  | [y0, y1, y2, y3, y4], _ =>
    simp only [List.getElem?_cons_zero, List.getElem?_cons_succ, Option.some.injEq] at g0 g1 g2 g3 g4
    rw [g0, g1, g2, g3, g4]
theorem list6 {α : Type} {l : List α} {x0 x1 x2 x3 x4 x5 : α} (hl : l.length = 6) (g0 : l[0]? = some x0) (g1 : l[1]? = some x1) (g2 : l[2]? = some x2) (g3 : l[3]? = some x3) (g4 : l[4]? = some x4) (g5 : l[5]? = some x5) : l = [x0, x1, x2, x3, x4, x5] := by
  match l, hl with
  | [y0, y1, y2, y3, y4, y5], _ =>
    simp only [List.getElem?_cons_zero, List.getElem?_cons_succ, Option.some.injEq] at g0 g1 g2 g3 g4 g5
    rw [g0, g1, g2, g3, g4, g5]
end Go.Proofs.Ytakmcbakogjeeaa
