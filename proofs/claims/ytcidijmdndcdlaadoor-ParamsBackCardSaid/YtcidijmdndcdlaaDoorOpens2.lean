/- What came in, read by kinds: arrays; a slice's length against what it reads as; no condition. -/
import Derived.Test.YtcidijmdndcdlaaDoorOpens
import Derived.Test.YtcidijmdndcdlaaDoorWArr
set_option linter.unusedVariables false
set_option linter.unusedSimpArgs false
namespace Go.Proofs.YtcidijmdndcdlaaDoor.Op
open Go.RowKit Go.ChangeShapes Go.WideShapes Go.Deep Go.Proofs.YtcidijmdndcdlaaDoorW.PrintWords
variable {P : Program}
theorem opens_arr {t e : TypeId} {n : Nat} {α : Type} {d : Kd α} {ok : α → Prop} (ht : P.underlying t = some (.array n e)) (hs : 0 < d.sz) (hc : P.cellsOf e = d.sz) (hct : P.cellsOf t = n * d.sz) (h : Opens P e d ok) :
    Opens P t (Kd.arr n d hs) (fun ys => ∀ y ∈ ys, ok y) := by
  intro H enc w base spare held fuel cs x hx hw
  obtain ⟨xs, m, _, rfl, hl, hlen, hg⟩ := DataW.trod_array ht hx
  have hall : ∀ (l : List (DataW H)) (q : DataW H) (n : Nat), q ∈ l → n ∈ q.weights P e → n ∈ DataW.weightsAll P e l := by
    intro l q n
    induction l with
    | nil => intro hq; cases hq
    | cons z l ih =>
      intro hq hn
      rw [DataW.weightsAll, List.mem_append]
      rcases List.mem_cons.1 hq with rfl | hq
      · exact .inl hn
      · exact .inr (ih hq hn)
  obtain ⟨ys, hyl, hyq⟩ := choose_list (Q := fun i (y : α) => d.K w y ((cs.drop (i * d.sz)).take d.sz) ∧ ok y) n (fun i hi => by
    have hxi : xs[i]? = some (xs[i]'(by omega)) := List.getElem?_eq_getElem (by omega)
    have hgi := (hg i hi).trans hxi
    rw [hc] at hgi
    exact h H enc w base spare held m _ _ hgi (fun q hq => hw q (by
      simp only [DataW.weights, ht]
      exact hall _ _ q (List.mem_map.2 ⟨_, List.getElem_mem (by omega), rfl⟩) hq)))
  refine ⟨ys, ⟨hyl, by rw [hl, hct, hyl], fun i p hp => (hyq i p hp).1⟩, fun y hy => ?_⟩
  obtain ⟨i, hi, rfl⟩ := List.mem_iff_getElem.1 hy
  exact (hyq i _ (List.getElem?_eq_getElem hi)).2
theorem slice_len {t e : TypeId} {H : Type} {enc : TypeId × Value → H} {W : World} {base : Nat} {spare : Nat → Bool} {held : Bool} {D : DataW H} {ps : List MemPlace} {A : Option Addr} {n c : Nat} (ht : P.underlying t = some (.slice e))
    (h : DataW.Trod enc P W base spare held t (.slice A n c) D ps) : n = 0 ∨ ∃ es sp, D = .slice es sp ∧ es.length = n := by
  obtain ⟨fuel, hf⟩ := h
  rcases open_slice ht hf with ⟨hc, _⟩ | ⟨a, len, cap, m, k, D', Pl, hc, hb, hl, hcm, hm, hx, hel⟩
  · simp [Value.cells] at hc
    exact .inl hc.2.1
  · simp [Value.cells] at hc
    obtain ⟨_, rfl, _⟩ := hc
    simp only [Prod.mk.injEq] at hx
    exact .inr ⟨_, _, hx.1, by simp⟩
end Go.Proofs.YtcidijmdndcdlaaDoor.Op
