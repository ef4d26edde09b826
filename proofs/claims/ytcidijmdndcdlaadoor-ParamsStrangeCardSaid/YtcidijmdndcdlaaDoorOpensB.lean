/- What came in, read by kinds: numbers, slices, slices of slices, structs; no condition. -/
import Derived.Test.YtcidijmdndcdlaaDoorWMore
import Derived.Test.YtcidijmdndcdlaaDoorWArr
import Derived.Deep.Slices
import Derived.ChangeSame
import Derived.OpenShut
import Derived.SizedLaws
set_option linter.unusedVariables false
set_option linter.unusedSimpArgs false
namespace Go.Proofs.YtcidijmdndcdlaaDoor.Op
open Go.RowKit Go.ChangeShapes Go.WideShapes Go.Deep Go.Proofs.YtcidijmdndcdlaaDoorW.PrintWords

theorem choose_list {α : Type} {Q : Nat → α → Prop} : ∀ n, (∀ i, i < n → ∃ y, Q i y) → ∃ ys : List α, ys.length = n ∧ ∀ i y, ys[i]? = some y → Q i y
  | 0, _ => ⟨[], rfl, fun i y h => by simp at h⟩
  | n + 1, h => by
    obtain ⟨ys, hl, hq⟩ := choose_list n (fun i hi => h i (by omega))
    obtain ⟨y, hy⟩ := h n (by omega)
    refine ⟨ys ++ [y], by simp [hl], fun i z hz => ?_⟩
    rw [List.getElem?_append] at hz
    split at hz
    · exact hq i z hz
    · rename_i hni
      have : i - ys.length = 0 := by
        have := (List.getElem?_eq_some_iff.1 hz).1
        simp at this
        omega
      rw [this] at hz
      simp at hz
      subst hz
      obtain rfl : i = n := by omega
      exact hy
theorem cells_get {w : World} {base : Nat} {a : Addr} {n : Nat} {cs : List Value} (h : w.cells? base a n = some cs) : cs.length = n ∧ ∀ i u, cs[i]? = some u → w.cell? (a.add i) = some u := by
  unfold World.cells? at h
  split at h
  · have hl := mapM_some_length h
    simp only [List.length_range] at hl
    refine ⟨hl, fun i u hu => ?_⟩
    have hi : i < n := by have := (List.getElem?_eq_some_iff.1 hu).1; omega
    have := mapM_some_get h i i (by simp [hi])
    rw [this, hu]
  · cases h

/-- What comes in at type e reads by the kind d. -/
def Opens (P : Program) (e : TypeId) {α : Type} (d : Kd α) (ok : α → Prop) : Prop :=
  ∀ (H : Type) (enc : TypeId × Value → H) (w : World) (base : Nat) (spare : Nat → Bool) (held : Bool) (fuel : Nat) (cs : List Value) (x : DataW H × List MemPlace),
    DataW.trod enc P w base spare held fuel e cs = some x → (∀ n ∈ x.1.weights P e, n ≤ reachBytes) → ∃ y : α, d.K w y cs ∧ ok y
variable {P : Program}
theorem opens_int {e : TypeId} {k : IntKind} (he : P.underlying e = some (.int k)) : Opens P e (Kd.int k) (fun n => (Lit.int k n).wf = true) := by
  intro H enc w base spare held fuel cs x h _
  obtain ⟨n, rfl, _, hw⟩ := DataW.trod_int he h
  exact ⟨n, rfl, hw⟩
theorem opens_bool {e : TypeId} (he : P.underlying e = some .bool) : Opens P e Kd.bool (fun _ => True) := by
  intro H enc w base spare held fuel cs x h _
  obtain ⟨n, rfl, _⟩ := DataW.trod_bool he h
  exact ⟨n, rfl, trivial⟩
theorem opens_slice {t e : TypeId} {α : Type} {d : Kd α} {ok : α → Prop} (ht : P.underlying t = some (.slice e)) (hc : P.cellsOf e = d.sz) (h : Opens P e d ok) :
    Opens P t (Kd.slice e d) (fun ys => (∀ y ∈ ys, ok y) ∧ ys.length * P.bytesOf e ≤ reachBytes) := by
  intro H enc w base spare held fuel cs x hx hw
  rcases open_slice ht hx with ⟨rfl, rfl⟩ | ⟨a, len, cap, m, n, D, Pl, rfl, hb, hl, hcm, hm, rfl, hel⟩
  · exact ⟨[], ⟨none, 0, rfl, Nat.le_refl _, rfl, Nat.zero_le _, fun h => absurd h (Nat.lt_irrefl 0)⟩, ⟨(fun y hy => by cases hy), by simp⟩⟩
  · have hmle : len ≤ m := by rw [hm]; split <;> omega
    have hw0 : ((List.range len).map D).length * P.bytesOf e ≤ reachBytes := by
      have := hw ((((List.range len).map D).length + ((List.range (m - len)).map fun j => D (len + j)).length) * P.bytesOf e) (by simp [DataW.weights, ht])
      exact Nat.le_trans (Nat.mul_le_mul_right _ (Nat.le_add_right _ _)) this
    have hall : ∀ (l : List (DataW H)) (q : DataW H) (n : Nat), q ∈ l → n ∈ q.weights P e → n ∈ DataW.weightsAll P e l := by
      intro l q n
      induction l with
      | nil => intro hq; cases hq
      | cons z l ih =>
        intro hq hn
        rw [DataW.weightsAll, List.mem_append]
        rcases List.mem_cons.1 hq with rfl | hq
        · exact .inl hn
        · exact .inr (ih hq hn)
    obtain ⟨ys, hyl, hyq⟩ := choose_list (Q := fun i (y : α) => (∃ cs', cs'.length = d.sz ∧ d.K w y cs' ∧ ∀ j u, cs'[j]? = some u → w.cell? (a.add (i * d.sz + j)) = some u) ∧ ok y) len (fun i hi => by
      obtain ⟨cs', hcs, htr⟩ := hel i (by omega)
      obtain ⟨y, hk, ho⟩ := h H enc w base spare held n cs' _ htr (fun q hq => hw q (by
        simp only [DataW.weights, ht, List.mem_cons, List.mem_append]
        exact .inr (.inl (hall _ (D i) q (List.mem_map.2 ⟨i, List.mem_range.2 hi, rfl⟩) hq))))
      rw [hc] at hcs
      obtain ⟨hl1, hl2⟩ := cells_get hcs
      exact ⟨y, ⟨cs', hl1, hk, fun j u hu => by rw [← Go.Proofs.YtcidijmdndcdlaaDoorW.PrintWords.add_add]; exact hl2 j u hu⟩, ho⟩)
    refine ⟨ys, ⟨some a, cap, by rw [hyl], by omega, rfl, ?_, fun hp => ⟨a, rfl, fun j p hj => ?_⟩⟩, fun y hy => ?_, ?_⟩
    · rw [hyl]; unfold maxLen at hcm; omega
    · obtain ⟨⟨cs', h1, h2, h3⟩, _⟩ := hyq j p hj
      exact ⟨cs', h1, h2, h3⟩
    · obtain ⟨i, hi, rfl⟩ := List.mem_iff_getElem.1 hy
      exact (hyq i _ (List.getElem?_eq_getElem hi)).2
    · rw [hyl]
      simpa using hw0
theorem drop_split {α : Type} (cs : List α) (a s : Nat) : cs.drop a = (cs.drop a).take s ++ cs.drop (a + s) := by
  rw [← List.drop_drop, List.take_append_drop]
/-- A struct's fields. -/
theorem fields_of {t : TypeId} {fs : Array Field} {H : Type} {enc : TypeId × Value → H} {w : World} {base : Nat} {spare : Nat → Bool} {held : Bool} {fuel : Nat} {cs : List Value} {x : DataW H × List MemPlace} (ht : P.underlying t = some (.struct fs))
    (hx : DataW.trod enc P w base spare held fuel t cs = some x) (hw : ∀ n ∈ x.1.weights P t, n ≤ reachBytes) :
    cs.length = P.cellsOf t ∧ ∀ (i : Nat) (f : Field), fs[i]? = some f → ∃ (y : DataW H × List MemPlace) (m : Nat), DataW.trod enc P w base spare held m f.type ((cs.drop f.offset).take (P.cellsOf f.type)) = some y ∧ ∀ n ∈ y.1.weights P f.type, n ≤ reachBytes := by
  obtain ⟨xs, n, _, rfl, hl, hlen, hg⟩ := DataW.trod_struct ht hx
  refine ⟨hl, fun i f hf => ?_⟩
  have hi : i < fs.size := (Array.getElem?_eq_some_iff.1 hf).1
  have hxi : xs[i]? = some (xs[i]'(by omega)) := List.getElem?_eq_getElem (by omega)
  refine ⟨xs[i]'(by omega), n, (hg i f hf).trans hxi, fun q hq => hw q ?_⟩
  simp only [DataW.weights, ht]
  refine DataW.weights_mem_each (ts := fs.toList.map (·.type)) (ds := xs.map (·.1)) (j := i) (by simp [hf]) (by rw [List.getElem?_map, hxi]; rfl) q hq
theorem opens_struct2 {t : TypeId} {fs : Array Field} {α0 α1 : Type} {d0 : Kd α0} {ok0 : α0 → Prop} {d1 : Kd α1} {ok1 : α1 → Prop} (ht : P.underlying t = some (.struct fs)) (hc : P.cellsOf t = d0.sz + d1.sz)
    (h0 : ∃ f, fs[0]? = some f ∧ f.offset = 0 ∧ P.cellsOf f.type = d0.sz ∧ Opens P f.type d0 ok0) (h1 : ∃ f, fs[1]? = some f ∧ f.offset = d0.sz ∧ P.cellsOf f.type = d1.sz ∧ Opens P f.type d1 ok1) :
    Opens P t (Kd.pair d0 d1) (fun p => ok0 p.1 ∧ ok1 p.2) := by
  intro H enc w base spare held fuel cs x hx hw
  obtain ⟨hl, hf⟩ := fields_of ht hx hw
  obtain ⟨f0, g0, o0, c0, O0⟩ := h0
  obtain ⟨x0, m0, t0, w0⟩ := hf 0 f0 g0
  obtain ⟨y0, k0, q0⟩ := O0 H enc w base spare held m0 _ x0 t0 w0
  rw [o0, c0] at k0
  obtain ⟨f1, g1, o1, c1, O1⟩ := h1
  obtain ⟨x1, m1, t1, w1⟩ := hf 1 f1 g1
  obtain ⟨y1, k1, q1⟩ := O1 H enc w base spare held m1 _ x1 t1 w1
  rw [o1, c1] at k1
  rw [hc] at hl
  refine ⟨(y0, y1), ?_, ⟨q0, q1⟩⟩
  rw [List.drop_zero] at k0
  refine ⟨cs.take d0.sz, cs.drop d0.sz, (List.take_append_drop _ _).symm, k0, ?_⟩
  rw [List.take_of_length_le (by rw [List.length_drop]; omega)] at k1
  exact k1
theorem opens_struct3 {t : TypeId} {fs : Array Field} {α0 α1 α2 : Type} {d0 : Kd α0} {ok0 : α0 → Prop} {d1 : Kd α1} {ok1 : α1 → Prop} {d2 : Kd α2} {ok2 : α2 → Prop} (ht : P.underlying t = some (.struct fs)) (hc : P.cellsOf t = d0.sz + d1.sz + d2.sz)
    (h0 : ∃ f, fs[0]? = some f ∧ f.offset = 0 ∧ P.cellsOf f.type = d0.sz ∧ Opens P f.type d0 ok0) (h1 : ∃ f, fs[1]? = some f ∧ f.offset = d0.sz ∧ P.cellsOf f.type = d1.sz ∧ Opens P f.type d1 ok1) (h2 : ∃ f, fs[2]? = some f ∧ f.offset = d0.sz + d1.sz ∧ P.cellsOf f.type = d2.sz ∧ Opens P f.type d2 ok2) :
    Opens P t (Kd.pair d0 (Kd.pair d1 d2)) (fun p => ok0 p.1 ∧ ok1 p.2.1 ∧ ok2 p.2.2) := by
  intro H enc w base spare held fuel cs x hx hw
  obtain ⟨hl, hf⟩ := fields_of ht hx hw
  obtain ⟨f0, g0, o0, c0, O0⟩ := h0
  obtain ⟨x0, m0, t0, w0⟩ := hf 0 f0 g0
  obtain ⟨y0, k0, q0⟩ := O0 H enc w base spare held m0 _ x0 t0 w0
  rw [o0, c0] at k0
  obtain ⟨f1, g1, o1, c1, O1⟩ := h1
  obtain ⟨x1, m1, t1, w1⟩ := hf 1 f1 g1
  obtain ⟨y1, k1, q1⟩ := O1 H enc w base spare held m1 _ x1 t1 w1
  rw [o1, c1] at k1
  obtain ⟨f2, g2, o2, c2, O2⟩ := h2
  obtain ⟨x2, m2, t2, w2⟩ := hf 2 f2 g2
  obtain ⟨y2, k2, q2⟩ := O2 H enc w base spare held m2 _ x2 t2 w2
  rw [o2, c2] at k2
  rw [hc] at hl
  refine ⟨(y0, (y1, y2)), ?_, ⟨q0, q1, q2⟩⟩
  rw [List.drop_zero] at k0
  refine ⟨cs.take d0.sz, cs.drop d0.sz, (List.take_append_drop _ _).symm, k0, ?_⟩
  refine ⟨(cs.drop (d0.sz)).take d1.sz, cs.drop (d0.sz + d1.sz), ?_, k1, ?_⟩
  · exact drop_split _ _ _
  rw [List.take_of_length_le (by rw [List.length_drop]; omega)] at k2
  exact k2
theorem opens_struct4 {t : TypeId} {fs : Array Field} {α0 α1 α2 α3 : Type} {d0 : Kd α0} {ok0 : α0 → Prop} {d1 : Kd α1} {ok1 : α1 → Prop} {d2 : Kd α2} {ok2 : α2 → Prop} {d3 : Kd α3} {ok3 : α3 → Prop} (ht : P.underlying t = some (.struct fs)) (hc : P.cellsOf t = d0.sz + d1.sz + d2.sz + d3.sz)
    (h0 : ∃ f, fs[0]? = some f ∧ f.offset = 0 ∧ P.cellsOf f.type = d0.sz ∧ Opens P f.type d0 ok0) (h1 : ∃ f, fs[1]? = some f ∧ f.offset = d0.sz ∧ P.cellsOf f.type = d1.sz ∧ Opens P f.type d1 ok1) (h2 : ∃ f, fs[2]? = some f ∧ f.offset = d0.sz + d1.sz ∧ P.cellsOf f.type = d2.sz ∧ Opens P f.type d2 ok2) (h3 : ∃ f, fs[3]? = some f ∧ f.offset = d0.sz + d1.sz + d2.sz ∧ P.cellsOf f.type = d3.sz ∧ Opens P f.type d3 ok3) :
    Opens P t (Kd.pair d0 (Kd.pair d1 (Kd.pair d2 d3))) (fun p => ok0 p.1 ∧ ok1 p.2.1 ∧ ok2 p.2.2.1 ∧ ok3 p.2.2.2) := by
  intro H enc w base spare held fuel cs x hx hw
  obtain ⟨hl, hf⟩ := fields_of ht hx hw
  obtain ⟨f0, g0, o0, c0, O0⟩ := h0
  obtain ⟨x0, m0, t0, w0⟩ := hf 0 f0 g0
  obtain ⟨y0, k0, q0⟩ := O0 H enc w base spare held m0 _ x0 t0 w0
  rw [o0, c0] at k0
  obtain ⟨f1, g1, o1, c1, O1⟩ := h1
  obtain ⟨x1, m1, t1, w1⟩ := hf 1 f1 g1
  obtain ⟨y1, k1, q1⟩ := O1 H enc w base spare held m1 _ x1 t1 w1
  rw [o1, c1] at k1
  obtain ⟨f2, g2, o2, c2, O2⟩ := h2
  obtain ⟨x2, m2, t2, w2⟩ := hf 2 f2 g2
  obtain ⟨y2, k2, q2⟩ := O2 H enc w base spare held m2 _ x2 t2 w2
  rw [o2, c2] at k2
  obtain ⟨f3, g3, o3, c3, O3⟩ := h3
  obtain ⟨x3, m3, t3, w3⟩ := hf 3 f3 g3
  obtain ⟨y3, k3, q3⟩ := O3 H enc w base spare held m3 _ x3 t3 w3
  rw [o3, c3] at k3
  rw [hc] at hl
  refine ⟨(y0, (y1, (y2, y3))), ?_, ⟨q0, q1, q2, q3⟩⟩
  rw [List.drop_zero] at k0
  refine ⟨cs.take d0.sz, cs.drop d0.sz, (List.take_append_drop _ _).symm, k0, ?_⟩
  refine ⟨(cs.drop (d0.sz)).take d1.sz, cs.drop (d0.sz + d1.sz), ?_, k1, ?_⟩
  · exact drop_split _ _ _
  refine ⟨(cs.drop (d0.sz + d1.sz)).take d2.sz, cs.drop (d0.sz + d1.sz + d2.sz), ?_, k2, ?_⟩
  · exact drop_split _ _ _
  rw [List.take_of_length_le (by rw [List.length_drop]; omega)] at k3
  exact k3
theorem opens_struct5 {t : TypeId} {fs : Array Field} {α0 α1 α2 α3 α4 : Type} {d0 : Kd α0} {ok0 : α0 → Prop} {d1 : Kd α1} {ok1 : α1 → Prop} {d2 : Kd α2} {ok2 : α2 → Prop} {d3 : Kd α3} {ok3 : α3 → Prop} {d4 : Kd α4} {ok4 : α4 → Prop} (ht : P.underlying t = some (.struct fs)) (hc : P.cellsOf t = d0.sz + d1.sz + d2.sz + d3.sz + d4.sz)
    (h0 : ∃ f, fs[0]? = some f ∧ f.offset = 0 ∧ P.cellsOf f.type = d0.sz ∧ Opens P f.type d0 ok0) (h1 : ∃ f, fs[1]? = some f ∧ f.offset = d0.sz ∧ P.cellsOf f.type = d1.sz ∧ Opens P f.type d1 ok1) (h2 : ∃ f, fs[2]? = some f ∧ f.offset = d0.sz + d1.sz ∧ P.cellsOf f.type = d2.sz ∧ Opens P f.type d2 ok2) (h3 : ∃ f, fs[3]? = some f ∧ f.offset = d0.sz + d1.sz + d2.sz ∧ P.cellsOf f.type = d3.sz ∧ Opens P f.type d3 ok3) (h4 : ∃ f, fs[4]? = some f ∧ f.offset = d0.sz + d1.sz + d2.sz + d3.sz ∧ P.cellsOf f.type = d4.sz ∧ Opens P f.type d4 ok4) :
    Opens P t (Kd.pair d0 (Kd.pair d1 (Kd.pair d2 (Kd.pair d3 d4)))) (fun p => ok0 p.1 ∧ ok1 p.2.1 ∧ ok2 p.2.2.1 ∧ ok3 p.2.2.2.1 ∧ ok4 p.2.2.2.2) := by
  intro H enc w base spare held fuel cs x hx hw
  obtain ⟨hl, hf⟩ := fields_of ht hx hw
  obtain ⟨f0, g0, o0, c0, O0⟩ := h0
  obtain ⟨x0, m0, t0, w0⟩ := hf 0 f0 g0
  obtain ⟨y0, k0, q0⟩ := O0 H enc w base spare held m0 _ x0 t0 w0
  rw [o0, c0] at k0
  obtain ⟨f1, g1, o1, c1, O1⟩ := h1
  obtain ⟨x1, m1, t1, w1⟩ := hf 1 f1 g1
  obtain ⟨y1, k1, q1⟩ := O1 H enc w base spare held m1 _ x1 t1 w1
  rw [o1, c1] at k1
  obtain ⟨f2, g2, o2, c2, O2⟩ := h2
  obtain ⟨x2, m2, t2, w2⟩ := hf 2 f2 g2
  obtain ⟨y2, k2, q2⟩ := O2 H enc w base spare held m2 _ x2 t2 w2
  rw [o2, c2] at k2
  obtain ⟨f3, g3, o3, c3, O3⟩ := h3
  obtain ⟨x3, m3, t3, w3⟩ := hf 3 f3 g3
  obtain ⟨y3, k3, q3⟩ := O3 H enc w base spare held m3 _ x3 t3 w3
  rw [o3, c3] at k3
  obtain ⟨f4, g4, o4, c4, O4⟩ := h4
  obtain ⟨x4, m4, t4, w4⟩ := hf 4 f4 g4
  obtain ⟨y4, k4, q4⟩ := O4 H enc w base spare held m4 _ x4 t4 w4
  rw [o4, c4] at k4
  rw [hc] at hl
  refine ⟨(y0, (y1, (y2, (y3, y4)))), ?_, ⟨q0, q1, q2, q3, q4⟩⟩
  rw [List.drop_zero] at k0
  refine ⟨cs.take d0.sz, cs.drop d0.sz, (List.take_append_drop _ _).symm, k0, ?_⟩
  refine ⟨(cs.drop (d0.sz)).take d1.sz, cs.drop (d0.sz + d1.sz), ?_, k1, ?_⟩
  · exact drop_split _ _ _
  refine ⟨(cs.drop (d0.sz + d1.sz)).take d2.sz, cs.drop (d0.sz + d1.sz + d2.sz), ?_, k2, ?_⟩
  · exact drop_split _ _ _
  refine ⟨(cs.drop (d0.sz + d1.sz + d2.sz)).take d3.sz, cs.drop (d0.sz + d1.sz + d2.sz + d3.sz), ?_, k3, ?_⟩
  · exact drop_split _ _ _
  rw [List.take_of_length_le (by rw [List.length_drop]; omega)] at k4
  exact k4
theorem opens_struct6 {t : TypeId} {fs : Array Field} {α0 α1 α2 α3 α4 α5 : Type} {d0 : Kd α0} {ok0 : α0 → Prop} {d1 : Kd α1} {ok1 : α1 → Prop} {d2 : Kd α2} {ok2 : α2 → Prop} {d3 : Kd α3} {ok3 : α3 → Prop} {d4 : Kd α4} {ok4 : α4 → Prop} {d5 : Kd α5} {ok5 : α5 → Prop} (ht : P.underlying t = some (.struct fs)) (hc : P.cellsOf t = d0.sz + d1.sz + d2.sz + d3.sz + d4.sz + d5.sz)
    (h0 : ∃ f, fs[0]? = some f ∧ f.offset = 0 ∧ P.cellsOf f.type = d0.sz ∧ Opens P f.type d0 ok0) (h1 : ∃ f, fs[1]? = some f ∧ f.offset = d0.sz ∧ P.cellsOf f.type = d1.sz ∧ Opens P f.type d1 ok1) (h2 : ∃ f, fs[2]? = some f ∧ f.offset = d0.sz + d1.sz ∧ P.cellsOf f.type = d2.sz ∧ Opens P f.type d2 ok2) (h3 : ∃ f, fs[3]? = some f ∧ f.offset = d0.sz + d1.sz + d2.sz ∧ P.cellsOf f.type = d3.sz ∧ Opens P f.type d3 ok3) (h4 : ∃ f, fs[4]? = some f ∧ f.offset = d0.sz + d1.sz + d2.sz + d3.sz ∧ P.cellsOf f.type = d4.sz ∧ Opens P f.type d4 ok4) (h5 : ∃ f, fs[5]? = some f ∧ f.offset = d0.sz + d1.sz + d2.sz + d3.sz + d4.sz ∧ P.cellsOf f.type = d5.sz ∧ Opens P f.type d5 ok5) :
    Opens P t (Kd.pair d0 (Kd.pair d1 (Kd.pair d2 (Kd.pair d3 (Kd.pair d4 d5))))) (fun p => ok0 p.1 ∧ ok1 p.2.1 ∧ ok2 p.2.2.1 ∧ ok3 p.2.2.2.1 ∧ ok4 p.2.2.2.2.1 ∧ ok5 p.2.2.2.2.2) := by
  intro H enc w base spare held fuel cs x hx hw
  obtain ⟨hl, hf⟩ := fields_of ht hx hw
  obtain ⟨f0, g0, o0, c0, O0⟩ := h0
  obtain ⟨x0, m0, t0, w0⟩ := hf 0 f0 g0
  obtain ⟨y0, k0, q0⟩ := O0 H enc w base spare held m0 _ x0 t0 w0
  rw [o0, c0] at k0
  obtain ⟨f1, g1, o1, c1, O1⟩ := h1
  obtain ⟨x1, m1, t1, w1⟩ := hf 1 f1 g1
  obtain ⟨y1, k1, q1⟩ := O1 H enc w base spare held m1 _ x1 t1 w1
  rw [o1, c1] at k1
  obtain ⟨f2, g2, o2, c2, O2⟩ := h2
  obtain ⟨x2, m2, t2, w2⟩ := hf 2 f2 g2
  obtain ⟨y2, k2, q2⟩ := O2 H enc w base spare held m2 _ x2 t2 w2
  rw [o2, c2] at k2
  obtain ⟨f3, g3, o3, c3, O3⟩ := h3
  obtain ⟨x3, m3, t3, w3⟩ := hf 3 f3 g3
  obtain ⟨y3, k3, q3⟩ := O3 H enc w base spare held m3 _ x3 t3 w3
  rw [o3, c3] at k3
  obtain ⟨f4, g4, o4, c4, O4⟩ := h4
  obtain ⟨x4, m4, t4, w4⟩ := hf 4 f4 g4
  obtain ⟨y4, k4, q4⟩ := O4 H enc w base spare held m4 _ x4 t4 w4
  rw [o4, c4] at k4
  obtain ⟨f5, g5, o5, c5, O5⟩ := h5
  obtain ⟨x5, m5, t5, w5⟩ := hf 5 f5 g5
  obtain ⟨y5, k5, q5⟩ := O5 H enc w base spare held m5 _ x5 t5 w5
  rw [o5, c5] at k5
  rw [hc] at hl
  refine ⟨(y0, (y1, (y2, (y3, (y4, y5))))), ?_, ⟨q0, q1, q2, q3, q4, q5⟩⟩
  rw [List.drop_zero] at k0
  refine ⟨cs.take d0.sz, cs.drop d0.sz, (List.take_append_drop _ _).symm, k0, ?_⟩
  refine ⟨(cs.drop (d0.sz)).take d1.sz, cs.drop (d0.sz + d1.sz), ?_, k1, ?_⟩
  · exact drop_split _ _ _
  refine ⟨(cs.drop (d0.sz + d1.sz)).take d2.sz, cs.drop (d0.sz + d1.sz + d2.sz), ?_, k2, ?_⟩
  · exact drop_split _ _ _
  refine ⟨(cs.drop (d0.sz + d1.sz + d2.sz)).take d3.sz, cs.drop (d0.sz + d1.sz + d2.sz + d3.sz), ?_, k3, ?_⟩
  · exact drop_split _ _ _
  refine ⟨(cs.drop (d0.sz + d1.sz + d2.sz + d3.sz)).take d4.sz, cs.drop (d0.sz + d1.sz + d2.sz + d3.sz + d4.sz), ?_, k4, ?_⟩
  · exact drop_split _ _ _
  rw [List.take_of_length_le (by rw [List.length_drop]; omega)] at k5
  exact k5
/-- A slice argument. -/
theorem open_arg {t : TypeId} {α : Type} {d : Kd α} {ok : α → Prop} {H : Type} {enc : TypeId × Value → H} {W : World} {base : Nat} {spare : Nat → Bool} {held : Bool} {D : DataW H} {ps : List MemPlace} {ts : List TypeId} {ds : List (DataW H)} {j : Nat} {v : Value}
    (ho : Opens P t d ok) (hsz : (DataW.weightsEach P ts ds).all (· ≤ reachBytes) = true) (ht : ts[j]? = some t) (hd : ds[j]? = some D) (h : DataW.Trod enc P W base spare held t v D ps) : ∃ y : α, d.K W y v.cells.toList ∧ ok y := by
  obtain ⟨fuel, hf⟩ := h
  refine ho H enc W base spare held fuel _ _ hf (fun n hn => ?_)
  have := List.all_eq_true.1 hsz _ (DataW.weights_mem_each ht hd n hn)
  simpa using this
theorem open_slice_arg {t e : TypeId} {α : Type} {d : Kd α} {ok : List α → Prop} {H : Type} {enc : TypeId × Value → H} {W : World} {base : Nat} {spare : Nat → Bool} {held : Bool} {D : DataW H} {ps : List MemPlace} {ts : List TypeId} {ds : List (DataW H)} {j : Nat} {v : Value} {r : Reach} {b0 : Nat}
    (hu : P.underlying t = some (.slice e)) (hv : Value.okWide P W r b0 t v) (ho : Opens P t (Kd.slice e d) ok) (hsz : (DataW.weightsEach P ts ds).all (· ≤ reachBytes) = true) (ht : ts[j]? = some t) (hd : ds[j]? = some D) (h : DataW.Trod enc P W base spare held t v D ps) :
    ∃ (A : Option Addr) (c : Nat) (ys : List α), v = .slice A ys.length c ∧ ys.length ≤ c ∧ d.C W A ys.length ys ∧ ok ys := by
  obtain ⟨a, len, cap, rfl⟩ := okWide_slice hu hv
  obtain ⟨ys, ⟨A, c, he, h1, h2⟩, h3⟩ := open_arg ho hsz ht hd h
  have he' : [Value.slice a len cap] = [.slice A ys.length c] := he
  injection he' with he' _
  exact ⟨A, c, ys, he', h1, h2, h3⟩
end Go.Proofs.YtcidijmdndcdlaaDoor.Op
namespace Go.Proofs.YtcidijmdndcdlaaDoor.Op
open Go.RowKit Go.ChangeShapes Go.WideShapes Go.Deep Go.Proofs.YtcidijmdndcdlaaDoorW.PrintWords
variable {P : Program}
theorem opens_arr {t e : TypeId} {n : Nat} {α : Type} {d : Kd α} {ok : α → Prop} (ht : P.underlying t = some (.array n e)) (hs : 0 < d.sz) (hc : P.cellsOf e = d.sz) (hct : P.cellsOf t = n * d.sz) (h : Opens P e d ok) :
    Opens P t (Kd.arr n d hs) (fun ys => ∀ y ∈ ys, ok y) := by
  intro H enc w base spare held fuel cs x hx hw
  obtain ⟨xs, m, _, rfl, hl, hlen, hg⟩ := DataW.trod_array ht hx
  have hall : ∀ (l : List (DataW H)) (q : DataW H) (n : Nat), q ∈ l → n ∈ q.weights P e → n ∈ DataW.weightsAll P e l := by
    intro l q n
    induction l with
    | nil => intro hq; cases hq
    | cons z l ih =>
      intro hq hn
      rw [DataW.weightsAll, List.mem_append]
      rcases List.mem_cons.1 hq with rfl | hq
      · exact .inl hn
      · exact .inr (ih hq hn)
  obtain ⟨ys, hyl, hyq⟩ := choose_list (Q := fun i (y : α) => d.K w y ((cs.drop (i * d.sz)).take d.sz) ∧ ok y) n (fun i hi => by
    have hxi : xs[i]? = some (xs[i]'(by omega)) := List.getElem?_eq_getElem (by omega)
    have hgi := (hg i hi).trans hxi
    rw [hc] at hgi
    exact h H enc w base spare held m _ _ hgi (fun q hq => hw q (by
      simp only [DataW.weights, ht]
      exact hall _ _ q (List.mem_map.2 ⟨_, List.getElem_mem (by omega), rfl⟩) hq)))
  refine ⟨ys, ⟨hyl, by rw [hl, hct, hyl], fun i p hp => (hyq i p hp).1⟩, fun y hy => ?_⟩
  obtain ⟨i, hi, rfl⟩ := List.mem_iff_getElem.1 hy
  exact (hyq i _ (List.getElem?_eq_getElem hi)).2
theorem slice_len {t e : TypeId} {H : Type} {enc : TypeId × Value → H} {W : World} {base : Nat} {spare : Nat → Bool} {held : Bool} {D : DataW H} {ps : List MemPlace} {A : Option Addr} {n c : Nat} (ht : P.underlying t = some (.slice e))
    (h : DataW.Trod enc P W base spare held t (.slice A n c) D ps) : n = 0 ∨ ∃ es sp, D = .slice es sp ∧ es.length = n := by
  obtain ⟨fuel, hf⟩ := h
  rcases open_slice ht hf with ⟨hc, _⟩ | ⟨a, len, cap, m, k, D', Pl, hc, hb, hl, hcm, hm, hx, hel⟩
  · simp [Value.cells] at hc
    exact .inl hc.2.1
  · simp [Value.cells] at hc
    obtain ⟨_, rfl, _⟩ := hc
    simp only [Prod.mk.injEq] at hx
    exact .inr ⟨_, _, hx.1, by simp⟩
end Go.Proofs.YtcidijmdndcdlaaDoor.Op
