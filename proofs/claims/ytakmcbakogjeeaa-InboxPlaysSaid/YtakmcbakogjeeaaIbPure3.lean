/- Boxes (layer 6) as lists: a text's pieces in any order; no condition, no program. -/
import Derived.Test.YtakmcbakogjeeaaIbPure2
set_option linter.unusedVariables false
set_option linter.unusedSimpArgs false
namespace Go.Proofs.Ytakmcbakogjeeaa.Ib
/-- Rising bytes between two places are few. -/
theorem up_few {hi : Int} : ∀ {L : List By} {lo : Int}, Up L → (∀ z ∈ L, lo ≤ z.1 ∧ z.1 < hi) → lo ≤ hi → (L.length : Int) ≤ hi - lo
  | [], lo, _, _, h => by simp; omega
  | y :: r, lo, hu, hz, h => by
    obtain ⟨h1, h2⟩ := List.pairwise_cons.1 hu
    have h3 := hz y List.mem_cons_self
    have := up_few (lo := y.1 + 1) h2 (fun z hm => ⟨by have := h1 z hm; omega, (hz z (List.mem_cons_of_mem _ hm)).2⟩) (by omega)
    rw [List.length_cons]
    push_cast
    omega
/-- Bytes at places of a text are the text's. -/
theorem of_text {text out : List Int} {pl : Nat} (h : ∀ z ∈ bytesFrom (pl : Int) out, z ∈ bytesFrom 0 text) : out = (text.drop pl).take out.length := by
  apply List.ext_getElem?
  intro i
  rw [List.getElem?_take]
  split
  · next hi =>
    obtain ⟨c, hc⟩ : ∃ c, out[i]? = some c := ⟨_, List.getElem?_eq_getElem hi⟩
    obtain ⟨j, h1, h2⟩ := (mem_bytesFrom text 0 ((pl : Int) + i, c)).1 (h _ ((mem_bytesFrom out pl _).2 ⟨i, hc, rfl⟩))
    rw [List.getElem?_drop, hc, show pl + i = j by simp only at h2; omega]
    exact h1.symm
  · next hi => rw [List.getElem?_eq_none_iff]; omega
/-- What was read of a text, and the pieces that wait. -/
structure BackI (text : List Int) (pl : Int) (got : List Int) (P : List Pc) : Prop where
  ok : OkP pl P
  sub : ∀ z ∈ flat P, z ∈ bytesFrom 0 text
  gl : pl = got.length
  gt : got = text.take got.length
section
variable {text got : List Int} {pl : Int} {P : List Pc}
theorem BackI.new (text : List Int) : BackI text 0 [] [] := ⟨trivial, fun z hz => by simp [flat] at hz, rfl, by simp⟩
theorem BackI.le (x : BackI text pl got P) : pl ≤ text.length := by
  have h1 := x.gl
  have h2 := congrArg List.length x.gt
  rw [List.length_take] at h2
  omega
theorem BackI.held (x : BackI text pl got P) : (heldP P : Int) ≤ text.length - pl := by
  rw [held_is]
  refine up_few (flat_up x.ok) (fun z hz => ⟨flat_ge x.ok z hz, ?_⟩) x.le
  have := mem_bytes_range (x.sub z hz)
  omega
theorem BackI.ends (x : BackI text pl got P) : ∀ p ∈ P, p.1 + p.2.length ≤ text.length := by
  intro p hp
  obtain ⟨hpo, hpn⟩ : pl ≤ p.1 ∧ p.2 ≠ [] := by
    have aux : ∀ (Q : List Pc) (q : Int), OkP q Q → ∀ x ∈ Q, q ≤ x.1 ∧ x.2 ≠ [] := by
      intro Q
      induction Q with
      | nil => intro q _ x hx; cases hx
      | cons y Q ih =>
        rintro q ⟨a1, a2, a3⟩ x hx
        rcases List.mem_cons.1 hx with rfl | hx
        · exact ⟨a1, a2⟩
        · have := ih _ a3 x hx; exact ⟨by omega, this.2⟩
    exact aux P pl x.ok p hp
  have hlen : 0 < p.2.length := List.length_pos_iff.2 hpn
  have hl : p.2.length - 1 < p.2.length := by omega
  have hm : (p.1 + ((p.2.length - 1 : Nat) : Int), p.2[p.2.length - 1]) ∈ flat P := List.mem_flatMap.2 ⟨p, hp, (mem_bytesFrom _ _ _).2 ⟨p.2.length - 1, List.getElem?_eq_getElem hl, rfl⟩⟩
  have := mem_bytes_range (x.sub _ hm)
  simp only at this
  omega
theorem bytes_cut {at_ k : Nat} (h : at_ + k ≤ text.length) (z : By) : z ∈ bytesFrom (at_ : Int) ((text.drop at_).take k) ↔ z ∈ bytesFrom 0 text ∧ (at_ : Int) ≤ z.1 ∧ z.1 < at_ + k := by
  have := mem_seg (data := text) (off := 0) (a := at_) (e := at_ + k) (by omega) (by omega) z
  unfold seg at this
  rw [show ((at_ : Int) - 0).toNat = at_ by omega, show ((at_ : Int) + k - at_).toNat = k by omega] at this
  exact this
theorem BackI.put (x : BackI text pl got P) {at_ k : Nat} (h : at_ + k ≤ text.length) :
    BackI text pl got (fill ((text.drop at_).take k) at_ P (max (at_ : Int) pl) (at_ + k)) ∧ (∀ z ∈ flat P, z ∈ flat (fill ((text.drop at_).take k) at_ P (max (at_ : Int) pl) (at_ + k))) ∧
    ∀ z ∈ bytesFrom 0 text, (at_ : Int) ≤ z.1 → z.1 < at_ + k → z.1 < pl ∨ z ∈ flat (fill ((text.drop at_).take k) at_ P (max (at_ : Int) pl) (at_ + k)) := by
  have hxl : ((text.drop at_).take k).length = k := by rw [List.length_take, List.length_drop]; omega
  obtain ⟨h1, h2⟩ := fill_ok (data := (text.drop at_).take k) (off := at_) P pl (max (at_ : Int) pl) (at_ + k) x.ok (by omega) (by omega) (by rw [hxl]; omega)
  refine ⟨⟨h1, fun z hz => ?_, x.gl, x.gt⟩, fun z hz => (h2 z).2 (.inl hz), fun z hz hz1 hz2 => ?_⟩
  · rcases (h2 z).1 hz with h3 | ⟨h3, _⟩
    · exact x.sub z h3
    · exact ((bytes_cut h z).1 h3).1
  · by_cases hp : z.1 < pl
    · exact .inl hp
    · right
      by_cases hy : ∃ y ∈ flat P, y.1 = z.1
      · obtain ⟨y, hy1, hy2⟩ := hy
        have e := up_key (up_bytes text 0) (x.sub y hy1) hz hy2
        exact (h2 z).2 (.inl (e ▸ hy1))
      · exact (h2 z).2 (.inr ⟨(bytes_cut h z).2 ⟨hz, hz1, hz2⟩, by omega, hz2, fun y hy1 hy2 => hy ⟨y, hy1, hy2⟩⟩)
theorem BackI.read (x : BackI text pl got P) (n : Int) :
    BackI text (readP pl n P).2.1 (got ++ (readP pl n P).1) (readP pl n P).2.2 ∧ ∀ z ∈ flat P, (readP pl n P).2.1 ≤ z.1 → z ∈ flat (readP pl n P).2.2 := by
  obtain ⟨h1, h2, h3, h4⟩ := read_ok P pl n x.ok
  have hg := x.gl
  refine ⟨⟨h1, fun z hz => x.sub z (by rw [h2]; exact List.mem_append_right _ hz), by rw [h3, List.length_append, hg]; push_cast; rfl, ?_⟩, fun z hz hle => ?_⟩
  · have ht := of_text (text := text) (out := (readP pl n P).1) (pl := got.length) (fun z hz => x.sub z (by rw [h2, hg]; exact List.mem_append_left _ (by rw [hg] at hz; exact hz)))
    rw [List.length_append, List.take_add]
    rw [← ht, ← x.gt]
  · rw [h2] at hz
    rcases List.mem_append.1 hz with h | h
    · have := mem_bytes_range h; omega
    · exact h
/-- All of it. -/
theorem BackI.all (x : BackI text pl got P) (h : ∀ z ∈ bytesFrom 0 text, z.1 < pl ∨ z ∈ flat P) : got ++ (readP pl text.length P).1 = text ∧ (readP pl text.length P).2.1 = text.length := by
  have hg := x.gl
  have hle := x.le
  have hf : flat P = bytesFrom pl (text.drop got.length) := up_ext (flat_up x.ok) (up_bytes _ _) (fun z => by
    have hc := bytes_cut (text := text) (at_ := got.length) (k := text.length - got.length) (by omega) z
    rw [List.take_of_length_le (by rw [List.length_drop]; exact Nat.le_refl _)] at hc
    rw [hg, hc]
    constructor
    · intro hz
      have := mem_bytes_range (x.sub z hz)
      exact ⟨x.sub z hz, by have := flat_ge x.ok z hz; omega, by omega⟩
    · rintro ⟨a1, a2, a3⟩
      rcases h z a1 with h | h
      · omega
      · exact h)
  obtain ⟨h1, h2, h3, h4⟩ := read_ok P pl text.length x.ok
  have hr : readyB pl (flat P) = text.length - got.length := by
    have := readyB_bytes (text.drop got.length) pl []
    rw [List.append_nil, ← hf, List.length_drop] at this
    rw [this]
    rfl
  rw [hr] at h4
  obtain ⟨h5, _⟩ := x.read text.length
  have h6 := h5.gt
  have hl : (got ++ (readP pl text.length P).1).length = text.length := by rw [List.length_append]; omega
  rw [hl, List.take_length] at h6
  exact ⟨h6, by rw [h3]; omega⟩
end
end Go.Proofs.Ytakmcbakogjeeaa.Ib
