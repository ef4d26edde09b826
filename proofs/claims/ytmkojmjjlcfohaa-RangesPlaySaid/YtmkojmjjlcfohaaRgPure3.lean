/- Sets of spans as lists: the order of adding does not matter; no condition, no program. -/
import Derived.Test.YtmkojmjjlcfohaaRgPure2
set_option linter.unusedVariables false
set_option linter.unusedSimpArgs false
namespace Go.Proofs.Ytmkojmjjlcfohaa.Rg
/-- L holds what the first i of the spans, in the order κ, hold. -/
def SetOf (κ : Nat → Nat) (l : List Sp) (i : Nat) (L : List Sp) : Prop := Ok L ∧ ∀ n, Mem L n ↔ ∃ j, j < i ∧ ∃ x, l[κ j]? = some x ∧ bad x.1 x.2 = false ∧ x.1 ≤ n ∧ n ≤ x.2
theorem setOf_nil (κ : Nat → Nat) (l : List Sp) : SetOf κ l 0 [] := ⟨ok_nil, fun n => ⟨fun h => absurd h mem_nil, fun ⟨j, hj, _⟩ => absurd hj (by omega)⟩⟩
theorem setOf_add {κ : Nat → Nat} {l : List Sp} {i : Nat} {L : List Sp} {x : Sp} (h : SetOf κ l i L) (hx : l[κ i]? = some x) (he : (addR L x.1 x.2).1 ≠ 3) : SetOf κ l (i + 1) (addR L x.1 x.2).2 := by
  obtain ⟨ho, hm⟩ := h
  have split : ∀ n, (∃ j, j < i + 1 ∧ ∃ y, l[κ j]? = some y ∧ bad y.1 y.2 = false ∧ y.1 ≤ n ∧ n ≤ y.2) ↔ (∃ j, j < i ∧ ∃ y, l[κ j]? = some y ∧ bad y.1 y.2 = false ∧ y.1 ≤ n ∧ n ≤ y.2) ∨ (bad x.1 x.2 = false ∧ x.1 ≤ n ∧ n ≤ x.2) := by
    intro n
    constructor
    · rintro ⟨j, hj, y, hy, h⟩
      rcases Nat.lt_or_ge j i with h' | h'
      · exact .inl ⟨j, h', y, hy, h⟩
      · obtain rfl : j = i := by omega
        rw [hx] at hy
        cases hy
        exact .inr h
    · rintro (⟨j, hj, y, hy, h⟩ | h)
      · exact ⟨j, by omega, y, hy, h⟩
      · exact ⟨i, by omega, x, hx, h⟩
  by_cases hb : bad x.1 x.2 = true
  · have e : addR L x.1 x.2 = (2, L) := by unfold addR; rw [if_pos hb]
    rw [e]
    refine ⟨ho, fun n => ?_⟩
    rw [split, hm]
    constructor
    · exact .inl
    · rintro (h | ⟨h, _⟩)
      · exact h
      · rw [hb] at h; cases h
  · have e : addR L x.1 x.2 = (0, addL L x.1 x.2) := by
      unfold addR at he ⊢
      rw [if_neg hb] at he ⊢
      split at he
      · exact absurd rfl he
      · rename_i hl; rw [if_neg hl]
    obtain ⟨h0, h1, h2⟩ := not_bad hb
    obtain ⟨a1, a2⟩ := addL_ok L ho x.1 x.2 h0 h1 h2
    rw [e]
    refine ⟨a1, fun n => ?_⟩
    rw [a2, split, hm]
    have hbf : bad x.1 x.2 = false := by simpa using hb
    constructor
    · rintro (h | h)
      · exact .inr ⟨hbf, h⟩
      · exact .inl h
    · rintro (h | ⟨_, h⟩)
      · exact .inr h
      · exact .inl h
/-- The other order. -/
def kap (m n i : Nat) : Nat := n - 1 - (m + i) % n
theorem kap_lt {m n i : Nat} (hn : 0 < n) : kap m n i < n := by unfold kap; omega
theorem kap_onto {m n : Nat} (hm : m < n) (t : Nat) (ht : t < n) : ∃ i, i < n ∧ kap m n i = t := by
  refine ⟨(n - 1 - t + n - m) % n, Nat.mod_lt _ (by omega), ?_⟩
  unfold kap
  have h : (m + (n - 1 - t + n - m) % n) % n = n - 1 - t := by
    rw [Nat.add_mod_mod, show m + (n - 1 - t + n - m) = n - 1 - t + n by omega, Nat.add_mod_right, Nat.mod_eq_of_lt (by omega)]
  rw [h]
  omega
theorem setOf_same {l : List Sp} {m : Nat} (hm : m < l.length) {La Lb : List Sp} (ha : SetOf id l l.length La) (hb : SetOf (kap m l.length) l l.length Lb) : La = Lb := by
  refine ok_unique _ _ ha.1 hb.1 (fun n => ?_)
  rw [ha.2, hb.2]
  constructor
  · rintro ⟨j, hj, x, hx, h⟩
    obtain ⟨i, hi, e⟩ := kap_onto hm j hj
    exact ⟨i, hi, x, by rw [e]; exact hx, h⟩
  · rintro ⟨j, hj, x, hx, h⟩
    exact ⟨kap m l.length j, kap_lt (by omega), x, hx, h⟩
theorem setOf_has {l : List Sp} {La : List Sp} (ha : SetOf id l l.length La) {i : Nat} {x : Sp} (hx : l[i]? = some x) (hb : bad x.1 x.2 = false) : hasL La x.1 = true ∧ hasL La x.2 = true := by
  obtain ⟨h0, h1, h2⟩ := not_bad (f := x.1) (l := x.2) (by rw [hb]; simp)
  have hi := (List.getElem?_eq_some_iff.1 hx).1
  exact ⟨(hasL_mem _ _).2 ((ha.2 _).2 ⟨i, hi, x, hx, hb, by omega, h1⟩), (hasL_mem _ _).2 ((ha.2 _).2 ⟨i, hi, x, hx, hb, h1, by omega⟩)⟩
/-- Go's remainders in the law's index. -/
theorem rem_m (by_ : Int) (n : Nat) (hn : 0 < n) : ∃ m : Nat, m < n ∧ Int.tmod (Int.tmod by_ n + n) n = m := by
  have h1 : -(n : Int) < Int.tmod by_ n ∧ Int.tmod by_ n < n := by
    constructor
    · have := Int.neg_lt_of_neg_lt (a := Int.tmod by_ n) (b := n) (by have := Int.lt_tmod_of_pos by_ (show (0 : Int) < n by omega); omega)
      omega
    · exact Int.tmod_lt_of_pos _ (by omega)
  have h2 : Int.tmod (Int.tmod by_ n + n) n = (Int.tmod by_ n + n) % n := Int.tmod_eq_emod_of_nonneg (by omega)
  have h3 := Int.emod_nonneg (Int.tmod by_ n + n) (show (n : Int) ≠ 0 by omega)
  have h4 := Int.emod_lt_of_pos (Int.tmod by_ n + n) (show (0 : Int) < n by omega)
  exact ⟨((Int.tmod by_ n + n) % n).toNat, by omega, by omega⟩
theorem rem_k (m n i : Nat) (hn : 0 < n) : (n : Int) - 1 - Int.tmod ((m : Int) + i) n = kap m n i := by
  have h2 : Int.tmod ((m : Int) + i) n = (((m + i) % n : Nat) : Int) := by
    rw [Int.tmod_eq_emod_of_nonneg (by omega)]
    push_cast
    rfl
  have h3 := Nat.mod_lt (m + i) hn
  rw [h2]
  unfold kap
  omega
end Go.Proofs.Ytmkojmjjlcfohaa.Rg
