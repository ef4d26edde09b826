/- Sets of spans as lists, more: lengths, taking away what was added; no condition, no program. -/
import Derived.Test.YtmkojmjjlcfohaaRgTwo
set_option linter.unusedVariables false
set_option linter.unusedSimpArgs false
namespace Go.Proofs.Ytmkojmjjlcfohaa.Rg
theorem absorb_len (l : Int) : ∀ (R : List Sp) (x : Sp), (absorb l x R).2.length ≤ R.length
  | [], x => by simp [absorb]
  | y :: R, x => by
    unfold absorb
    split
    · simp
    · exact Nat.le_trans (absorb_len l R _) (by simp)
theorem addL_len (L : List Sp) (f l : Int) : (addL L f l).length ≤ L.length + 1 := by
  have h := absorb_len l (L.drop (fromL L (f - 1))) (f, l)
  have h2 := fromL_le L (f - 1)
  unfold addL
  simp only [List.length_append, List.length_take, List.length_cons, List.length_drop] at h ⊢
  omega
theorem left_len (f l : Int) (x : Sp) : (leftOf f l x).length = (if x.1 < f then 1 else 0) + (if x.2 > l then 1 else 0) := by
  unfold leftOf
  rw [List.length_append]
  split <;> split <;> rfl
theorem without_cons (x : Sp) (L : List Sp) (f l : Int) : withoutL (x :: L) f l = (if x.2 < f ∨ x.1 > l then [x] else leftOf f l x) ++ withoutL L f l := by
  unfold withoutL
  rw [List.flatMap_cons]
theorem without_len (f l : Int) (hfl : f ≤ l) : ∀ (L : List Sp), Ok L → (withoutL L f l).length ≤ L.length + 1 ∧ ((∀ y ∈ L, f ≤ y.1) → (withoutL L f l).length ≤ L.length)
  | [], _ => by simp [withoutL]
  | x :: L, ho => by
    have ih := without_len f l hfl L ho.tail
    have hab := ho.above
    have hx := ho.head
    rw [without_cons, List.length_append, List.length_cons]
    split
    · simp only [List.length_singleton]
      exact ⟨by omega, fun h => by have := ih.2 (fun y hy => h y (List.mem_cons_of_mem _ hy)); omega⟩
    · rename_i hn
      rw [left_len]
      by_cases h2 : x.1 < f ∧ x.2 > l
      · have hf : withoutL L f l = L := without_far L f l (fun y hy => by have := hab y hy; omega)
        rw [hf, if_pos h2.1, if_pos h2.2]
        exact ⟨by omega, fun h => by have := h x List.mem_cons_self; omega⟩
      · refine ⟨?_, fun h => ?_⟩
        · have : (if x.1 < f then 1 else 0) + (if x.2 > l then 1 else 0) ≤ 1 := by split <;> split <;> omega
          omega
        · have h1 := h x List.mem_cons_self
          have := ih.2 (fun y hy => h y (List.mem_cons_of_mem _ hy))
          rw [if_neg (by omega)]
          split <;> omega
theorem removeL_len (L : List Sp) (ho : Ok L) (f l : Int) (hfl : f ≤ l) : (removeL L f l).length ≤ L.length + 1 := by
  rw [remove_is L ho f l]
  exact (without_len f l hfl L ho).1
theorem gapL_free (L : List Sp) (ho : Ok L) (n : Int) (h0 : 0 ≤ n) (h1 : n ≤ 4611686018427387903) (h : ¬ Mem L n) : gapL L n = n := by
  have hm : max n 0 = n := by omega
  by_cases hl : L.length ≤ fromL L (max n 0)
  · rw [gapL_out n hl, hm, if_neg (by omega)]
  · obtain ⟨x, hx⟩ : ∃ x, L[fromL L (max n 0)]? = some x := ⟨_, List.getElem?_eq_getElem (by omega)⟩
    have h2 := fromL_above L ho (max n 0) _ x (Nat.le_refl _) hx
    rw [gapL_at n x hx, hm]
    rw [hm] at h2 hx
    rw [if_neg (fun hc => h ⟨x, List.mem_of_getElem? hx, hc, h2⟩), if_neg (by omega)]
theorem undo (M : List Sp) (ho : Ok M) (f l : Int) (h0 : 0 ≤ f) (h1 : f ≤ l) (h2 : l ≤ 4611686018427387903) (h : ∀ n, f ≤ n → n ≤ l → ¬ Mem M n) : removeL (addL M f l) f l = M := by
  obtain ⟨a1, a2⟩ := addL_ok M ho f l h0 h1 h2
  obtain ⟨r1, r2⟩ := remove_ok (addL M f l) a1 f l h0 h1 h2
  refine ok_unique _ _ r1 ho (fun n => ?_)
  rw [r2, a2]
  constructor
  · rintro ⟨h3 | h3, h4⟩
    · exact absurd h3 h4
    · exact h3
  · intro h3
    exact ⟨.inr h3, fun h4 => h n h4.1 h4.2 h3⟩
theorem bad_is {f l : Int} : bad f l = true ↔ f < 0 ∨ l > 4611686018427387903 ∨ f > l := by
  simp [bad, or_assoc]
/-- What Undo's law meets behind its loop. -/
theorem undo_cases (L : List Sp) (ho : Ok L) (f l : Int) (hf : L.length ≤ 65536) :
    ((f < 0 ∨ l > 4611686018427387903 ∨ f > l) ∧ remR L f l = (2, L)) ∨
    ((0 ≤ f ∧ f ≤ l ∧ l ≤ 4611686018427387903) ∧ ((65536 ≤ L.length ∧ remR L f l = (3, L)) ∨
      ∃ M, Ok M ∧ M.length ≤ 65536 ∧ remR L f l = (0, M) ∧ hasL M f = false ∧ hasL M l = false ∧ gapL M f = f ∧
        ((65536 ≤ M.length ∧ addR M f l = (3, M)) ∨ ∃ N, addR M f l = (0, N) ∧ hasL N f = true ∧ hasL N l = true ∧ remR N f l = (0, M)))) := by
  by_cases hb : bad f l = true
  · exact .inl ⟨bad_is.1 hb, by unfold remR; rw [if_pos hb]⟩
  · obtain ⟨h0, h1, h2⟩ := not_bad hb
    refine .inr ⟨⟨h0, h1, h2⟩, ?_⟩
    by_cases hl : (removeL L f l).length > 65536
    · exact .inl ⟨by have := removeL_len L ho f l h1; omega, by unfold remR; rw [if_neg hb, if_pos hl]⟩
    · obtain ⟨r1, r2⟩ := remove_ok L ho f l h0 h1 h2
      have hn : ∀ n, f ≤ n → n ≤ l → ¬ Mem (removeL L f l) n := fun n a b hm => ((r2 n).1 hm).2 ⟨a, b⟩
      have hfree : ∀ n, f ≤ n → n ≤ l → hasL (removeL L f l) n = false := fun n a b => by
        cases hh : hasL (removeL L f l) n
        · rfl
        · exact absurd ((hasL_mem _ _).1 hh) (hn n a b)
      refine .inr ⟨removeL L f l, r1, by omega, by unfold remR; rw [if_neg hb, if_neg hl], hfree f (by omega) h1, hfree l h1 (by omega), gapL_free _ r1 f h0 (by omega) (hn f (by omega) h1), ?_⟩
      by_cases ha : (addL (removeL L f l) f l).length > 65536
      · exact .inl ⟨by have := addL_len (removeL L f l) f l; omega, by unfold addR; rw [if_neg hb, if_pos ha]⟩
      · obtain ⟨a1, a2⟩ := addL_ok _ r1 f l h0 h1 h2
        refine .inr ⟨addL (removeL L f l) f l, by unfold addR; rw [if_neg hb, if_neg ha], (hasL_mem _ _).2 ((a2 f).2 (.inl ⟨by omega, h1⟩)), (hasL_mem _ _).2 ((a2 l).2 (.inl ⟨h1, by omega⟩)), ?_⟩
        unfold remR
        rw [if_neg hb, undo _ r1 f l h0 h1 h2 hn, if_neg hl]
end Go.Proofs.Ytmkojmjjlcfohaa.Rg
