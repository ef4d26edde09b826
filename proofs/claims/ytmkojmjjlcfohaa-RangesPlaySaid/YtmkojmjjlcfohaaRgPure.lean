/- Sets of spans as lists: what adding, removing and asking do; no condition. -/
set_option linter.unusedVariables false
set_option linter.unusedSimpArgs false
namespace Go.Proofs.Ytmkojmjjlcfohaa.Rg
abbrev Sp := Int × Int
/-- A set: rising spans that do not touch. -/
def Ok (L : List Sp) : Prop := L.Pairwise (fun x y => x.2 + 2 ≤ y.1) ∧ ∀ x ∈ L, 0 ≤ x.1 ∧ x.1 ≤ x.2 ∧ x.2 ≤ 4611686018427387903
def Mem (L : List Sp) (n : Int) : Prop := ∃ x ∈ L, x.1 ≤ n ∧ n ≤ x.2
theorem ok_nil : Ok [] := ⟨List.Pairwise.nil, fun _ h => by cases h⟩
theorem Ok.tail {x : Sp} {L : List Sp} (h : Ok (x :: L)) : Ok L := ⟨(List.pairwise_cons.1 h.1).2, fun y hy => h.2 y (List.mem_cons_of_mem _ hy)⟩
theorem Ok.head {x : Sp} {L : List Sp} (h : Ok (x :: L)) : 0 ≤ x.1 ∧ x.1 ≤ x.2 ∧ x.2 ≤ 4611686018427387903 := h.2 x List.mem_cons_self
theorem Ok.above {x : Sp} {L : List Sp} (h : Ok (x :: L)) : ∀ y ∈ L, x.2 + 2 ≤ y.1 := (List.pairwise_cons.1 h.1).1
theorem ok_cons {x : Sp} {L : List Sp} (h : Ok L) (h0 : 0 ≤ x.1) (h1 : x.1 ≤ x.2) (h2 : x.2 ≤ 4611686018427387903) (h3 : ∀ y ∈ L, x.2 + 2 ≤ y.1) : Ok (x :: L) :=
  ⟨List.pairwise_cons.2 ⟨h3, h.1⟩, fun y hy => by rcases List.mem_cons.1 hy with rfl | hy; exact ⟨h0, h1, h2⟩; exact h.2 y hy⟩
theorem mem_cons {x : Sp} {L : List Sp} {n : Int} : Mem (x :: L) n ↔ (x.1 ≤ n ∧ n ≤ x.2) ∨ Mem L n := by
  unfold Mem
  simp
theorem mem_nil {n : Int} : ¬ Mem [] n := by rintro ⟨x, hx, _⟩; cases hx
theorem mem_append {A B : List Sp} {n : Int} : Mem (A ++ B) n ↔ Mem A n ∨ Mem B n := by
  unfold Mem
  simp only [List.mem_append]
  constructor
  · rintro ⟨x, h | h, r⟩
    · exact .inl ⟨x, h, r⟩
    · exact .inr ⟨x, h, r⟩
  · rintro (⟨x, h, r⟩ | ⟨x, h, r⟩)
    · exact ⟨x, .inl h, r⟩
    · exact ⟨x, .inr h, r⟩
/-- The same numbers: the same spans. -/
theorem ok_unique : ∀ (L M : List Sp), Ok L → Ok M → (∀ n, Mem L n ↔ Mem M n) → L = M
  | [], [], _, _, _ => rfl
  | [], y :: M, _, hM, h => absurd ((h y.1).2 ⟨y, List.mem_cons_self, Int.le_refl _, hM.head.2.1⟩) mem_nil
  | x :: L, [], hL, _, h => absurd ((h x.1).1 ⟨x, List.mem_cons_self, Int.le_refl _, hL.head.2.1⟩) mem_nil
  | x :: L, y :: M, hL, hM, h => by
    have hx := hL.head
    have hy := hM.head
    have low : ∀ {z : Sp} {K : List Sp}, Ok (z :: K) → ∀ n, Mem (z :: K) n → z.1 ≤ n := by
      intro z K hK n hn
      rcases mem_cons.1 hn with h1 | ⟨u, hu, h2, _⟩
      · exact h1.1
      · have := hK.above u hu
        have := hK.head
        omega
    have e1 : x.1 = y.1 := by
      have a := low hM _ ((h x.1).1 ⟨x, List.mem_cons_self, Int.le_refl _, hx.2.1⟩)
      have b := low hL _ ((h y.1).2 ⟨y, List.mem_cons_self, Int.le_refl _, hy.2.1⟩)
      omega
    have gap : ∀ {z : Sp} {K : List Sp}, Ok (z :: K) → ∀ n, z.1 ≤ n → (∀ m, z.1 ≤ m → m ≤ n → Mem (z :: K) m) → n ≤ z.2 := by
      intro z K hK n hn hall
      have hz := hK.head
      apply Decidable.byContradiction
      intro hc
      rcases mem_cons.1 (hall (z.2 + 1) (by omega) (by omega)) with h1 | ⟨u, hu, h2, _⟩
      · omega
      · have := hK.above u hu
        omega
    have e2 : x.2 = y.2 := by
      have a := gap hM x.2 (by omega) (fun m h1 h2 => (h m).1 ⟨x, List.mem_cons_self, by omega, h2⟩)
      have b := gap hL y.2 (by omega) (fun m h1 h2 => (h m).2 ⟨y, List.mem_cons_self, by omega, h2⟩)
      omega
    have e : x = y := Prod.ext e1 e2
    subst e
    rw [ok_unique L M hL.tail hM.tail (fun n => ?_)]
    constructor
    · intro hn
      obtain ⟨u, hu, h1, h2⟩ := hn
      have ha := hL.above u hu
      rcases mem_cons.1 ((h n).1 (mem_cons.2 (.inr ⟨u, hu, h1, h2⟩))) with h3 | h3
      · omega
      · exact h3
    · intro hn
      obtain ⟨u, hu, h1, h2⟩ := hn
      have ha := hM.above u hu
      rcases mem_cons.1 ((h n).2 (mem_cons.2 (.inr ⟨u, hu, h1, h2⟩))) with h3 | h3
      · omega
      · exact h3
/-- The place of the first span that does not end below n. -/
def fromL (L : List Sp) (n : Int) : Nat := (L.takeWhile (fun x => decide (x.2 < n))).length
theorem fromL_nil (n : Int) : fromL [] n = 0 := rfl
theorem fromL_cons (x : Sp) (L : List Sp) (n : Int) : fromL (x :: L) n = if x.2 < n then fromL L n + 1 else 0 := by
  unfold fromL
  rw [List.takeWhile_cons]
  split
  · next h => rw [if_pos (by simpa using h)]; rfl
  · next h => rw [if_neg (by simpa using h)]; rfl
theorem fromL_le : ∀ (L : List Sp) (n : Int), fromL L n ≤ L.length
  | [], _ => Nat.le_refl _
  | x :: L, n => by
    rw [fromL_cons]
    have := fromL_le L n
    simp only [List.length_cons]
    split <;> omega
theorem fromL_below : ∀ (L : List Sp) (n : Int) (k : Nat) (x : Sp), k < fromL L n → L[k]? = some x → x.2 < n
  | [], _, _, _, h, _ => by simp [fromL] at h
  | y :: L, n, k, x, h, hx => by
    rw [fromL_cons] at h
    split at h
    · cases k with
      | zero => simp at hx; subst hx; assumption
      | succ k => exact fromL_below L n k x (by omega) (by simpa using hx)
    · omega
theorem fromL_above : ∀ (L : List Sp), Ok L → ∀ (n : Int) (k : Nat) (x : Sp), fromL L n ≤ k → L[k]? = some x → n ≤ x.2
  | [], _, _, _, _, _, hx => by simp at hx
  | y :: L, ho, n, k, x, h, hx => by
    rw [fromL_cons] at h
    cases k with
    | zero =>
      simp at hx
      subst hx
      split at h <;> omega
    | succ k =>
      have hx' : L[k]? = some x := by simpa using hx
      have hm : x ∈ L := List.mem_of_getElem? hx'
      have ha := ho.above x hm
      have hh := ho.tail.2 x hm
      split at h
      · exact fromL_above L ho.tail n k x (by omega) hx'
      · have := ho.head
        omega
/-- It is the only such place. -/
theorem fromL_eq (L : List Sp) (ho : Ok L) (n : Int) (i : Nat) (hi : i ≤ L.length) (h1 : ∀ k x, k < i → L[k]? = some x → x.2 < n) (h2 : ∀ x, L[i]? = some x → n ≤ x.2) : i = fromL L n := by
  have hl := fromL_le L n
  apply Decidable.byContradiction
  intro hne
  by_cases hlt : i < fromL L n
  · have hx : L[i]? = some L[i] := List.getElem?_eq_getElem (by omega)
    have a := fromL_below L n i _ hlt hx
    have b := h2 _ hx
    omega
  · have hx : L[fromL L n]? = some L[fromL L n] := List.getElem?_eq_getElem (by omega)
    have a := h1 _ _ (by omega) hx
    have b := fromL_above L ho n _ _ (Nat.le_refl _) hx
    omega
theorem drop_from (L : List Sp) (n : Int) : L.drop (fromL L n) = L.dropWhile (fun x => decide (x.2 < n)) := by
  induction L with
  | nil => rfl
  | cons x L ih =>
    rw [fromL_cons, List.dropWhile_cons]
    split
    · next h => rw [if_pos (by simpa using h)]; exact ih
    · next h => rw [if_neg (by simpa using h)]; rfl
theorem take_from (L : List Sp) (n : Int) : L.take (fromL L n) = L.takeWhile (fun x => decide (x.2 < n)) := by
  induction L with
  | nil => rfl
  | cons x L ih =>
    rw [fromL_cons, List.takeWhile_cons]
    split
    · next h => rw [if_pos (by simpa using h), List.take_succ_cons, ih]
    · next h => rw [if_neg (by simpa using h)]; rfl
/-- Is a number in it? -/
def hasL (L : List Sp) (n : Int) : Bool := L.any (fun x => decide (x.1 ≤ n) && decide (n ≤ x.2))
theorem hasL_mem (L : List Sp) (n : Int) : hasL L n = true ↔ Mem L n := by
  unfold hasL Mem
  simp
theorem hasL_neg (L : List Sp) (ho : Ok L) (n : Int) (h : n < 0) : hasL L n = false := by
  rw [Bool.eq_false_iff]
  intro hc
  obtain ⟨x, hx, h1, _⟩ := (hasL_mem L n).1 hc
  have := ho.2 x hx
  omega
theorem hasL_out (L : List Sp) (ho : Ok L) (n : Int) (h : L.length ≤ fromL L n) : hasL L n = false := by
  rw [Bool.eq_false_iff]
  intro hc
  obtain ⟨x, hx, h1, h2⟩ := (hasL_mem L n).1 hc
  obtain ⟨k, hk, rfl⟩ := List.mem_iff_getElem.1 hx
  have := fromL_below L n k _ (by omega) (List.getElem?_eq_getElem hk)
  omega
theorem hasL_at (L : List Sp) (ho : Ok L) (n : Int) (x : Sp) (hx : L[fromL L n]? = some x) : hasL L n = decide (x.1 ≤ n) := by
  have h2 := fromL_above L ho n _ x (Nat.le_refl _) hx
  rw [Bool.eq_iff_iff, hasL_mem, decide_eq_true_iff]
  constructor
  · rintro ⟨y, hy, h3, h4⟩
    obtain ⟨k, hk, rfl⟩ := List.mem_iff_getElem.1 hy
    have hk' : L[k]? = some L[k] := List.getElem?_eq_getElem hk
    by_cases hlt : k < fromL L n
    · have := fromL_below L n k _ hlt hk'
      omega
    · obtain ⟨hf, hxe⟩ := List.getElem?_eq_some_iff.1 hx
      by_cases he : k = fromL L n
      · subst he
        rw [hxe] at h3
        exact h3
      · have hp := List.pairwise_iff_getElem.1 ho.1 (fromL L n) k hf hk (by omega)
        rw [hxe] at hp
        have := ho.2 x (List.mem_of_getElem? hx)
        omega
  · intro h1
    exact ⟨x, List.mem_of_getElem? hx, h1, h2⟩
/-- The least number from one on that is not in it. -/
def gapL (L : List Sp) (f : Int) : Int :=
  let f := max f 0
  let g := match L[fromL L f]? with
    | some x => if x.1 ≤ f then x.2 + 1 else f
    | none => f
  if g > 4611686018427387903 then -1 else g
def gapR (L : List Sp) (f : Int) : Int := L.foldl (fun f x => if x.1 ≤ f ∧ f ≤ x.2 then x.2 + 1 else f) f
theorem gapR_far : ∀ (L : List Sp) (f : Int), (∀ x ∈ L, f < x.1) → gapR L f = f
  | [], _, _ => rfl
  | x :: L, f, h => by
    have h1 := h x List.mem_cons_self
    unfold gapR
    rw [List.foldl_cons, if_neg (by omega)]
    exact gapR_far L f (fun y hy => h y (List.mem_cons_of_mem _ hy))
theorem gapR_is : ∀ (L : List Sp), Ok L → ∀ f : Int, gapR L f = match L[fromL L f]? with
    | some x => if x.1 ≤ f then x.2 + 1 else f
    | none => f
  | [], _, f => rfl
  | x :: L, ho, f => by
    rw [fromL_cons]
    have hs : gapR (x :: L) f = gapR L (if x.1 ≤ f ∧ f ≤ x.2 then x.2 + 1 else f) := rfl
    rw [hs]
    have hh := ho.head
    by_cases h : x.2 < f
    · rw [if_pos h, if_neg (by omega), gapR_is L ho.tail f]
      rfl
    · rw [if_neg h]
      show _ = if x.1 ≤ f then x.2 + 1 else f
      by_cases h1 : x.1 ≤ f
      · rw [if_pos ⟨h1, by omega⟩, if_pos h1]
        exact gapR_far L _ (fun y hy => by have := ho.above y hy; omega)
      · rw [if_neg (by omega), if_neg h1]
        exact gapR_far L _ (fun y hy => by have := ho.above y hy; omega)
theorem gapL_is (L : List Sp) (ho : Ok L) (f : Int) : gapL L f = if gapR L (max f 0) > 4611686018427387903 then -1 else gapR L (max f 0) := by
  rw [gapR_is L ho]; rfl
/-- The spans behind a new one that it touches, and what is left behind them. -/
def absorb (last : Int) : Sp → List Sp → Sp × List Sp
  | x, [] => (x, [])
  | x, y :: r => if y.1 > last + 1 then (x, y :: r) else absorb last (min x.1 y.1, max x.2 y.2) r
def addL (L : List Sp) (f l : Int) : List Sp := L.take (fromL L (f - 1)) ++ ((absorb l (f, l) (L.drop (fromL L (f - 1)))).1 :: (absorb l (f, l) (L.drop (fromL L (f - 1)))).2)
theorem absorb_ok : ∀ (R : List Sp) (x : Sp) (l : Int), Ok R → 0 ≤ x.1 → x.1 ≤ l → l ≤ x.2 → x.2 ≤ 4611686018427387903 → (x.2 = l ∨ ∀ y ∈ R, x.2 + 2 ≤ y.1) → (∀ y ∈ R, x.1 - 1 ≤ y.2) →
    Ok ((absorb l x R).1 :: (absorb l x R).2) ∧ (∀ n, Mem ((absorb l x R).1 :: (absorb l x R).2) n ↔ (x.1 ≤ n ∧ n ≤ x.2) ∨ Mem R n) ∧ ((absorb l x R).1.1 = x.1 ∨ ∃ y ∈ R, (absorb l x R).1.1 = y.1)
  | [], x, l, _, h0, h1, h2, h3, _, _ => ⟨ok_cons (x := x) ok_nil h0 (by omega) h3 (fun _ h => by cases h), fun n => by simp [absorb, mem_cons, mem_nil], .inl rfl⟩
  | y :: R, x, l, ho, h0, h1, h2, h3, h4, h5 => by
    have hy := ho.head
    have h5y := h5 y List.mem_cons_self
    unfold absorb
    split
    · next hgt =>
      refine ⟨ok_cons (x := x) ho h0 (by omega) h3 (fun z hz => ?_), fun n => mem_cons, .inl rfl⟩
      rcases h4 with h4 | h4
      · rcases List.mem_cons.1 hz with rfl | hz
        · omega
        · have := ho.above z hz
          omega
      · exact h4 z hz
    · next hle =>
      have hxl : x.2 = l := by
        rcases h4 with h4 | h4
        · exact h4
        · have := h4 y List.mem_cons_self
          omega
      have hr : max x.2 y.2 = l ∨ ∀ z ∈ R, max x.2 y.2 + 2 ≤ z.1 := by
        by_cases hc : y.2 ≤ l
        · left; omega
        · right
          intro z hz
          have := ho.above z hz
          omega
      obtain ⟨a, b, c⟩ := absorb_ok R (min x.1 y.1, max x.2 y.2) l ho.tail (by simp only; omega) (by simp only; omega) (by simp only; omega) (by simp only; omega) hr (fun z hz => by
        have := ho.above z hz
        have := ho.tail.2 z hz
        simp only
        omega)
      refine ⟨a, fun n => (b n).trans ?_, ?_⟩
      · rw [mem_cons]
        simp only
        constructor
        · rintro (h | h)
          · by_cases hn : x.1 ≤ n ∧ n ≤ x.2
            · exact .inl hn
            · exact .inr (.inl (by omega))
          · exact .inr (.inr h)
        · rintro (h | h | h)
          · exact .inl (by omega)
          · exact .inl (by omega)
          · exact .inr h
      · rcases c with c | ⟨z, hz, c⟩
        · simp only at c
          by_cases hm : x.1 ≤ y.1
          · left; omega
          · right; exact ⟨y, List.mem_cons_self, by omega⟩
        · exact .inr ⟨z, List.mem_cons_of_mem _ hz, c⟩
theorem ok_append {A B : List Sp} (hA : Ok A) (hB : Ok B) (h : ∀ x ∈ A, ∀ y ∈ B, x.2 + 2 ≤ y.1) : Ok (A ++ B) :=
  ⟨List.pairwise_append.2 ⟨hA.1, hB.1, h⟩, fun x hx => by rcases List.mem_append.1 hx with hx | hx; exact hA.2 x hx; exact hB.2 x hx⟩
theorem Ok.sub {L M : List Sp} (h : Ok L) (hs : M.Sublist L) : Ok M := ⟨h.1.sublist hs, fun x hx => h.2 x (hs.subset hx)⟩
theorem mem_take {L : List Sp} {n : Int} {x : Sp} (hx : x ∈ L.take (fromL L n)) : x.2 < n := by
  obtain ⟨i, hi, rfl⟩ := List.mem_iff_getElem.1 hx
  rw [List.length_take] at hi
  rw [List.getElem_take]
  exact fromL_below L n i _ (by omega) (List.getElem?_eq_getElem (by omega))
theorem mem_drop {L : List Sp} (ho : Ok L) {n : Int} {x : Sp} (hx : x ∈ L.drop (fromL L n)) : n ≤ x.2 := by
  obtain ⟨i, hi, rfl⟩ := List.mem_iff_getElem.1 hx
  rw [List.length_drop] at hi
  rw [List.getElem_drop]
  exact fromL_above L ho n _ _ (Nat.le_add_right _ _) (List.getElem?_eq_getElem (by omega))
theorem addL_ok (L : List Sp) (ho : Ok L) (f l : Int) (h0 : 0 ≤ f) (h1 : f ≤ l) (h2 : l ≤ 4611686018427387903) :
    Ok (addL L f l) ∧ ∀ n, Mem (addL L f l) n ↔ (f ≤ n ∧ n ≤ l) ∨ Mem L n := by
  have hT : Ok (L.take (fromL L (f - 1))) := ho.sub (List.take_sublist _ _)
  have hD : Ok (L.drop (fromL L (f - 1))) := ho.sub (List.drop_sublist _ _)
  obtain ⟨a, b, c⟩ := absorb_ok (L.drop (fromL L (f - 1))) (f, l) l hD h0 h1 (Int.le_refl _) h2 (.inl rfl) (fun y hy => mem_drop ho hy)
  have hp : ∀ x ∈ L.take (fromL L (f - 1)), ∀ y ∈ L.drop (fromL L (f - 1)), x.2 + 2 ≤ y.1 := by
    have := ho.1
    rw [← List.take_append_drop (fromL L (f - 1)) L] at this
    exact (List.pairwise_append.1 this).2.2
  have hh : ∀ x ∈ L.take (fromL L (f - 1)), x.2 + 2 ≤ (absorb l (f, l) (L.drop (fromL L (f - 1)))).1.1 := by
    intro x hx
    rcases c with c | ⟨z, hz, c⟩
    · rw [c]
      have := mem_take hx
      simp only
      omega
    · rw [c]
      exact hp x hx z hz
  refine ⟨ok_append hT a (fun x hx y hy => ?_), fun n => ?_⟩
  · rcases List.mem_cons.1 hy with rfl | hy
    · exact hh x hx
    · have := hh x hx
      have := a.above y hy
      have := a.head
      omega
  · unfold addL
    rw [mem_append, b n]
    have : Mem L n ↔ Mem (L.take (fromL L (f - 1))) n ∨ Mem (L.drop (fromL L (f - 1))) n := by
      rw [← mem_append, List.take_append_drop]
    rw [this]
    simp only
    constructor
    · rintro (h | h | h)
      · exact .inr (.inl h)
      · exact .inl h
      · exact .inr (.inr h)
    · rintro (h | h | h)
      · exact .inr (.inl h)
      · exact .inl h
      · exact .inr (.inr h)
/-- What is left of a span without the numbers from f to l. -/
def leftOf (f l : Int) (x : Sp) : List Sp := (if x.1 < f then [(x.1, f - 1)] else []) ++ (if x.2 > l then [(l + 1, x.2)] else [])
/-- What is left of the spans that begin at l or below, and the others. -/
def cutL (f l : Int) : List Sp → List Sp × List Sp
  | [] => ([], [])
  | y :: r => if y.1 ≤ l then (leftOf f l y ++ (cutL f l r).1, (cutL f l r).2) else ([], y :: r)
def removeL (L : List Sp) (f l : Int) : List Sp := L.take (fromL L f) ++ ((cutL f l (L.drop (fromL L f))).1 ++ (cutL f l (L.drop (fromL L f))).2)
/-- By definition. -/
def withoutL (L : List Sp) (f l : Int) : List Sp := L.flatMap (fun x => if x.2 < f ∨ x.1 > l then [x] else leftOf f l x)
theorem without_far : ∀ (L : List Sp) (f l : Int), (∀ x ∈ L, x.2 < f ∨ x.1 > l) → withoutL L f l = L
  | [], _, _, _ => rfl
  | x :: L, f, l, h => by
    unfold withoutL
    rw [List.flatMap_cons, if_pos (h x List.mem_cons_self)]
    exact congrArg (x :: ·) (without_far L f l (fun y hy => h y (List.mem_cons_of_mem _ hy)))
theorem without_append (A B : List Sp) (f l : Int) : withoutL (A ++ B) f l = withoutL A f l ++ withoutL B f l := by
  unfold withoutL
  rw [List.flatMap_append]
theorem cut_is : ∀ (R : List Sp) (f l : Int), Ok R → (∀ x ∈ R, f ≤ x.2) → (cutL f l R).1 ++ (cutL f l R).2 = withoutL R f l
  | [], _, _, _, _ => rfl
  | y :: R, f, l, ho, h => by
    have hy := h y List.mem_cons_self
    unfold cutL
    by_cases h1 : y.1 ≤ l
    · rw [if_pos h1]
      have := cut_is R f l ho.tail (fun x hx => h x (List.mem_cons_of_mem _ hx))
      show leftOf f l y ++ (cutL f l R).1 ++ (cutL f l R).2 = _
      rw [List.append_assoc, this]
      unfold withoutL
      rw [List.flatMap_cons, if_neg (by omega)]
    · rw [if_neg h1]
      refine (without_far (y :: R) f l (fun x hx => ?_)).symm
      rcases List.mem_cons.1 hx with rfl | hx
      · right; omega
      · have := ho.above x hx
        have := ho.head
        right; omega
theorem remove_is (L : List Sp) (ho : Ok L) (f l : Int) : removeL L f l = withoutL L f l := by
  unfold removeL
  rw [cut_is _ _ _ (ho.sub (List.drop_sublist _ _)) (fun x hx => mem_drop ho hx)]
  have h1 := without_far (L.take (fromL L f)) f l (fun x hx => .inl (mem_take hx))
  have h2 := without_append (L.take (fromL L f)) (L.drop (fromL L f)) f l
  rw [h1, List.take_append_drop] at h2
  exact h2.symm
theorem mem_one {x : Sp} {n : Int} : Mem [x] n ↔ x.1 ≤ n ∧ n ≤ x.2 := by
  rw [mem_cons]
  exact ⟨fun h => h.elim id (fun h => absurd h mem_nil), .inl⟩
theorem leftOf_mem (f l : Int) (x : Sp) (n : Int) (h : f ≤ l) : Mem (leftOf f l x) n ↔ (x.1 ≤ n ∧ n < f ∧ x.1 < f) ∨ (l < n ∧ n ≤ x.2 ∧ x.2 > l) := by
  have hn : Mem [] n ↔ False := ⟨mem_nil, False.elim⟩
  unfold leftOf
  rw [mem_append]
  by_cases h1 : x.1 < f
  · by_cases h2 : x.2 > l
    · rw [if_pos h1, if_pos h2, mem_one, mem_one]
      constructor
      · rintro (h | h) <;> simp only at h <;> omega
      · rintro (h | h)
        · left; simp only; omega
        · right; simp only; omega
    · rw [if_pos h1, if_neg h2, mem_one, hn]
      constructor
      · rintro (h | h)
        · simp only at h; omega
        · exact h.elim
      · rintro (h | h)
        · left; simp only; omega
        · omega
  · by_cases h2 : x.2 > l
    · rw [if_neg h1, if_pos h2, mem_one, hn]
      constructor
      · rintro (h | h)
        · exact h.elim
        · simp only at h; omega
      · rintro (h | h)
        · omega
        · right; simp only; omega
    · rw [if_neg h1, if_neg h2, hn]
      constructor
      · rintro (h | h) <;> exact h.elim
      · intro h; omega
theorem without_in : ∀ (L : List Sp) (f l : Int), ∀ y ∈ withoutL L f l, ∃ x ∈ L, x.1 ≤ y.1 ∧ y.2 ≤ x.2
  | [], _, _, y, hy => by cases hy
  | x :: L, f, l, y, hy => by
    unfold withoutL at hy
    rw [List.flatMap_cons, List.mem_append] at hy
    rcases hy with hy | hy
    · refine ⟨x, List.mem_cons_self, ?_⟩
      split at hy
      · rw [List.mem_singleton.1 hy]; omega
      · next hc =>
        unfold leftOf at hy
        rw [List.mem_append] at hy
        rcases hy with hy | hy
        · split at hy
          · rw [List.mem_singleton.1 hy]; simp only; omega
          · cases hy
        · split at hy
          · rw [List.mem_singleton.1 hy]; simp only; omega
          · cases hy
    · obtain ⟨z, hz, h⟩ := without_in L f l y hy
      exact ⟨z, List.mem_cons_of_mem _ hz, h⟩
theorem without_ok : ∀ (L : List Sp) (f l : Int), Ok L → 0 ≤ f → f ≤ l → l ≤ 4611686018427387903 → Ok (withoutL L f l) ∧ ∀ n, Mem (withoutL L f l) n ↔ Mem L n ∧ ¬ (f ≤ n ∧ n ≤ l)
  | [], _, _, _, _, _, _ => ⟨ok_nil, fun n => ⟨fun h => absurd h mem_nil, fun h => h.1⟩⟩
  | x :: L, f, l, ho, h0, h1, h2 => by
    obtain ⟨a, b⟩ := without_ok L f l ho.tail h0 h1 h2
    have hx := ho.head
    have hs : withoutL (x :: L) f l = (if x.2 < f ∨ x.1 > l then [x] else leftOf f l x) ++ withoutL L f l := rfl
    have hin : ∀ y ∈ withoutL L f l, x.2 + 2 ≤ y.1 := fun y hy => by
      obtain ⟨z, hz, h⟩ := without_in L f l y hy
      have := ho.above z hz
      omega
    have hl : Ok (if x.2 < f ∨ x.1 > l then [x] else leftOf f l x) ∧ (∀ u ∈ (if x.2 < f ∨ x.1 > l then [x] else leftOf f l x), u.2 ≤ x.2) := by
      split
      · exact ⟨ok_cons ok_nil hx.1 hx.2.1 hx.2.2 (fun _ h => by cases h), fun u hu => by rw [List.mem_singleton.1 hu]; omega⟩
      · next hc =>
        unfold leftOf
        by_cases c1 : x.1 < f
        · by_cases c2 : x.2 > l
          · rw [if_pos c1, if_pos c2]
            refine ⟨ok_cons (ok_cons ok_nil (by simp only; omega) (by simp only; omega) hx.2.2 (fun _ h => by cases h)) hx.1 (by simp only; omega) (by simp only; omega) (fun y hy => ?_), fun u hu => ?_⟩
            · rw [List.mem_singleton.1 hy]; simp only; omega
            · simp only [List.cons_append, List.nil_append, List.mem_cons, List.not_mem_nil, or_false] at hu
              rcases hu with rfl | rfl <;> simp only <;> omega
          · rw [if_pos c1, if_neg c2]
            refine ⟨ok_cons ok_nil hx.1 (by simp only; omega) (by simp only; omega) (fun _ h => by cases h), fun u hu => ?_⟩
            simp only [List.append_nil, List.mem_cons, List.not_mem_nil, or_false] at hu
            subst hu; simp only; omega
        · by_cases c2 : x.2 > l
          · rw [if_neg c1, if_pos c2]
            refine ⟨ok_cons ok_nil (by simp only; omega) (by simp only; omega) hx.2.2 (fun _ h => by cases h), fun u hu => ?_⟩
            simp only [List.nil_append, List.mem_cons, List.not_mem_nil, or_false] at hu
            subst hu; simp only; omega
          · rw [if_neg c1, if_neg c2]
            exact ⟨ok_nil, fun u hu => by cases hu⟩
    rw [hs]
    refine ⟨ok_append hl.1 a (fun u hu y hy => by have := hl.2 u hu; have := hin y hy; omega), fun n => ?_⟩
    rw [mem_append, b n, mem_cons]
    have hk : Mem (if x.2 < f ∨ x.1 > l then [x] else leftOf f l x) n ↔ (x.1 ≤ n ∧ n ≤ x.2) ∧ ¬ (f ≤ n ∧ n ≤ l) := by
      by_cases hc : x.2 < f ∨ x.1 > l
      · rw [if_pos hc, mem_one]
        omega
      · rw [if_neg hc, leftOf_mem _ _ _ _ h1]
        omega
    rw [hk]
    constructor
    · rintro (h | h)
      · exact ⟨.inl h.1, h.2⟩
      · exact ⟨.inr h.1, h.2⟩
    · rintro ⟨h | h, h'⟩
      · exact .inl ⟨h, h'⟩
      · exact .inr ⟨h, h'⟩
/-- A span put ahead of the first that begins beyond it. -/
def insL (f l : Int) : List Sp → List Sp
  | [] => [(f, l)]
  | y :: r => if y.1 > l then (f, l) :: y :: r else y :: insL f l r
/-- One more behind rising spans: put together with the last where it touches. -/
def stepJ (out : List Sp) (y : Sp) : List Sp :=
  match out.getLast? with
  | some z => if z.2 + 1 = y.1 then out.dropLast ++ [(z.1, y.2)] else out ++ [y]
  | none => out ++ [y]
def joinL (L : List Sp) : List Sp := L.foldl stepJ []
theorem joinL_snoc (L : List Sp) (y : Sp) : joinL (L ++ [y]) = stepJ (joinL L) y := by
  unfold joinL
  rw [List.foldl_append]
  rfl
def Lo (L : List Sp) : Prop := L.Pairwise (fun x y => x.2 < y.1) ∧ ∀ x ∈ L, 0 ≤ x.1 ∧ x.1 ≤ x.2 ∧ x.2 ≤ 4611686018427387903
theorem Ok.lo {L : List Sp} (h : Ok L) : Lo L := ⟨h.1.imp (fun h => by omega), h.2⟩
theorem Lo.tail {x : Sp} {L : List Sp} (h : Lo (x :: L)) : Lo L := ⟨(List.pairwise_cons.1 h.1).2, fun y hy => h.2 y (List.mem_cons_of_mem _ hy)⟩
theorem stepJ_ok (out : List Sp) (y : Sp) (ho : Ok out) (hy : 0 ≤ y.1 ∧ y.1 ≤ y.2 ∧ y.2 ≤ 4611686018427387903) (h : ∀ x ∈ out, x.2 < y.1) :
    Ok (stepJ out y) ∧ (∀ n, Mem (stepJ out y) n ↔ Mem out n ∨ (y.1 ≤ n ∧ n ≤ y.2)) ∧ ∀ x ∈ stepJ out y, x.2 ≤ y.2 := by
  unfold stepJ
  rcases List.eq_nil_or_concat out with rfl | ⟨D, z, rfl⟩
  · refine ⟨ok_cons ok_nil hy.1 hy.2.1 hy.2.2 (fun _ h => by cases h), fun n => ?_, fun x hx => ?_⟩
    · show Mem [y] n ↔ _
      rw [mem_one]
      exact ⟨.inr, fun h => h.elim (fun h => absurd h mem_nil) id⟩
    · rw [List.mem_singleton.1 hx]; omega
  · rw [List.concat_eq_append] at *
    have hz := ho.2 z (by simp)
    have hzy := h z (by simp)
    have hD : Ok D := ho.sub (List.sublist_append_left _ _)
    have hDz : ∀ x ∈ D, x.2 + 2 ≤ z.1 := fun x hx => (List.pairwise_append.1 ho.1).2.2 x hx z (by simp)
    rw [List.getLast?_concat]
    show Ok (if z.2 + 1 = y.1 then (D ++ [z]).dropLast ++ [(z.1, y.2)] else D ++ [z] ++ [y]) ∧ _
    by_cases hc : z.2 + 1 = y.1
    · simp only [if_pos hc, List.dropLast_concat]
      refine ⟨ok_append hD (ok_cons ok_nil hz.1 (by simp only; omega) hy.2.2 (fun _ h => by cases h)) (fun x hx u hu => by rw [List.mem_singleton.1 hu]; exact hDz x hx), fun n => ?_, fun x hx => ?_⟩
      · rw [mem_append, mem_append, mem_one, mem_one]
        simp only
        constructor
        · rintro (h | h)
          · exact .inl (.inl h)
          · by_cases hn : n ≤ z.2
            · exact .inl (.inr ⟨h.1, hn⟩)
            · exact .inr (by omega)
        · rintro ((h | h) | h)
          · exact .inl h
          · exact .inr (by omega)
          · exact .inr (by omega)
      · rcases List.mem_append.1 hx with hx | hx
        · have := hDz x hx
          omega
        · rw [List.mem_singleton.1 hx]; simp only; omega
    · simp only [if_neg hc]
      refine ⟨ok_append ho (ok_cons ok_nil hy.1 hy.2.1 hy.2.2 (fun _ h => by cases h)) (fun x hx u hu => ?_), fun n => ?_, fun x hx => ?_⟩
      · rw [List.mem_singleton.1 hu]
        rcases List.mem_append.1 hx with hx | hx
        · have := hDz x hx
          omega
        · rw [List.mem_singleton.1 hx]; omega
      · rw [mem_append, mem_one]
      · rcases List.mem_append.1 hx with hx | hx
        · have := h x hx
          omega
        · rw [List.mem_singleton.1 hx]; omega
theorem joinL_go : ∀ (L out : List Sp), Lo L → Ok out → (∀ x ∈ out, ∀ y ∈ L, x.2 < y.1) → Ok (L.foldl stepJ out) ∧ ∀ n, Mem (L.foldl stepJ out) n ↔ Mem out n ∨ Mem L n
  | [], out, _, ho, _ => ⟨ho, fun n => ⟨.inl, fun h => h.elim id (fun h => absurd h mem_nil)⟩⟩
  | y :: L, out, hl, ho, h => by
    obtain ⟨a, b, c⟩ := stepJ_ok out y ho (hl.2 y List.mem_cons_self) (fun x hx => h x hx y List.mem_cons_self)
    have hp := (List.pairwise_cons.1 hl.1).1
    obtain ⟨d, e⟩ := joinL_go L (stepJ out y) hl.tail a (fun x hx u hu => by have := c x hx; have := hp u hu; omega)
    refine ⟨d, fun n => (e n).trans ?_⟩
    rw [b n, mem_cons, or_assoc]
theorem joinL_ok (L : List Sp) (hl : Lo L) : Ok (joinL L) ∧ ∀ n, Mem (joinL L) n ↔ Mem L n := by
  obtain ⟨a, b⟩ := joinL_go L [] hl ok_nil (fun _ h => by cases h)
  exact ⟨a, fun n => (b n).trans ⟨fun h => h.elim (fun h => absurd h mem_nil) id, .inr⟩⟩
theorem insL_in : ∀ (L : List Sp) (f l : Int), ∀ x ∈ insL f l L, x = (f, l) ∨ x ∈ L
  | [], f, l, x, hx => .inl (List.mem_singleton.1 hx)
  | y :: r, f, l, x, hx => by
    unfold insL at hx
    split at hx
    · rcases List.mem_cons.1 hx with h | h
      · exact .inl h
      · exact .inr h
    · rcases List.mem_cons.1 hx with rfl | h
      · exact .inr List.mem_cons_self
      · rcases insL_in r f l x h with h | h
        · exact .inl h
        · exact .inr (List.mem_cons_of_mem _ h)
theorem insL_ok : ∀ (L : List Sp) (f l : Int), Lo L → 0 ≤ f → f ≤ l → l ≤ 4611686018427387903 → (∀ x ∈ L, x.2 < f ∨ l < x.1) → Lo (insL f l L) ∧ ∀ n, Mem (insL f l L) n ↔ (f ≤ n ∧ n ≤ l) ∨ Mem L n
  | [], f, l, _, h0, h1, h2, _ => ⟨⟨List.pairwise_singleton _ _, fun x hx => by rw [List.mem_singleton.1 hx]; exact ⟨h0, h1, h2⟩⟩, fun n => mem_cons⟩
  | y :: r, f, l, ho, h0, h1, h2, h => by
    have hy := ho.2 y List.mem_cons_self
    have hp := (List.pairwise_cons.1 ho.1).1
    unfold insL
    by_cases hc : y.1 > l
    · rw [if_pos hc]
      refine ⟨⟨List.pairwise_cons.2 ⟨fun z hz => ?_, ho.1⟩, fun x hx => ?_⟩, fun n => mem_cons⟩
      · rcases List.mem_cons.1 hz with rfl | hz
        · exact hc
        · have := hp z hz
          simp only
          omega
      · rcases List.mem_cons.1 hx with rfl | hx
        · exact ⟨h0, h1, h2⟩
        · exact ho.2 x hx
    · rw [if_neg hc]
      obtain ⟨a, b⟩ := insL_ok r f l ho.tail h0 h1 h2 (fun x hx => h x (List.mem_cons_of_mem _ hx))
      have hyf : y.2 < f := (h y List.mem_cons_self).resolve_right (by omega)
      refine ⟨⟨List.pairwise_cons.2 ⟨fun z hz => ?_, a.1⟩, fun x hx => ?_⟩, fun n => ?_⟩
      · rcases insL_in r f l z hz with rfl | hz
        · exact hyf
        · exact hp z hz
      · rcases List.mem_cons.1 hx with rfl | hx
        · exact hy
        · exact a.2 x hx
      · rw [mem_cons, b n, mem_cons]
        constructor
        · rintro (h | h | h)
          · exact .inr (.inl h)
          · exact .inl h
          · exact .inr (.inr h)
        · rintro (h | h | h)
          · exact .inr (.inl h)
          · exact .inl h
          · exact .inr (.inr h)
theorem without_apart : ∀ (L : List Sp) (f l : Int), Ok L → ∀ y ∈ withoutL L f l, y.2 < f ∨ l < y.1
  | [], _, _, _, y, hy => by cases hy
  | x :: L, f, l, ho, y, hy => by
    have hs : withoutL (x :: L) f l = (if x.2 < f ∨ x.1 > l then [x] else leftOf f l x) ++ withoutL L f l := rfl
    rw [hs, List.mem_append] at hy
    rcases hy with hy | hy
    · split at hy
      · next h => rw [List.mem_singleton.1 hy]; exact h
      · unfold leftOf at hy
        rw [List.mem_append] at hy
        rcases hy with hy | hy
        · split at hy
          · rw [List.mem_singleton.1 hy]; left; simp only; omega
          · cases hy
        · split at hy
          · rw [List.mem_singleton.1 hy]; right; simp only; omega
          · cases hy
    · exact without_apart L f l ho.tail y hy
/-- The document's adding is the program's. -/
theorem add_is (L : List Sp) (ho : Ok L) (f l : Int) (h0 : 0 ≤ f) (h1 : f ≤ l) (h2 : l ≤ 4611686018427387903) : joinL (insL f l (withoutL L f l)) = addL L f l := by
  obtain ⟨a1, b1⟩ := without_ok L f l ho h0 h1 h2
  obtain ⟨a2, b2⟩ := insL_ok _ f l a1.lo h0 h1 h2 (without_apart L f l ho)
  obtain ⟨a3, b3⟩ := joinL_ok _ a2
  obtain ⟨a4, b4⟩ := addL_ok L ho f l h0 h1 h2
  refine ok_unique _ _ a3 a4 (fun n => ?_)
  rw [b3 n, b2 n, b1 n, b4 n]
  constructor
  · rintro (h | h)
    · exact .inl h
    · exact .inr h.1
  · rintro (h | h)
    · exact .inl h
    · by_cases hn : f ≤ n ∧ n ≤ l
      · exact .inl hn
      · exact .inr ⟨h, hn⟩
theorem remove_ok (L : List Sp) (ho : Ok L) (f l : Int) (h0 : 0 ≤ f) (h1 : f ≤ l) (h2 : l ≤ 4611686018427387903) : Ok (removeL L f l) ∧ ∀ n, Mem (removeL L f l) n ↔ Mem L n ∧ ¬ (f ≤ n ∧ n ≤ l) := by
  rw [remove_is L ho]
  exact without_ok L f l ho h0 h1 h2
end Go.Proofs.Ytmkojmjjlcfohaa.Rg
