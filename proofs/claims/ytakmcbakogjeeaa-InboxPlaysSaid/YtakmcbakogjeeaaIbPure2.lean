/- Boxes (layer 6) as lists: the program's Read and Ready are the document's; no condition, no program. -/
import Derived.Test.YtakmcbakogjeeaaIbPure
set_option linter.unusedVariables false
set_option linter.unusedSimpArgs false
namespace Go.Proofs.Ytakmcbakogjeeaa.Ib
/-- How many bytes can be read: the document's. -/
def readyB : Int → List By → Nat
  | _, [] => 0
  | pl, y :: r => if y.1 = pl then readyB (pl + 1) r + 1 else 0
/-- The program's. -/
def readyP : Int → List Pc → Nat
  | _, [] => 0
  | pl, p :: r => if p.1 = pl then p.2.length + readyP (pl + p.2.length) r else 0
theorem readyB_bytes : ∀ (bs : List Int) (pl : Int) (L : List By), readyB pl (bytesFrom pl bs ++ L) = bs.length + readyB (pl + bs.length) L
  | [], pl, L => by simp [bytesFrom]
  | c :: r, pl, L => by
    rw [bytesFrom, List.cons_append, readyB, if_pos rfl, readyB_bytes r (pl + 1) L, List.length_cons]
    rw [show pl + 1 + (r.length : Int) = pl + ((r.length + 1 : Nat) : Int) by push_cast; omega]
    omega
theorem readyB_far {pl : Int} {L : List By} (h : ∀ z ∈ L, pl < z.1) : readyB pl L = 0 := by
  cases L with
  | nil => rfl
  | cons y r => rw [readyB, if_neg (by have := h y List.mem_cons_self; omega)]
theorem ready_is : ∀ {P : List Pc} {pl : Int}, OkP pl P → readyP pl P = readyB pl (flat P)
  | [], _, _ => rfl
  | p :: r, pl, ⟨h1, h2, h3⟩ => by
    rw [readyP, flat_cons]
    by_cases he : p.1 = pl
    · rw [if_pos he, he, readyB_bytes, ready_is (by rw [← he]; exact h3)]
    · rw [if_neg he, readyB_far (fun z hz => ?_)]
      have := flat_ge (pl := p.1) (P := p :: r) ⟨Int.le_refl _, h2, h3⟩ z (by rw [flat_cons]; exact hz)
      omega
theorem readyB_le : ∀ (L : List By) (pl : Int), readyB pl L ≤ L.length
  | [], _ => Nat.le_refl _
  | y :: r, pl => by
    rw [readyB]
    split
    · have := readyB_le r (pl + 1); rw [List.length_cons]; omega
    · omega
/-- The program's Read: what it tells, the new place, what is left. -/
def readP : Int → Int → List Pc → List Int × Int × List Pc
  | pl, _, [] => ([], pl, [])
  | pl, n, p :: r => if n ≤ 0 ∨ p.1 ≠ pl then ([], pl, p :: r)
      else if (p.2.length : Int) ≤ n then (p.2 ++ (readP (pl + p.2.length) (n - p.2.length) r).1, (readP (pl + p.2.length) (n - p.2.length) r).2)
      else (p.2.take n.toNat, pl + n, (pl + n, p.2.drop n.toNat) :: r)
theorem bytesFrom_append : ∀ (a b : List Int) (s : Int), bytesFrom s (a ++ b) = bytesFrom s a ++ bytesFrom (s + a.length) b
  | [], b, s => by simp [bytesFrom]
  | c :: r, b, s => by
    rw [List.cons_append, bytesFrom, bytesFrom, bytesFrom_append r b (s + 1), List.cons_append, List.length_cons]
    rw [show s + 1 + (r.length : Int) = s + ((r.length + 1 : Nat) : Int) by push_cast; omega]
theorem read_ok : ∀ (P : List Pc) (pl n : Int), OkP pl P → OkP (readP pl n P).2.1 (readP pl n P).2.2 ∧ flat P = bytesFrom pl (readP pl n P).1 ++ flat (readP pl n P).2.2 ∧ (readP pl n P).2.1 = pl + (readP pl n P).1.length ∧
    ((readP pl n P).1.length : Int) = max 0 (min n (readyB pl (flat P)))
  | [], pl, n, h => ⟨trivial, by simp [readP, bytesFrom], by simp [readP], by simp [readP, flat, readyB]; omega⟩
  | p :: r, pl, n, ⟨h1, h2, h3⟩ => by
    unfold readP
    have hlen : 0 < p.2.length := List.length_pos_iff.2 h2
    by_cases c1 : n ≤ 0 ∨ p.1 ≠ pl
    · rw [if_pos c1]
      refine ⟨⟨h1, h2, h3⟩, by simp [bytesFrom], by simp, ?_⟩
      rcases c1 with c | c
      · simp only [List.length_nil]; omega
      · have := ready_is (P := p :: r) (pl := pl) ⟨h1, h2, h3⟩
        rw [readyP, if_neg c] at this
        rw [← this]
        simp only [List.length_nil]
        omega
    · rw [if_neg c1]
      obtain ⟨c2, c3⟩ := not_or.1 c1
      have he : p.1 = pl := Classical.not_not.1 c3
      have hn : 0 < n := by omega
      rw [he] at h3
      have hrd : readyB pl (flat (p :: r)) = p.2.length + readyB (pl + p.2.length) (flat r) := by rw [flat_cons, he, readyB_bytes]
      rw [hrd]
      by_cases c4 : (p.2.length : Int) ≤ n
      · rw [if_pos c4]
        obtain ⟨i1, i2, i3, i4⟩ := read_ok r (pl + p.2.length) (n - p.2.length) h3
        refine ⟨i1, ?_, ?_, ?_⟩
        · rw [flat_cons, he, bytesFrom_append, List.append_assoc, ← i2]
        · simp only [List.length_append]
          rw [i3]
          push_cast
          omega
        · simp only [List.length_append]
          push_cast
          rw [i4]
          omega
      · rw [if_neg c4]
        have ht : (p.2.take n.toNat).length = n.toNat := by rw [List.length_take]; omega
        refine ⟨⟨Int.le_refl _, fun h => ?_, ?_⟩, ?_, ?_, ?_⟩
        · have := congrArg List.length h
          rw [List.length_drop] at this
          simp at this
          omega
        · rw [List.length_drop]
          rw [show pl + n + ((p.2.length - n.toNat : Nat) : Int) = pl + p.2.length by omega]
          exact h3
        · rw [flat_cons, flat_cons, he, ← List.append_assoc]
          congr 1
          conv => lhs; rw [← List.take_append_drop n.toNat p.2]
          rw [bytesFrom_append, ht]
          rw [show pl + ((n.toNat : Nat) : Int) = pl + n by omega]
        · simp only
          rw [ht]
          omega
        · simp only
          rw [ht]
          omega
/-- What is told, by the document: the first bytes. -/
theorem read_is {P : List Pc} {pl n : Int} (h : OkP pl P) : bytesFrom pl (readP pl n P).1 = (flat P).take (readP pl n P).1.length ∧ flat (readP pl n P).2.2 = (flat P).drop (readP pl n P).1.length := by
  obtain ⟨_, h2, _, _⟩ := read_ok P pl n h
  constructor
  · conv => rhs; rw [h2]
    rw [List.take_append_of_le_length (by rw [bytesFrom_length]; exact Nat.le_refl _), ← bytesFrom_length _ pl, List.take_length]
  · conv => rhs; rw [h2]
    rw [← bytesFrom_length _ pl, List.drop_left]
/-- How many bytes wait. -/
def heldP (P : List Pc) : Nat := (P.map (fun p => p.2.length)).sum
theorem held_is (P : List Pc) : heldP P = (flat P).length := by
  unfold heldP
  induction P with
  | nil => rfl
  | cons p r ih => rw [flat_cons, List.length_append, bytesFrom_length, List.map_cons, List.sum_cons, ih]
/-- Is there a piece that begins at the place? -/
theorem head_at {P : List Pc} {pl : Int} (h : OkP pl P) : (∃ bs, (pl, bs) ∈ P) ↔ ∃ bs r, P = (pl, bs) :: r := by
  constructor
  · rintro ⟨bs, hm⟩
    cases P with
    | nil => cases hm
    | cons p r =>
      obtain ⟨h1, h2, h3⟩ := h
      have hlen : 0 < p.2.length := List.length_pos_iff.2 h2
      rcases List.mem_cons.1 hm with rfl | hm
      · exact ⟨bs, r, rfl⟩
      · have aux : ∀ (Q : List Pc) (q : Int), OkP q Q → ∀ x ∈ Q, q ≤ x.1 := by
          intro Q
          induction Q with
          | nil => intro q _ x hx; cases hx
          | cons y Q ih =>
            rintro q ⟨a1, a2, a3⟩ x hx
            rcases List.mem_cons.1 hx with rfl | hx
            · exact a1
            · have := ih _ a3 x hx; omega
        have := aux r _ h3 _ hm
        simp only at this
        omega
  · rintro ⟨bs, r, rfl⟩
    exact ⟨bs, List.mem_cons_self⟩
end Go.Proofs.Ytakmcbakogjeeaa.Ib
