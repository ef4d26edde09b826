/- Boxes (layer 6) as lists: pieces apart and rising, and the bytes that they are; the program's Put is the document's; no condition, no program. -/
import Derived.RowKit
set_option linter.unusedVariables false
set_option linter.unusedSimpArgs false
namespace Go.Proofs.Ytakmcbakogjeeaa.Ib
/-- A piece: where it begins, its bytes. -/
abbrev Pc := Int × List Int
abbrev By := Int × Int
/-- Pieces from a place on: none empty, apart, rising. -/
def OkP : Int → List Pc → Prop
  | _, [] => True
  | pl, p :: r => pl ≤ p.1 ∧ p.2 ≠ [] ∧ OkP (p.1 + p.2.length) r
theorem OkP.mono {pl pl' : Int} (h : pl' ≤ pl) : ∀ {P : List Pc}, OkP pl P → OkP pl' P
  | [], _ => trivial
  | p :: r, ⟨h1, h2, h3⟩ => ⟨by omega, h2, h3⟩
/-- Bytes one behind another. -/
def bytesFrom : Int → List Int → List By
  | _, [] => []
  | s, c :: r => (s, c) :: bytesFrom (s + 1) r
def flat (P : List Pc) : List By := P.flatMap (fun p => bytesFrom p.1 p.2)
theorem flat_cons (p : Pc) (P : List Pc) : flat (p :: P) = bytesFrom p.1 p.2 ++ flat P := by unfold flat; rw [List.flatMap_cons]
theorem flat_append (P Q : List Pc) : flat (P ++ Q) = flat P ++ flat Q := by unfold flat; rw [List.flatMap_append]
theorem bytesFrom_length : ∀ (bs : List Int) (s : Int), (bytesFrom s bs).length = bs.length
  | [], _ => rfl
  | c :: r, s => by rw [bytesFrom, List.length_cons, List.length_cons, bytesFrom_length r]
theorem mem_bytesFrom : ∀ (bs : List Int) (s : Int) (z : By), z ∈ bytesFrom s bs ↔ ∃ i : Nat, bs[i]? = some z.2 ∧ z.1 = s + i
  | [], s, z => by simp [bytesFrom]
  | c :: r, s, z => by
    rw [bytesFrom, List.mem_cons, mem_bytesFrom r (s + 1) z]
    constructor
    · rintro (rfl | ⟨i, h1, h2⟩)
      · exact ⟨0, rfl, by simp⟩
      · exact ⟨i + 1, h1, by omega⟩
    · rintro ⟨i, h1, h2⟩
      cases i with
      | zero =>
        left
        have e1 : c = z.2 := by simpa using h1
        have e2 : z.1 = s := by simpa using h2
        exact Prod.ext e2 e1.symm
      | succ i => exact .inr ⟨i, by simpa using h1, by omega⟩
theorem mem_bytes_range {bs : List Int} {s : Int} {z : By} (h : z ∈ bytesFrom s bs) : s ≤ z.1 ∧ z.1 < s + bs.length := by
  obtain ⟨i, h1, h2⟩ := (mem_bytesFrom bs s z).1 h
  have := (List.getElem?_eq_some_iff.1 h1).1
  omega
/-- Rising places. -/
def Up (L : List By) : Prop := L.Pairwise (fun a b => a.1 < b.1)
theorem up_bytes : ∀ (bs : List Int) (s : Int), Up (bytesFrom s bs)
  | [], _ => List.Pairwise.nil
  | c :: r, s => List.pairwise_cons.2 ⟨fun z hz => by have := mem_bytes_range hz; simp only; omega, up_bytes r (s + 1)⟩
theorem flat_ge : ∀ {P : List Pc} {pl : Int}, OkP pl P → ∀ z ∈ flat P, pl ≤ z.1
  | [], _, _, z, hz => by simp [flat] at hz
  | p :: r, pl, ⟨h1, h2, h3⟩, z, hz => by
    rw [flat_cons] at hz
    rcases List.mem_append.1 hz with h | h
    · have := mem_bytes_range h
      omega
    · have := flat_ge h3 z h
      omega
theorem flat_up : ∀ {P : List Pc} {pl : Int}, OkP pl P → Up (flat P)
  | [], _, _ => List.Pairwise.nil
  | p :: r, pl, ⟨h1, h2, h3⟩ => by
    rw [flat_cons]
    exact List.pairwise_append.2 ⟨up_bytes _ _, flat_up h3, fun a ha b hb => by have := mem_bytes_range ha; have := flat_ge h3 b hb; omega⟩
theorem up_key {L : List By} (h : Up L) : ∀ {x y : By}, x ∈ L → y ∈ L → x.1 = y.1 → x = y := by
  induction L with
  | nil => intro x y hx; cases hx
  | cons a L ih =>
    intro x y hx hy he
    obtain ⟨h1, h2⟩ := List.pairwise_cons.1 h
    rcases List.mem_cons.1 hx with ex | mx
    · rcases List.mem_cons.1 hy with ey | my
      · rw [ex, ey]
      · have := h1 y my; rw [ex] at he; omega
    · rcases List.mem_cons.1 hy with ey | my
      · have := h1 x mx; rw [ey] at he; omega
      · exact ih h2 mx my he
/-- Rising lists of the same bytes are one. -/
theorem up_ext : ∀ {A B : List By}, Up A → Up B → (∀ x, x ∈ A ↔ x ∈ B) → A = B
  | [], [], _, _, _ => rfl
  | [], b :: B, _, _, h => absurd ((h b).2 List.mem_cons_self) (by simp)
  | a :: A, [], _, _, h => absurd ((h a).1 List.mem_cons_self) (by simp)
  | a :: A, b :: B, hA, hB, h => by
    obtain ⟨a1, a2⟩ := List.pairwise_cons.1 hA
    obtain ⟨b1, b2⟩ := List.pairwise_cons.1 hB
    have e : a = b := by
      rcases List.mem_cons.1 ((h a).1 List.mem_cons_self) with h1 | h1
      · exact h1
      · rcases List.mem_cons.1 ((h b).2 List.mem_cons_self) with h2 | h2
        · exact h2.symm
        · have := a1 b h2
          have := b1 a h1
          omega
    subst e
    rw [up_ext a2 b2 (fun x => ?_)]
    constructor
    · intro hx
      rcases List.mem_cons.1 ((h x).1 (List.mem_cons_of_mem _ hx)) with rfl | h1
      · exact absurd (a1 x hx) (by omega)
      · exact h1
    · intro hx
      rcases List.mem_cons.1 ((h x).2 (List.mem_cons_of_mem _ hx)) with rfl | h1
      · exact absurd (b1 x hx) (by omega)
      · exact h1
/-! The document's put. -/
/-- A byte put into rising bytes, where none is. -/
def insU (x : By) : List By → List By
  | [] => [x]
  | y :: r => if y.1 < x.1 then y :: insU x r else if y.1 = x.1 then y :: r else x :: y :: r
theorem mem_insU {x z : By} : ∀ {L : List By}, Up L → (z ∈ insU x L ↔ z ∈ L ∨ (z = x ∧ ∀ y ∈ L, y.1 ≠ x.1))
  | [], _ => by simp [insU]
  | y :: r, h => by
    obtain ⟨h1, h2⟩ := List.pairwise_cons.1 h
    unfold insU
    split
    · next hlt =>
      rw [List.mem_cons, mem_insU h2, List.mem_cons]
      constructor
      · rintro (h | h | ⟨h, h'⟩)
        · exact .inl (.inl h)
        · exact .inl (.inr h)
        · exact .inr ⟨h, fun u hu => by
            rcases List.mem_cons.1 hu with rfl | hu
            · omega
            · exact h' u hu⟩
      · rintro ((h | h) | ⟨h, h'⟩)
        · exact .inl h
        · exact .inr (.inl h)
        · exact .inr (.inr ⟨h, fun u hu => h' u (List.mem_cons_of_mem _ hu)⟩)
    · next hge =>
      split
      · next he =>
        constructor
        · exact .inl
        · rintro (h | ⟨h, h'⟩)
          · exact h
          · exact absurd he (h' y List.mem_cons_self)
      · next hne =>
        rw [List.mem_cons]
        constructor
        · rintro (h | h)
          · exact .inr ⟨h, fun u hu => by
              rcases List.mem_cons.1 hu with rfl | hu
              · omega
              · have := h1 u hu; omega⟩
          · exact .inl h
        · rintro (h | ⟨h, _⟩)
          · exact .inr h
          · exact .inl h
theorem up_insU {x : By} : ∀ {L : List By}, Up L → Up (insU x L)
  | [], _ => List.pairwise_singleton _ _
  | y :: r, h => by
    obtain ⟨h1, h2⟩ := List.pairwise_cons.1 h
    unfold insU
    split
    · next hlt =>
      refine List.pairwise_cons.2 ⟨fun z hz => ?_, up_insU h2⟩
      rcases (mem_insU h2).1 hz with hz | ⟨rfl, _⟩
      · exact h1 z hz
      · exact hlt
    · next hge =>
      split
      · exact h
      · next hne =>
        refine List.pairwise_cons.2 ⟨fun z hz => ?_, h⟩
        rcases List.mem_cons.1 hz with rfl | hz
        · omega
        · have := h1 z hz; omega
/-- Bytes put one after another. -/
def putB (pl : Int) : Int → List Int → List By → List By
  | _, [], L => L
  | off, c :: r, L => putB pl (off + 1) r (if off < pl then L else insU (off, c) L)
theorem putB_ok (pl : Int) : ∀ (data : List Int) (off : Int) (L : List By), Up L → Up (putB pl off data L) ∧ ∀ z, z ∈ putB pl off data L ↔ z ∈ L ∨ (z ∈ bytesFrom off data ∧ pl ≤ z.1 ∧ ∀ y ∈ L, y.1 ≠ z.1)
  | [], off, L, h => ⟨h, fun z => by simp [putB, bytesFrom]⟩
  | c :: r, off, L, h => by
    unfold putB
    by_cases hp : off < pl
    · rw [if_pos hp]
      obtain ⟨h1, h2⟩ := putB_ok pl r (off + 1) L h
      refine ⟨h1, fun z => ?_⟩
      rw [h2, bytesFrom, List.mem_cons]
      constructor
      · rintro (h | ⟨h, h3⟩)
        · exact .inl h
        · exact .inr ⟨.inr h, h3⟩
      · rintro (h | ⟨h | h, h3⟩)
        · exact .inl h
        · subst h
          simp only at h3
          omega
        · exact .inr ⟨h, h3⟩
    · rw [if_neg hp]
      obtain ⟨h1, h2⟩ := putB_ok pl r (off + 1) (insU (off, c) L) (up_insU h)
      refine ⟨h1, fun z => ?_⟩
      rw [h2, bytesFrom, List.mem_cons, mem_insU h]
      constructor
      · rintro ((h4 | ⟨h4, h5⟩) | ⟨h4, h5, h6⟩)
        · exact .inl h4
        · subst h4
          exact .inr ⟨.inl rfl, by simp only; omega, h5⟩
        · exact .inr ⟨.inr h4, h5, fun y hy => h6 y ((mem_insU h).2 (.inl hy))⟩
      · rintro (h4 | ⟨h4 | h4, h5, h6⟩)
        · exact .inl (.inl h4)
        · subst h4
          exact .inl (.inr ⟨rfl, h6⟩)
        · refine .inr ⟨h4, h5, fun y hy => ?_⟩
          rcases (mem_insU h).1 hy with h7 | ⟨rfl, _⟩
          · exact h6 y h7
          · have := mem_bytes_range h4
            simp only
            omega
/-! The program's put. -/
def seg (data : List Int) (off a e : Int) : List Int := (data.drop (a - off).toNat).take (e - a).toNat
def gap (data : List Int) (off a e : Int) : List Pc := if e > a then [(a, seg data off a e)] else []
def fill (data : List Int) (off : Int) : List Pc → Int → Int → List Pc
  | [], a, e => gap data off a e
  | p :: r, a, e => if p.1 + p.2.length ≤ a then p :: fill data off r a e
      else if p.1 ≥ e then gap data off a e ++ p :: r
      else gap data off a p.1 ++ p :: fill data off r (max a (p.1 + p.2.length)) e
theorem seg_len {data : List Int} {off a e : Int} (h0 : off ≤ a) (h1 : a ≤ e) (h2 : e ≤ off + data.length) : ((seg data off a e).length : Int) = e - a := by
  unfold seg
  rw [List.length_take, List.length_drop]
  omega
theorem mem_seg {data : List Int} {off a e : Int} (h0 : off ≤ a) (h2 : e ≤ off + data.length) (z : By) : z ∈ bytesFrom a (seg data off a e) ↔ z ∈ bytesFrom off data ∧ a ≤ z.1 ∧ z.1 < e := by
  rw [mem_bytesFrom, mem_bytesFrom]
  unfold seg
  constructor
  · rintro ⟨i, h, he⟩
    rw [List.getElem?_take] at h
    split at h
    · rw [List.getElem?_drop] at h
      exact ⟨⟨(a - off).toNat + i, h, by omega⟩, by omega, by omega⟩
    · cases h
  · rintro ⟨⟨i, h, he⟩, h3, h4⟩
    refine ⟨(z.1 - a).toNat, ?_, by omega⟩
    rw [List.getElem?_take, if_pos (by omega), List.getElem?_drop, show (a - off).toNat + (z.1 - a).toNat = i by omega]
    exact h
theorem mem_gap {data : List Int} {off a e : Int} (h0 : off ≤ a) (h2 : e ≤ off + data.length) (z : By) : z ∈ flat (gap data off a e) ↔ z ∈ bytesFrom off data ∧ a ≤ z.1 ∧ z.1 < e := by
  unfold gap
  split
  · rw [flat_cons, ← mem_seg h0 h2 z]
    simp [flat]
  · constructor
    · intro h; simp [flat] at h
    · rintro ⟨_, h3, h4⟩; omega
theorem fill_ok {data : List Int} {off : Int} : ∀ (P : List Pc) (pl a e : Int), OkP pl P → pl ≤ a → off ≤ a → e ≤ off + data.length →
    OkP pl (fill data off P a e) ∧ ∀ z, z ∈ flat (fill data off P a e) ↔ z ∈ flat P ∨ (z ∈ bytesFrom off data ∧ a ≤ z.1 ∧ z.1 < e ∧ ∀ y ∈ flat P, y.1 ≠ z.1)
  | [], pl, a, e, _, hpa, hoa, hel => by
    unfold fill
    refine ⟨?_, fun z => ?_⟩
    · unfold gap
      split
      · exact ⟨hpa, fun h => by have := seg_len (data := data) hoa (show a ≤ e by omega) hel; simp only at h; rw [h] at this; simp at this; omega, trivial⟩
      · trivial
    · rw [mem_gap hoa hel]
      constructor
      · rintro ⟨h1, h2, h3⟩; exact .inr ⟨h1, h2, h3, fun y hy => by simp [flat] at hy⟩
      · rintro (h | ⟨h1, h2, h3, _⟩)
        · simp [flat] at h
        · exact ⟨h1, h2, h3⟩
  | p :: r, pl, a, e, ⟨p1, p2, p3⟩, hpa, hoa, hel => by
    have hlen : 0 < p.2.length := List.length_pos_iff.2 p2
    have gapOk : ∀ (x : Int) (Q : List Pc), pl ≤ a → x ≤ off + data.length → OkP x Q → (a ≤ x → OkP pl (gap data off a x ++ Q)) := fun x Q h1 h2 h3 h4 => by
      unfold gap
      split
      · refine ⟨h1, fun h => ?_, ?_⟩
        · have := seg_len (data := data) hoa h4 h2; simp only at h; rw [h] at this; simp at this; omega
        · have := seg_len (data := data) hoa h4 h2
          rw [show a + ((seg data off a x).length : Int) = x by omega]
          exact h3
      · exact h3.mono (by omega)
    unfold fill
    by_cases c1 : p.1 + p.2.length ≤ a
    · rw [if_pos c1]
      obtain ⟨h1, h2⟩ := fill_ok r (p.1 + p.2.length) a e p3 c1 hoa hel
      refine ⟨⟨p1, p2, h1⟩, fun z => ?_⟩
      rw [flat_cons, flat_cons, List.mem_append, List.mem_append, h2]
      constructor
      · rintro (h | h | ⟨h3, h4, h5, h6⟩)
        · exact .inl (.inl h)
        · exact .inl (.inr h)
        · refine .inr ⟨h3, h4, h5, fun y hy => ?_⟩
          rcases List.mem_append.1 hy with hy | hy
          · have := mem_bytes_range hy; omega
          · exact h6 y hy
      · rintro ((h | h) | ⟨h3, h4, h5, h6⟩)
        · exact .inl h
        · exact .inr (.inl h)
        · exact .inr (.inr ⟨h3, h4, h5, fun y hy => h6 y (List.mem_append_right _ hy)⟩)
    · rw [if_neg c1]
      by_cases c2 : p.1 ≥ e
      · rw [if_pos c2]
        refine ⟨?_, fun z => ?_⟩
        · by_cases hae : a ≤ e
          · exact gapOk e (p :: r) hpa hel ⟨c2, p2, p3⟩ hae
          · have : gap data off a e = [] := by unfold gap; rw [if_neg (by omega)]
            rw [this]
            exact ⟨p1, p2, p3⟩
        · rw [flat_append, List.mem_append, mem_gap hoa hel]
          constructor
          · rintro (⟨h1, h2, h3⟩ | h)
            · refine .inr ⟨h1, h2, h3, fun y hy => ?_⟩
              have := flat_ge (pl := p.1) (P := p :: r) ⟨Int.le_refl _, p2, p3⟩ y hy
              omega
            · exact .inl h
          · rintro (h | ⟨h1, h2, h3, _⟩)
            · exact .inr h
            · exact .inl ⟨h1, h2, h3⟩
      · rw [if_neg c2]
        obtain ⟨h1, h2⟩ := fill_ok r (p.1 + p.2.length) (max a (p.1 + p.2.length)) e p3 (by omega) (by omega) hel
        refine ⟨?_, fun z => ?_⟩
        · by_cases hap : a ≤ p.1
          · exact gapOk p.1 _ hpa (by omega) ⟨Int.le_refl _, p2, h1⟩ hap
          · have : gap data off a p.1 = [] := by unfold gap; rw [if_neg (by omega)]
            rw [this]
            exact ⟨p1, p2, h1⟩
        · rw [flat_append, flat_cons, flat_cons, List.mem_append, List.mem_append, List.mem_append, h2, mem_gap hoa (by omega)]
          constructor
          · rintro (⟨h3, h4, h5⟩ | h | h | ⟨h3, h4, h5, h6⟩)
            · refine .inr ⟨h3, h4, by omega, fun y hy => ?_⟩
              have := flat_ge (pl := p.1) (P := p :: r) ⟨Int.le_refl _, p2, p3⟩ y (by rw [flat_cons]; exact hy)
              omega
            · exact .inl (.inl h)
            · exact .inl (.inr h)
            · refine .inr ⟨h3, by omega, h5, fun y hy => ?_⟩
              rcases List.mem_append.1 hy with hy | hy
              · have := mem_bytes_range hy; omega
              · exact h6 y hy
          · rintro ((h | h) | ⟨h3, h4, h5, h6⟩)
            · exact .inr (.inl h)
            · exact .inr (.inr (.inl h))
            · by_cases hz : z.1 < p.1
              · exact .inl ⟨h3, h4, hz⟩
              · by_cases hz2 : z.1 < p.1 + p.2.length
                · exfalso
                  have hi : (z.1 - p.1).toNat < p.2.length := by omega
                  have hm : (z.1, p.2[(z.1 - p.1).toNat]) ∈ bytesFrom p.1 p.2 := (mem_bytesFrom _ _ _).2 ⟨(z.1 - p.1).toNat, List.getElem?_eq_getElem hi, by simp only; omega⟩
                  exact h6 _ (List.mem_append_left _ hm) rfl
                · exact .inr (.inr (.inr ⟨h3, by omega, h5, fun y hy => h6 y (List.mem_append_right _ hy)⟩))
/-- The program's Put is the document's. -/
theorem fill_is {data : List Int} {off pl : Int} {P : List Pc} (h : OkP pl P) : flat (fill data off P (max off pl) (off + data.length)) = putB pl off data (flat P) := by
  obtain ⟨h1, h2⟩ := fill_ok (data := data) (off := off) P pl (max off pl) (off + data.length) h (by omega) (by omega) (Int.le_refl _)
  obtain ⟨h3, h4⟩ := putB_ok pl data off (flat P) (flat_up h)
  refine up_ext (flat_up h1) h3 (fun z => ?_)
  rw [h2, h4]
  constructor
  · rintro (h | ⟨h5, h6, h7, h8⟩)
    · exact .inl h
    · exact .inr ⟨h5, by omega, h8⟩
  · rintro (h | ⟨h5, h6, h7⟩)
    · exact .inl h
    · have := mem_bytes_range h5
      exact .inr ⟨h5, by omega, by omega, h7⟩
end Go.Proofs.Ytakmcbakogjeeaa.Ib
