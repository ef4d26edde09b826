/- The document's set (layer 5): what the printed walks of without and joined compute, as lists of spans; no condition. -/
import Derived.Test.YtmkojmjjlcfohaaQRgx1
import Derived.Test.YtmkojmjjlcfohaaRgPure3
set_option linter.unusedVariables false
set_option linter.unusedSimpArgs false
namespace Go.Proofs.Ytmkojmjjlcfohaa.Rg
open Go.RowKit Go.Shelf Go.Proofs.YtmkojmjjlcfohaaW.PrintWords Go.Proofs.YtmkojmjjlcfohaaW.PrintLast Go.Proofs.YtmkojmjjlcfohaaW.PrintMore Go.Proofs.Ytmkojmjjlcfohaa.Rw
open Go.Proofs.Ytmkojmjjlcfohaa.QRg (S39 k39 z39 rd_T39)
/-- A span as the print has it. -/
def toS (x : Sp) : S39 := ⟨x.1, x.2⟩
theorem rd_at {L : List Sp} {i : Nat} {x : Sp} (h : L[i]? = some x) : rd_T39 (L.map toS) (i : Int) = toS x := by
  unfold QRg.rd_T39
  rw [show ((i : Int)).toNat = i by omega, List.getD_eq_getElem?_getD, List.getElem?_map, h]
  rfl
theorem wrap_ok {x : Int} (h0 : -9223372036854775808 ≤ x) (h1 : x ≤ 9223372036854775807) : wrap64 x = x := by unfold wrap64; omega
theorem wo_cons (x : Sp) (s : List Sp) (f l : Int) : withoutL (x :: s) f l = (if x.2 < f ∨ x.1 > l then [x] else leftOf f l x) ++ withoutL s f l := by
  unfold withoutL
  rw [List.flatMap_cons]
theorem without_go (L : List Sp) (f l : Int) (hf : 0 ≤ f) (hf1 : f ≤ 4611686018427387903) (hl : 0 ≤ l) (hl1 : l ≤ 4611686018427387903) : ∀ (s pre out : List Sp) (k : Nat), L = pre ++ s → out.length + 2 * s.length < 8796093022208 → pre.length + s.length < 8796093022208 →
    QRg.caravelref05_without.l0 (k + 2 * s.length + 1) (L.map toS) f l (out.map toS) pre.length = some ((out ++ withoutL s f l).map toS)
  | [], pre, out, k, hL, ho, hp => by
    subst hL
    rw [QRg.caravelref05_without.l0, if_neg (by simp)]
    simp [withoutL]
  | x :: s, pre, out, k, hL, ho, hp => by
    have hx : L[pre.length]? = some x := by subst hL; simp
    have hlt : (pre.length : Int) < ((L.map toS).length : Int) := by subst hL; simp; omega
    have hr : rd_T39 (L.map toS) (pre.length : Int) = toS x := rd_at hx
    have hw : wrap64 ((pre.length : Int) + 1) = ((pre ++ [x]).length : Int) := by simp at hp ⊢; unfold wrap64; omega
    have hw1 : wrap64 (f - 1) = f - 1 := wrap_ok (by omega) (by omega)
    have hw2 : wrap64 (l + 1) = l + 1 := wrap_ok (by omega) (by omega)
    have ih := fun (o : List Sp) (h : o.length + 2 * s.length < 8796093022208) => without_go L f l hf hf1 hl hl1 s (pre ++ [x]) o k (by subst hL; simp) h (by simp at hp ⊢; omega)
    have sn : ∀ (o : List Sp) (a b : Int), o.map toS ++ [(⟨a, b⟩ : S39)] = (o ++ [(a, b)]).map toS := fun o a b => by rw [List.map_append]; rfl
    simp only [List.length_cons] at ho hp ⊢
    rw [show k + 2 * (s.length + 1) + 1 = (k + 2 * s.length + 1) + 1 + 1 by omega, QRg.caravelref05_without.l0, if_pos hlt, if_pos (by omega), hr, wo_cons]
    have hol : (out.map toS).length < 8796093022208 := by rw [List.length_map]; omega
    have hol1 : ∀ a b, ((out ++ [(a, b)]).map toS).length < 8796093022208 := fun a b => by rw [List.length_map, List.length_append]; simp; omega
    have b0 : (toS x).f0 = x.1 := rfl
    have b1 : (toS x).f1 = x.2 := rfl
    rw [b0, b1]
    by_cases c1 : x.2 < f
    · rw [if_pos c1, QRg.caravelref05_without.j1, if_pos rfl, if_pos hol, if_pos (Or.inl c1), hw, sn, ih _ (by simp; omega), List.append_assoc]
    · rw [if_neg c1, QRg.caravelref05_without.j1]
      by_cases c2 : x.1 > l
      · rw [if_pos (by simpa using c2), if_pos hol, if_pos (Or.inr c2), hw, sn, ih _ (by simp; omega), List.append_assoc]
      · rw [if_neg (by simpa using c2), if_neg (show ¬ (x.2 < f ∨ x.1 > l) by omega)]
        unfold leftOf
        by_cases c3 : x.1 < f
        · rw [if_pos c3, if_pos hol, if_pos c3, hw1, sn]
          simp only [Option.bind_some]
          by_cases c4 : x.2 > l
          · rw [if_pos c4, if_pos (hol1 _ _), if_pos c4, hw, hw2, sn, ih _ (by simp; omega)]
            simp
          · rw [if_neg c4, if_neg c4, hw, ih _ (by simp; omega)]
            simp
        · rw [if_neg c3, if_neg c3]
          by_cases c4 : x.2 > l
          · rw [if_pos c4, if_pos hol, if_pos c4, hw, hw2, sn, ih _ (by simp; omega)]
            simp
          · rw [if_neg c4, if_neg c4, hw, ih _ (by omega)]
            simp
theorem without_f (L : List Sp) (f l : Int) (hf : 0 ≤ f) (hf1 : f ≤ 4611686018427387903) (hl : 0 ≤ l) (hl1 : l ≤ 4611686018427387903) (h : L.length ≤ 1000000) : QRg.caravelref05_without.f (2 * L.length + 1) (L.map toS) f l = some ((withoutL L f l).map toS) := by
  have := without_go L f l hf hf1 hl hl1 L [] [] 0 rfl (by simp; omega) (by simp; omega)
  rw [Nat.zero_add] at this
  exact this
theorem joined_go (L : List Sp) (hb : ∀ x ∈ L, x.2 ≤ 4611686018427387903 ∧ -1 ≤ x.2) : ∀ (s pre out : List Sp) (k : Nat), L = pre ++ s → (∀ x ∈ out, x.2 ≤ 4611686018427387903 ∧ -1 ≤ x.2) → out.length + s.length < 8796093022208 → pre.length + s.length < 8796093022208 →
    QRg.caravelref05_joined.l0 (k + s.length + 1) (L.map toS) (out.map toS) pre.length = some ((s.foldl stepJ out).map toS)
  | [], pre, out, k, hL, hob, ho, hp => by
    subst hL
    rw [QRg.caravelref05_joined.l0, if_neg (by simp)]
    rfl
  | x :: s, pre, out, k, hL, hob, ho, hp => by
    have hx : L[pre.length]? = some x := by subst hL; simp
    have hxm : x ∈ L := List.mem_of_getElem? hx
    have hlt : (pre.length : Int) < ((L.map toS).length : Int) := by subst hL; simp; omega
    have hr : rd_T39 (L.map toS) (pre.length : Int) = toS x := rd_at hx
    have hw : wrap64 ((pre.length : Int) + 1) = ((pre ++ [x]).length : Int) := by simp at hp ⊢; unfold wrap64; omega
    have ih := fun (o : List Sp) (hob : ∀ x ∈ o, x.2 ≤ 4611686018427387903 ∧ -1 ≤ x.2) (h : o.length + s.length < 8796093022208) => joined_go L hb s (pre ++ [x]) o k (by subst hL; simp) hob h (by simp at hp ⊢; omega)
    have sn : ∀ (o : List Sp) (a b : Int), o.map toS ++ [(⟨a, b⟩ : S39)] = (o ++ [(a, b)]).map toS := fun o a b => by rw [List.map_append]; rfl
    simp only [List.length_cons] at ho hp ⊢
    have hol : (out.map toS).length < 8796093022208 := by rw [List.length_map]; omega
    have b0 : (toS x).f0 = x.1 := rfl
    have b1 : (toS x).f1 = x.2 := rfl
    have hob1 : ∀ y ∈ out ++ [(x.1, x.2)], y.2 ≤ 4611686018427387903 ∧ -1 ≤ y.2 := fun y hy => by
      rcases List.mem_append.1 hy with h | h
      · exact hob y h
      · rw [List.mem_singleton.1 h]; exact hb x hxm
    rw [show k + (s.length + 1) + 1 = (k + s.length + 1) + 1 by omega, QRg.caravelref05_joined.l0, if_pos hlt, hr, b0, b1, List.foldl_cons]
    rcases List.eq_nil_or_concat out with rfl | ⟨q, z, rfl⟩
    · rw [if_neg (by simp), if_pos (by omega), if_pos hol, hw, sn, ih _ hob1 (by simp; omega)]
      rfl
    · rw [List.concat_eq_append] at hob hol hob1 ho ⊢
      have hl1 : (((q ++ [z]).map toS).length : Int) = q.length + 1 := by simp
      have hlw : wrap64 ((((q ++ [z]).map toS).length : Int) - 1) = (q.length : Int) := by rw [hl1]; simp at ho; unfold wrap64; omega
      have hz : (q ++ [z])[q.length]? = some z := by simp
      have hzb := hob z (by simp)
      rw [if_pos (by rw [hl1]; omega), hlw, if_pos (by omega), if_pos (by rw [hl1]; omega), if_pos (by omega), rd_at hz]
      have z0 : (toS z).f0 = z.1 := rfl
      have z1 : (toS z).f1 = z.2 := rfl
      rw [z0, z1, wrap_ok (by omega) (by omega)]
      have hst : stepJ (q ++ [z]) x = if z.2 + 1 = x.1 then q ++ [(z.1, x.2)] else (q ++ [z]) ++ [x] := by unfold stepJ; simp
      rw [hst]
      by_cases c : z.2 + 1 = x.1
      · rw [if_pos c, if_pos c, hw]
        have hset : (List.map toS (q ++ [z])).set ((q.length : Int)).toNat (⟨z.1, x.2⟩ : S39) = (q ++ [(z.1, x.2)]).map toS := by
          rw [show ((q.length : Int)).toNat = q.length by omega, List.map_append, List.map_append, List.set_append_right _ _ (by simp)]
          simp [toS]
        rw [hset, ih _ (fun y hy => by
          rcases List.mem_append.1 hy with h | h
          · exact hob y (by simp [h])
          · rw [List.mem_singleton.1 h]; exact hb x hxm) (by simp at ho ⊢; omega)]
      · rw [if_neg c, if_neg c, if_pos hol, hw, sn, ih _ hob1 (by simp at ho ⊢; omega)]
theorem joined_f (L : List Sp) (hb : ∀ x ∈ L, x.2 ≤ 4611686018427387903 ∧ -1 ≤ x.2) (h : L.length ≤ 1000000) : QRg.caravelref05_joined.f (L.length + 1) (L.map toS) = some ((joinL L).map toS) := by
  have := joined_go L hb L [] [] 0 rfl (by simp) (by simp; omega) (by simp; omega)
  rw [Nat.zero_add] at this
  exact this
theorem wo_len (L : List Sp) (f l : Int) : (withoutL L f l).length ≤ 2 * L.length := by
  induction L with
  | nil => simp [withoutL]
  | cons x L ih =>
    rw [wo_cons, List.length_append, List.length_cons]
    have : (if x.2 < f ∨ x.1 > l then [x] else leftOf f l x).length ≤ 2 := by
      split
      · simp
      · unfold leftOf
        split <;> split <;> simp
    omega
/-! Rows. -/
theorem cells_of_reps : ∀ (L : List Sp) (inner : List Value), inner.length = L.length * 2 → (∀ j x, L[j]? = some x → (inner.drop (j * 2)).take 2 = [.int .i64 x.1, .int .i64 x.2]) → inner = cells L
  | [], inner, hl, _ => by
    have : inner.length = 0 := by simpa using hl
    rw [List.length_eq_zero_iff.1 this]
    rfl
  | x :: L, inner, hl, h => by
    match inner, hl with
    | a :: b :: r, hl =>
      have h0 := h 0 x rfl
      simp only [Nat.zero_mul, List.drop_zero, List.take_succ_cons, List.take_zero] at h0
      injection h0 with h1 h2
      injection h2 with h2 _
      rw [cells_cons, h1, h2, ← cells_of_reps L r (by simp at hl; omega) (fun j y hy => by
        have := h (j + 1) y hy
        rwa [show (j + 1) * 2 = j * 2 + 1 + 1 by omega, List.drop_succ_cons, List.drop_succ_cons] at this)]
    | [], hl => simp at hl
    | [_], hl => simp at hl; omega
theorem own_S {w : World} {base : Nat} {ok : Nat → Prop} {v : Value} {L : List Sp} (h : Kd.R k39 39 w base ok v (L.map toS)) : w.ownsRow base 39 2 v L.length (cells L) := by
  obtain ⟨_, inner, ho, hr⟩ := h
  have hi : inner = cells L := by
    refine cells_of_reps L inner ?_ (fun j x hx => ?_)
    · have := hr.1
      rw [List.length_map] at this
      exact this
    · have h2 := hr.2 j (toS x) (by rw [List.getElem?_map, hx]; rfl)
      exact QRg.k39_openM h2
  subst hi
  rw [List.length_map] at ho
  exact ho
theorem read_S {w : World} {base : Nat} {A : Option Addr} {c : Nat} {L : List Sp} (h : w.ownsRow base 39 2 (.slice A L.length c) L.length (cells L)) : Kd.C k39 w A (L.map toS).length (L.map toS) := by
  obtain ⟨A', c', hv, hc, hn, hg⟩ := row_form h
  injection hv with hv1 _ hv2
  subst hv1; subst hv2
  refine ⟨rfl, by rw [List.length_map]; omega, fun h0 => ?_⟩
  rw [List.length_map] at h0
  obtain ⟨g, rfl⟩ := hg h0
  refine ⟨⟨g, 0, none⟩, rfl, fun j p hp => ?_⟩
  rw [List.getElem?_map] at hp
  cases hx : L[j]? with
  | none => rw [hx] at hp; cases hp
  | some x =>
    rw [hx] at hp
    cases hp
    obtain ⟨g', c', hv, _, _, a0, a1⟩ := row_at h j x hx
    injection hv with hv
    injection hv with hv
    injection hv with hv
    subst hv
    refine ⟨[.int .i64 x.1, .int .i64 x.2], rfl, QRg.k39_mk _ _, fun i u hu => ?_⟩
    rw [add_at, Nat.zero_add]
    match i, hu with
    | 0, hu => cases hu; exact a0
    | 1, hu => cases hu; exact a1
    | i + 2, hu => simp at hu
end Go.Proofs.Ytmkojmjjlcfohaa.Rg
