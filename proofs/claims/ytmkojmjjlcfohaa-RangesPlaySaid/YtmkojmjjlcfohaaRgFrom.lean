/- The place in a set: slices.BinarySearchFunc of spans; no condition. -/
import Derived.Test.YtmkojmjjlcfohaaRgRepl
import Derived.Test.YtmkojmjjlcfohaaRgPure
import Derived.LoopTactic
set_option linter.unusedVariables false
set_option linter.unusedSimpArgs false
namespace Go.Proofs.Ytmkojmjjlcfohaa.Rg
open Go.RowKit Go.Proofs.YtmkojmjjlcfohaaW.PrintWords Go.Proofs.YtmkojmjjlcfohaaW.PrintLast Go.Proofs.YtmkojmjjlcfohaaW.PrintMore Go.Proofs.Ytmkojmjjlcfohaa.Rw
/-- The cells of spans. -/
def cells (L : List Sp) : List Value := L.flatMap (fun x => [.int .i64 x.1, .int .i64 x.2])
theorem cells_cons (x : Sp) (L : List Sp) : cells (x :: L) = .int .i64 x.1 :: .int .i64 x.2 :: cells L := rfl
theorem cells_append (A B : List Sp) : cells (A ++ B) = cells A ++ cells B := by unfold cells; rw [List.flatMap_append]
theorem cells_length : ∀ L : List Sp, (cells L).length = L.length * 2
  | [] => rfl
  | x :: L => by rw [cells_cons, List.length_cons, List.length_cons, cells_length L, List.length_cons]; omega
theorem cells_take : ∀ (L : List Sp) (k : Nat), (cells L).take (k * 2) = cells (L.take k)
  | [], k => by simp [cells]
  | x :: L, 0 => by simp [cells]
  | x :: L, k + 1 => by
    rw [show (k + 1) * 2 = k * 2 + 1 + 1 by omega, cells_cons, List.take_succ_cons, List.take_succ_cons, cells_take L k, List.take_succ_cons, cells_cons]
theorem cells_drop : ∀ (L : List Sp) (k : Nat), (cells L).drop (k * 2) = cells (L.drop k)
  | [], k => by simp [cells]
  | x :: L, 0 => by simp [cells]
  | x :: L, k + 1 => by
    rw [show (k + 1) * 2 = k * 2 + 1 + 1 by omega, cells_cons, List.drop_succ_cons, List.drop_succ_cons, cells_drop L k, List.drop_succ_cons]
theorem cells_get : ∀ (L : List Sp) (k : Nat) (x : Sp), L[k]? = some x → (cells L)[k * 2]? = some (.int .i64 x.1) ∧ (cells L)[k * 2 + 1]? = some (.int .i64 x.2)
  | [], k, x, h => by simp at h
  | y :: L, 0, x, h => by
    have : y = x := by simpa using h
    subst this
    exact ⟨rfl, rfl⟩
  | y :: L, k + 1, x, h => by
    have h' : L[k]? = some x := by simpa using h
    obtain ⟨a, b⟩ := cells_get L k x h'
    rw [cells_cons, show (k + 1) * 2 = k * 2 + 1 + 1 by omega, List.getElem?_cons_succ, List.getElem?_cons_succ, List.getElem?_cons_succ, List.getElem?_cons_succ]
    exact ⟨a, b⟩
theorem cells_one (L : List Sp) : ∀ v ∈ cells L, v.oneCell' = true := by
  intro v hv
  unfold cells at hv
  obtain ⟨x, _, hx⟩ := List.mem_flatMap.1 hv
  rcases List.mem_cons.1 hx with rfl | hx
  · rfl
  · rw [List.mem_singleton.1 hx]; rfl
/-- A row of spans: a span's cells. -/
theorem row_at {w : World} {base : Nat} {v : Value} {L : List Sp} (h : w.ownsRow base 39 2 v L.length (cells L)) (k : Nat) (x : Sp) (hx : L[k]? = some x) :
    ∃ g c, v = .slice (some ⟨g, 0, none⟩) L.length c ∧ c ≤ 9223372036854775807 ∧ L.length ≤ c ∧ w.cell? ⟨g, k * 2, none⟩ = some (.int .i64 x.1) ∧ w.cell? ⟨g, k * 2 + 1, none⟩ = some (.int .i64 x.2) := by
  obtain ⟨_, hk⟩ := h
  have hlt := (List.getElem?_eq_some_iff.1 hx).1
  rcases hk with ⟨_, h0⟩ | ⟨g, c, cur, hv, hb, hg, hnc, hcm, hcs, hc⟩
  · omega
  · obtain ⟨a, b⟩ := cells_get L k x hx
    have hX : cur.toList.length = cur.size := Array.length_toList
    refine ⟨g, c, hv, by unfold maxLen at hcm; omega, hnc, ?_, ?_⟩
    · rw [cell_of_row w g _ cur _ _ hg]
      rw [← hc, List.getElem?_take] at a
      split at a
      · rw [← Array.getElem?_toList]; exact a
      · cases a
    · rw [cell_of_row w g _ cur _ _ hg]
      rw [← hc, List.getElem?_take] at b
      split at b
      · rw [← Array.getElem?_toList]; exact b
      · cases b
theorem row_form {w : World} {base : Nat} {v : Value} {n : Nat} {xs : List Value} (h : w.ownsRow base 39 2 v n xs) : ∃ A c, v = .slice A n c ∧ c ≤ 9223372036854775807 ∧ n ≤ c ∧ (0 < n → ∃ g, A = some ⟨g, 0, none⟩) := by
  rcases h.2 with ⟨hv, h0⟩ | ⟨g, c, cur, hv, hb, hg, hnc, hcm, hcs, hc⟩
  · exact ⟨none, 0, by rw [hv, h0], by omega, by omega, fun h => by omega⟩
  · exact ⟨_, c, hv, by unfold maxLen at hcm; omega, hnc, fun _ => ⟨g, rfl⟩⟩
theorem from1 (a b n : Int) (hb0 : 0 ≤ b) (hb1 : b ≤ 4611686018427387903) (hn : -1 ≤ n) (hn1 : n ≤ 9223372036854775807) (w : World) :
    Calls Try.prog 60 #[.agg #[.int .i64 a, .int .i64 b], .int .i64 n] w fun e w' => e = .returned (.int .i64 (b - n)) ∧ w' = w.alloc (.cells #[.int .i64 a, .int .i64 b] 39) := by
  go_enter Try.func60, Try.ntmps60
  go_wp2
  go_ret
  exact ⟨rfl, rfl⟩
/-- Between a and b lies the place. -/
def Bs (L : List Sp) (n : Int) (a b : Nat) : Prop := a ≤ b ∧ b ≤ L.length ∧ (∀ k x, k < a → L[k]? = some x → x.2 < n) ∧ (∀ k x, b ≤ k → L[k]? = some x → n ≤ x.2)
def BsRel (w : World) (L : List Sp) (n : Int) (i j : Value) (wr : World) : Prop := ∃ a b : Nat, i = .int .i64 a ∧ j = .int .i64 b ∧ Bs L n a b ∧ Below w.heap.size w wr
theorem bs_up {w wr : World} {L : List Sp} {n : Int} {a b : Nat} {x : Sp} (ho : Ok L) (h : Bs L n a b) (hb : Below w.heap.size w wr) (hx : L[(a + b) / 2]? = some x) (hc : x.2 < n) (hlt : a < b) {o : Obj} :
    BsRel w L n (.int .i64 (((a : Int) + (b : Int)) / 2 + 1)) (.int .i64 b) (wr.alloc o) := by
  refine ⟨(a + b) / 2 + 1, b, by norm_cast, rfl, ⟨by omega, h.2.1, fun k y hk hy => ?_, h.2.2.2⟩, hb.alloc hb.size _⟩
  by_cases he : k = (a + b) / 2
  · subst he
    rw [hx] at hy
    injection hy with hy
    rw [← hy]; exact hc
  · obtain ⟨h1, h2⟩ := List.getElem?_eq_some_iff.1 hx
    obtain ⟨h3, h4⟩ := List.getElem?_eq_some_iff.1 hy
    have hp := List.pairwise_iff_getElem.1 ho.1 k ((a + b) / 2) h3 h1 (by omega)
    rw [h2, h4] at hp
    have := ho.2 x (List.mem_of_getElem? hx)
    omega
theorem bs_down {w wr : World} {L : List Sp} {n : Int} {a b : Nat} {x : Sp} (ho : Ok L) (h : Bs L n a b) (hb : Below w.heap.size w wr) (hx : L[(a + b) / 2]? = some x) (hc : ¬ x.2 < n) (hlt : a < b) {o : Obj} :
    BsRel w L n (.int .i64 a) (.int .i64 (((a : Int) + (b : Int)) / 2)) (wr.alloc o) := by
  refine ⟨a, (a + b) / 2, rfl, by norm_cast, ⟨by omega, by have := h.2.1; omega, h.2.2.1, fun k y hk hy => ?_⟩, hb.alloc hb.size _⟩
  by_cases he : k = (a + b) / 2
  · subst he
    rw [hx] at hy
    injection hy with hy
    rw [← hy]; omega
  · obtain ⟨h1, h2⟩ := List.getElem?_eq_some_iff.1 hx
    obtain ⟨h3, h4⟩ := List.getElem?_eq_some_iff.1 hy
    have hp := List.pairwise_iff_getElem.1 ho.1 ((a + b) / 2) k h1 h3 (by omega)
    rw [h2, h4] at hp
    have := ho.2 y (List.mem_of_getElem? hy)
    omega
set_option maxHeartbeats 1600000 in
theorem bsf {w : World} {base : Nat} {v : Value} {L : List Sp} (h : w.ownsRow base 39 2 v L.length (cells L)) (ho : Ok L) (hl : L.length ≤ 1048576) (n : Int) (hn : -1 ≤ n) (hn1 : n ≤ 9223372036854775807) :
    Calls Try.prog 59 #[v, .int .i64 n, .func (.func 60) #[] #[]] w fun e w' => ∃ b : Bool, e = .returned (.tuple #[.int .i64 (fromL L n), .bool b]) ∧ Below w.heap.size w w' := by
  obtain ⟨A, c, rfl, hc, hnc, hA⟩ := row_form h
  have HROW := Aside0.mk h
  have HO := Aside0.mk ho
  have HAA := Aside0.mk hA
  clear h ho hA
  go_enter Try.func59, Try.ntmps59
  go_wp2_with fail
  go_loopw [9, 10] (fun i j wr => BsRel w L n i j wr) (fun i j _ => (intOf j - intOf i).toNat)
  case atStart => exact ⟨0, L.length, rfl, rfl, ⟨Nat.zero_le _, Nat.le_refl _, fun k x hk => by omega, fun k x hk hx => by have := (List.getElem?_eq_some_iff.1 hx).1; omega⟩, Below.refl _ _⟩
  case round =>
    obtain ⟨a, b, rfl, rfl, hbs, hb⟩ := hrel
    have HBS := Aside0.mk hbs
    have HB := Aside0.mk hb
    have hab := hbs.1
    have hbl := hbs.2.1
    clear hbs hb
    by_cases hlt : a < b
    · have h1 : (a + b) / 2 < b := by omega
      have h2 : a ≤ (a + b) / 2 := by omega
      obtain ⟨x, hx⟩ : ∃ x, L[(a + b) / 2]? = some x := ⟨_, List.getElem?_eq_getElem (by omega)⟩
      obtain ⟨g, c', hv, _, _, hc1, hc2⟩ := row_at HROW.out _ x hx
      injection hv with hv1 _ hv2
      subst hv1; subst hv2
      have hd1 := pw_cell_below HB.out hc1
      have hd2 := pw_cell_below HB.out hc2
      have HX := Aside0.mk hx
      have hxo := HO.out.2 x (List.mem_of_getElem? hx)
      have hx1 := hxo.1
      have hx2 := hxo.2.1
      have hx3 := hxo.2.2
      clear hc1 hc2 hx hxo
      by_cases hcmp : x.2 < n
      · have hneg : x.2 - n < 0 := by omega
        go_wp2_with (go_at_call 60; refine (from1 _ _ _ (by omega) hx3 hn hn1 _).mono ?_; rintro e w1 ⟨rfl, rfl⟩)
        go_roundw
        case rel => exact bs_up HO.out HBS.out HB.out HX.out hcmp hlt
        case measure => simp [intOf]; omega
      · have hneg : ¬ (x.2 - n < 0) := by omega
        go_wp2_with (go_at_call 60; refine (from1 _ _ _ (by omega) hx3 hn hn1 _).mono ?_; rintro e w1 ⟨rfl, rfl⟩)
        go_roundw
        case rel => exact bs_down HO.out HBS.out HB.out HX.out (by omega) hlt
        case measure => simp [intOf]; omega
    · obtain rfl : a = b := by omega
      have HE := Aside0.mk (fromL_eq L HO.out n a HBS.out.2.1 HBS.out.2.2.1 (fun x hx => HBS.out.2.2.2 a x (Nat.le_refl _) hx))
      by_cases hal : a < L.length
      · obtain ⟨x, hx⟩ : ∃ x, L[a]? = some x := ⟨_, List.getElem?_eq_getElem hal⟩
        obtain ⟨g, c', hv, _, _, hc1, hc2⟩ := row_at HROW.out _ x hx
        injection hv with hv1 _ hv2
        subst hv1; subst hv2
        have hd1 := pw_cell_below HB.out hc1
        have hd2 := pw_cell_below HB.out hc2
        have hxo := HO.out.2 x (List.mem_of_getElem? hx)
        have hx1 := hxo.1
        have hx2 := hxo.2.1
        have hx3 := hxo.2.2
        clear hc1 hc2 hx hxo
        go_wp2_with (go_at_call 60; refine (from1 _ _ _ (by omega) hx3 hn hn1 _).mono ?_; rintro e w1 ⟨rfl, rfl⟩)
        go_ret2
        rw [← HE.out]
        exact ⟨_, rfl, HB.out.trans (below_alloc (Below.refl _ _) _ |>.mono HB.out.size)⟩
      · go_wp2_with fail
        go_ret2
        rw [← HE.out]
        exact ⟨_, rfl, HB.out⟩
end Go.Proofs.Ytmkojmjjlcfohaa.Rg
