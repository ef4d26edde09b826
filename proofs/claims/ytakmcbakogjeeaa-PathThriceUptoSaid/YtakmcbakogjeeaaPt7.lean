/- Paths (layer 24): slices.IndexFunc and ContainsFunc over challenges; no condition. -/
import Derived.Test.YtakmcbakogjeeaaPt6
import Derived.Outline
set_option linter.unusedVariables false
set_option linter.unusedSimpArgs false
namespace Go.Proofs.Ytakmcbakogjeeaa.Pt
open Go Go.RowKit Go.Maps Go.Proofs.Ytakmcbakogjeeaa.Rm
open Go.Proofs.YtakmcbakogjeeaaW.PrintWords Go.Proofs.YtakmcbakogjeeaaW.PrintLast Go.Proofs.YtakmcbakogjeeaaW.PrintMore
variable {W W' : World} {b p m n : Nat} {used : Int} {K A B : List Ent} {x x' : Ent}
theorem ocells_len : ∀ L : List Oz, (∀ o ∈ L, o.1.length = 8) → (ocells L).length = L.length * 9
  | [], _ => rfl
  | o :: r, h => by
    have ih := ocells_len r (fun x hx => h x (List.mem_cons_of_mem _ hx))
    have h8 := h o List.mem_cons_self
    unfold ocells at ih ⊢
    rw [List.flatMap_cons, List.length_append, ih, List.length_append, List.length_map, List.length_singleton, h8, List.length_cons]
    omega
theorem ocells_at : ∀ (L : List Oz), (∀ o ∈ L, o.1.length = 8) → ∀ (j k : Nat) (o : Oz), L[j]? = some o → k < 9 → (ocells L)[j * 9 + k]? = (o.1.map (Value.int .u8) ++ [.int .i64 o.2])[k]?
  | [], _, j, k, o, hj, _ => by simp at hj
  | y :: r, h, 0, k, o, hj, hk => by
    have h8 := h y List.mem_cons_self
    have e : y = o := by simpa using hj
    subst e
    unfold ocells
    rw [List.flatMap_cons, List.getElem?_append_left (by rw [List.length_append, List.length_map, List.length_singleton]; omega), Nat.zero_mul, Nat.zero_add]
  | y :: r, h, j + 1, k, o, hj, hk => by
    have ih := ocells_at r (fun x hx => h x (List.mem_cons_of_mem _ hx)) j k o (by simpa using hj) hk
    have h8 := h y List.mem_cons_self
    unfold ocells at ih ⊢
    have hl : (y.1.map (Value.int .u8) ++ [Value.int .i64 y.2]).length = 9 := by rw [List.length_append, List.length_map, List.length_singleton]; omega
    rw [List.flatMap_cons, List.getElem?_append_right (by rw [hl]; omega), hl, show (j + 1) * 9 + k - 9 = j * 9 + k by omega]
    exact ih
theorem ocell {g cap : Nat} {L : List Oz} (h : W.ownsRow b 176 9 (.slice (some ⟨g, 0, none⟩) L.length cap) L.length (ocells L)) (hok : ∀ o ∈ L, o.1.length = 8) {j k : Nat} {o : Oz} (hj : L[j]? = some o) (hk : k < 9) :
    W.cell? ⟨g, j * 9 + k, none⟩ = (o.1.map (Value.int .u8) ++ [.int .i64 o.2])[k]? := by
  have hjl : j < L.length := (List.getElem?_eq_some_iff.1 hj).1
  have hlen := ocells_len L hok
  have e := ocells_at L hok j k o hj hk
  rcases h.2 with ⟨h0, h1⟩ | ⟨g', cap', cur, h1, _, hb, _, _, _, ht⟩
  · injection h0 with h0 _ _
    cases h0
  · injection h1 with h1 h2 h3
    injection h1 with h1
    injection h1 with h1
    subst h1
    rw [cell_of_row W g _ _ _ _ hb, ← e, ← ht]
    rw [List.getElem?_take, if_pos (by omega)]
    simp
theorem shape2 {v : Value} {L : List Oz} (h : W.ownsRow b 176 9 v L.length (ocells L)) : (v = .slice none 0 0 ∧ L = []) ∨ ∃ g c, v = .slice (some ⟨g, 0, none⟩) L.length c := by
  rcases h.2 with ⟨h1, h2⟩ | ⟨g', cap', cur, h1, _⟩
  · exact .inl ⟨h1, List.length_eq_zero_iff.1 h2⟩
  · exact .inr ⟨_, _, h1⟩
abbrev hits (D : List Int) (L : List Oz) : Bool := L.any (fun o => o.1 == D)
set_option maxRecDepth 100000 in
theorem idx_nil (f : Value) : Calls Try.prog 124 #[.slice none 0 0, f] W fun e w' => e = .returned (.int .i64 (-1)) ∧ W = w' := by
  go_enter Try.func124, Try.ntmps124
  go_wp2
  go_loopw [8] (fun iv W' => iv = .int .i64 0 ∧ W = W') (fun iv _ => 0)
  case atStart => exact ⟨rfl, rfl⟩
  case round =>
    obtain ⟨rfl, rfl⟩ := hrel
    go_wp2
    go_ret
    exact ⟨rfl, rfl⟩
set_option maxRecDepth 100000 in
set_option maxHeartbeats 1600000 in
theorem idx_row {g c : Nat} {L : List Oz} (h : W.ownsRow b 176 9 (.slice (some ⟨g, 0, none⟩) L.length c) L.length (ocells L)) (hok : ∀ o ∈ L, o.1.length = 8) (hl63 : L.length ≤ 1099511627776) (nb : Nat) (d0 d1 d2 d3 d4 d5 d6 d7 : Int) (hnw : W.heap[nb]? = some (.cells #[.int .u8 d0, .int .u8 d1, .int .u8 d2, .int .u8 d3, .int .u8 d4, .int .u8 d5, .int .u8 d6, .int .u8 d7] 96 (0, 0))) :
    Calls Try.prog 124 #[.slice (some ⟨g, 0, none⟩) L.length c, .func (.func 98) #[] #[.pointer (some ⟨nb, 0, none⟩)]] W fun e w' => ∃ r : Int, e = .returned (.int .i64 r) ∧ decide (0 ≤ r) = hits [d0, d1, d2, d3, d4, d5, d6, d7] L ∧ Below W.heap.size W w' := by
  have H := Aside0.mk h
  have HK := Aside0.mk hok
  have HNW := Aside0.mk hnw
  obtain ⟨Dl, hDl⟩ : ∃ Dl, [d0, d1, d2, d3, d4, d5, d6, d7] = Dl := ⟨_, rfl⟩
  rw [hDl]
  have HDL := Aside0.mk hDl
  clear h hok hnw hDl
  go_enter Try.func124, Try.ntmps124
  go_wp2
  go_loopw [8] (fun iv W' => ∃ j : Nat, j ≤ L.length ∧ iv = .int .i64 j ∧ hits Dl (L.take j) = false ∧ Below W.heap.size W W') (fun iv _ => L.length - (intOf iv).toNat)
  case atStart => exact ⟨0, by omega, rfl, rfl, Below.refl _ _⟩
  case round =>
    obtain ⟨j, hj, rfl, hany, hB⟩ := hrel
    have HA := Aside0.mk hany
    have HB := Aside0.mk hB
    clear hany hB
    by_cases hlt : j < L.length
    · obtain ⟨o, ho⟩ : ∃ o, L[j]? = some o := ⟨_, List.getElem?_eq_getElem hlt⟩
      have HO := Aside0.mk ho
      have h8 := HK.out o (List.mem_of_getElem? ho)
      obtain ⟨ol, u⟩ := o
      match ol, h8 with
      | [e0, e1, e2, e3, e4, e5, e6, e7], _ =>
      have h1 : wr.ownsRow b 176 9 (.slice (some ⟨g, 0, none⟩) L.length c) L.length (ocells L) := own_move H.out (fun k hk => HB.out.block k (by
        obtain ⟨cs, hc⟩ := own_typed H.out k hk
        exact (Array.getElem?_eq_some_iff.1 hc).1))
      have c0 := ocell h1 HK.out ho (k := 0) (by omega)
      have c1 := ocell h1 HK.out ho (k := 1) (by omega)
      have c2 := ocell h1 HK.out ho (k := 2) (by omega)
      have c3 := ocell h1 HK.out ho (k := 3) (by omega)
      have c4 := ocell h1 HK.out ho (k := 4) (by omega)
      have c5 := ocell h1 HK.out ho (k := 5) (by omega)
      have c6 := ocell h1 HK.out ho (k := 6) (by omega)
      have c7 := ocell h1 HK.out ho (k := 7) (by omega)
      have c8 := ocell h1 HK.out ho (k := 8) (by omega)
      simp only [List.map_cons, List.map_nil, List.cons_append, List.nil_append, List.getElem?_cons_zero, List.getElem?_cons_succ, Nat.add_zero] at c0 c1 c2 c3 c4 c5 c6 c7 c8
      have CC := Aside0.mk (clo (W := wr) nb e0 e1 e2 e3 e4 e5 e6 e7 u d0 d1 d2 d3 d4 d5 d6 d7 ((HB.out.block nb (Array.getElem?_eq_some_iff.1 HNW.out).1).trans HNW.out))
      obtain ⟨rb, hrb⟩ : ∃ rb, ([e0, e1, e2, e3, e4, e5, e6, e7] == [d0, d1, d2, d3, d4, d5, d6, d7]) = rb := ⟨_, rfl⟩
      rw [hrb] at CC
      have HRB := Aside0.mk hrb
      clear ho h1 hrb h8
      cases rb with
      | true =>
        go_wp2_with (go_at_call 98; (with_reducible refine CC.out.mono ?_); rintro e w' ⟨rfl, hb⟩)
        go_ret
        refine ⟨_, rfl, ?_, HB.out.trans (hb.mono HB.out.size)⟩
        rw [← HDL.out]
        have hm : ([e0, e1, e2, e3, e4, e5, e6, e7], u) ∈ L := List.mem_of_getElem? HO.out
        rw [show hits [d0, d1, d2, d3, d4, d5, d6, d7] L = true from List.any_eq_true.2 ⟨_, hm, HRB.out⟩]
        simp
      | false =>
        go_wp2_with (go_at_call 98; (with_reducible refine CC.out.mono ?_); rintro e w' ⟨rfl, hb⟩)
        go_roundw
        case rel =>
          refine ⟨j + 1, by omega, by go_num, ?_, HB.out.trans (hb.mono HB.out.size)⟩
          have e : L.take (j + 1) = L.take j ++ [([e0, e1, e2, e3, e4, e5, e6, e7], u)] := by
            rw [List.take_add_one, HO.out]
            rfl
          rw [e]
          unfold hits
          have ha := HA.out
          unfold hits at ha
          rw [List.any_append, ha]
          simp only [List.any_cons, List.any_nil, Bool.or_false, Bool.false_or]
          rw [← HDL.out]
          exact HRB.out
        case measure => simp [intOf]; omega
    · obtain rfl : j = L.length := by omega
      go_wp2
      go_ret
      refine ⟨_, rfl, ?_, HB.out⟩
      have := HA.out
      rw [List.take_length] at this
      rw [this]
      rfl
theorem idx_s {v : Value} {L : List Oz} (h : W.ownsRow b 176 9 v L.length (ocells L)) (hok : ∀ o ∈ L, o.1.length = 8) (hl63 : L.length ≤ 1099511627776) (nb : Nat) (d0 d1 d2 d3 d4 d5 d6 d7 : Int) (hnw : W.heap[nb]? = some (.cells #[.int .u8 d0, .int .u8 d1, .int .u8 d2, .int .u8 d3, .int .u8 d4, .int .u8 d5, .int .u8 d6, .int .u8 d7] 96 (0, 0))) :
    Calls Try.prog 124 #[v, .func (.func 98) #[] #[.pointer (some ⟨nb, 0, none⟩)]] W fun e w' => ∃ r : Int, e = .returned (.int .i64 r) ∧ decide (0 ≤ r) = hits [d0, d1, d2, d3, d4, d5, d6, d7] L ∧ Below W.heap.size W w' := by
  rcases shape2 h with ⟨rfl, rfl⟩ | ⟨g, c, rfl⟩
  · refine (idx_nil _).mono ?_
    rintro e w' ⟨rfl, rfl⟩
    exact ⟨-1, rfl, rfl, Below.refl _ _⟩
  · exact idx_row h hok hl63 nb d0 d1 d2 d3 d4 d5 d6 d7 hnw
set_option maxRecDepth 100000 in
theorem has_s {v : Value} {L : List Oz} (h : W.ownsRow b 176 9 v L.length (ocells L)) (hok : ∀ o ∈ L, o.1.length = 8) (hl63 : L.length ≤ 1099511627776) (nb : Nat) (d0 d1 d2 d3 d4 d5 d6 d7 : Int) (hnw : W.heap[nb]? = some (.cells #[.int .u8 d0, .int .u8 d1, .int .u8 d2, .int .u8 d3, .int .u8 d4, .int .u8 d5, .int .u8 d6, .int .u8 d7] 96 (0, 0))) :
    Calls Try.prog 97 #[v, .func (.func 98) #[] #[.pointer (some ⟨nb, 0, none⟩)]] W fun e w' => e = .returned (.bool (hits [d0, d1, d2, d3, d4, d5, d6, d7] L)) ∧ Below W.heap.size W w' := by
  have CI := Aside0.mk (idx_s h hok hl63 nb d0 d1 d2 d3 d4 d5 d6 d7 hnw)
  clear h hok hnw
  generalize hits [d0, d1, d2, d3, d4, d5, d6, d7] L = rb at *
  go_enter Try.func97, Try.ntmps97
  go_wp2_with (go_at_call 124; (with_reducible refine CI.out.mono ?_); rintro e w' ⟨r, rfl, hr, hb⟩)
  go_ret
  exact ⟨rfl, hb⟩
end Go.Proofs.Ytakmcbakogjeeaa.Pt
