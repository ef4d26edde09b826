/- Wheels (layer 25): slices.IndexFunc and DeleteFunc of a key; no condition. -/
import Derived.Test.YtakmcbakogjeeaaWh6
set_option linter.unusedVariables false
set_option linter.unusedSimpArgs false
namespace Go.Proofs.Ytakmcbakogjeeaa.Wh
open Go Go.RowKit Go.Maps Go.Proofs.Ytakmcbakogjeeaa.Rm Go.Proofs.Ytakmcbakogjeeaa.Rw
open Go.Proofs.YtakmcbakogjeeaaW.PrintWords Go.Proofs.YtakmcbakogjeeaaW.PrintLast Go.Proofs.YtakmcbakogjeeaaW.PrintMore
variable {W W' W2 : World} {b p m n : Nat} {now : Int} {kv : KV} {R : List Row} {x x' : Row} {F F' F2 : Nat → Prop}
/-- The closure that asks for a key. -/
abbrev keyF (kb : Nat) : Value := .func (.func 86) #[] #[.pointer (some ⟨kb, 0, none⟩)]
abbrev KeyAt (W : World) (kb : Nat) (k : Int) : Prop := W.heap[kb]? = some (.cells #[.int .i64 k] 3 (0, 0))
theorem RowAt.cells {g c : Nat} {L : List Tm} (h : RowAt W b (.slice (some ⟨g, 0, none⟩) L.length c, L)) {j : Nat} {t : Tm} (hj : L[j]? = some t) : W.cell? ⟨g, j * 2, none⟩ = some (.int .i64 t.1) ∧ W.cell? ⟨g, j * 2 + 1, none⟩ = some (.int .i64 t.2) := by
  have hjl : j < L.length := (List.getElem?_eq_some_iff.1 hj).1
  have hlen := tcells_len L
  obtain ⟨e1, e2⟩ := tcells_at L j t hj
  rcases h.2 with ⟨h0, h1⟩ | ⟨g', cap', cur, h1, _, hb, _, _, _, ht⟩
  · injection h0 with h0 _ _
    cases h0
  · injection h1 with h1 h2 h3
    injection h1 with h1
    injection h1 with h1
    subst h1
    rw [cell_of_row W g _ _ _ _ hb, cell_of_row W g _ _ _ _ hb, ← e1, ← e2, ← ht]
    refine ⟨?_, ?_⟩ <;> (rw [List.getElem?_take, if_pos (by simp only []; omega)]; simp)
set_option maxRecDepth 100000 in
theorem clo_s {kb : Nat} {k : Int} (hk : KeyAt W kb k) (t : Tm) :
    Calls Try.prog 86 #[.agg #[.int .i64 t.1, .int .i64 t.2], .pointer (some ⟨kb, 0, none⟩)] W fun e w' => e = .returned (.bool (t.1 == k)) ∧ Below W.heap.size W w' := by
  have HB1 := Aside0.mk (below_alloc (Below.refl _ W) (.cells #[.int .i64 t.1, .int .i64 t.2] 160 (0, 0)))
  have hk2 := (HB1.out.block kb (Array.getElem?_eq_some_iff.1 hk).1).trans hk
  have k0 : (W.alloc (.cells #[.int .i64 t.1, .int .i64 t.2] 160 (0, 0))).cell? ⟨kb, 0, none⟩ = some (.int .i64 k) := by rw [cell_of_row _ _ _ _ _ _ hk2]; rfl
  clear hk hk2
  go_enter Try.func86, Try.ntmps86
  go_wp2_with fail
  go_ret
  exact ⟨congrArg (fun b => Ending.returned (Value.bool b)) (by first | rfl | (by_cases h : t.1 = k <;> simp [h])), HB1.out⟩
set_option maxRecDepth 100000 in
theorem idx_nil (f : Value) : Calls Try.prog 117 #[.slice none 0 0, f] W fun e w' => e = .returned (.int .i64 (-1)) ∧ W = w' := by
  go_enter Try.func117, Try.ntmps117
  go_wp2
  go_loopw [8] (fun iv W' => iv = .int .i64 0 ∧ W = W') (fun iv _ => 0)
  case atStart => exact ⟨rfl, rfl⟩
  case round =>
    obtain ⟨rfl, rfl⟩ := hrel
    go_wp2
    go_ret
    exact ⟨rfl, rfl⟩
set_option maxRecDepth 100000 in
set_option maxHeartbeats 1600000 in
theorem idx_row {g c : Nat} {L : List Tm} (h : RowAt W b (.slice (some ⟨g, 0, none⟩) L.length c, L)) (hl : L.length ≤ 1099511627776) {kb : Nat} {k : Int} (hk : KeyAt W kb k) :
    Calls Try.prog 117 #[.slice (some ⟨g, 0, none⟩) L.length c, keyF kb] W fun e w' =>
      Below W.heap.size W w' ∧ ((e = .returned (.int .i64 (-1)) ∧ ∀ t ∈ L, t.1 ≠ k) ∨ ∃ (j : Nat) (t : Tm), e = .returned (.int .i64 j) ∧ L[j]? = some t ∧ t.1 = k ∧ ∀ t ∈ L.take j, t.1 ≠ k) := by
  have H := Aside0.mk h
  have HK := Aside0.mk hk
  clear h hk
  go_enter Try.func117, Try.ntmps117
  go_wp2
  go_loopw [8] (fun iv W' => ∃ j : Nat, j ≤ L.length ∧ iv = .int .i64 j ∧ (∀ t ∈ L.take j, t.1 ≠ k) ∧ Below W.heap.size W W') (fun iv _ => L.length - (intOf iv).toNat)
  case atStart => exact ⟨0, by omega, rfl, (fun t ht => by simp at ht), Below.refl _ _⟩
  case round =>
    obtain ⟨j, hj, rfl, hany, hB⟩ := hrel
    have HA := Aside0.mk hany
    have HB := Aside0.mk hB
    clear hany hB
    by_cases hlt : j < L.length
    · obtain ⟨t, ho⟩ : ∃ t, L[j]? = some t := ⟨_, List.getElem?_eq_getElem hlt⟩
      have h1 : RowAt wr b (.slice (some ⟨g, 0, none⟩) L.length c, L) := RowAt.move H.out (fun k hk => HB.out.block k (by
        obtain ⟨_, cs, hc⟩ := RowAt.block H.out hk
        exact (Array.getElem?_eq_some_iff.1 hc).1))
      obtain ⟨c0, c1⟩ := RowAt.cells h1 ho
      have CC := Aside0.mk (clo_s (W := wr) (kb := kb) (k := k) ((HB.out.block kb (Array.getElem?_eq_some_iff.1 HK.out).1).trans HK.out) t)
      obtain ⟨rb, hrb⟩ : ∃ rb, (t.1 == k) = rb := ⟨_, rfl⟩
      rw [hrb] at CC
      have HRB := Aside0.mk (And.intro ho hrb)
      clear ho h1 hrb
      cases rb with
      | true =>
        go_wp2_with (go_at_call 86; (with_reducible refine CC.out.mono ?_); rintro e w' ⟨rfl, hb⟩)
        go_ret
        exact ⟨HB.out.trans (hb.mono HB.out.size), .inr ⟨j, t, rfl, HRB.out.1, by simpa using HRB.out.2, HA.out⟩⟩
      | false =>
        go_wp2_with (go_at_call 86; (with_reducible refine CC.out.mono ?_); rintro e w' ⟨rfl, hb⟩)
        go_roundw
        case rel =>
          refine ⟨j + 1, by omega, by go_num, fun u hu => ?_, HB.out.trans (hb.mono HB.out.size)⟩
          rw [List.take_add_one, HRB.out.1] at hu
          rcases List.mem_append.1 hu with hu | hu
          · exact HA.out u hu
          · obtain rfl : u = t := by simpa using hu
            simpa using HRB.out.2
        case measure => simp [intOf]; omega
    · obtain rfl : j = L.length := by omega
      go_wp2
      go_ret
      refine ⟨HB.out, .inl ⟨rfl, ?_⟩⟩
      have := HA.out
      rwa [List.take_length] at this
end Go.Proofs.Ytakmcbakogjeeaa.Wh
