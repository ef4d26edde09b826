/- Sets of spans: New and Clone; no condition. -/
import Derived.Test.YtmkojmjjlcfohaaRgSet
import Derived.WalkSpells
import Derived.Lib.BufferMore
set_option linter.unusedVariables false
set_option linter.unusedSimpArgs false
namespace Go.Proofs.Ytmkojmjjlcfohaa.Rg
open Go.RowKit Go.Proofs.YtmkojmjjlcfohaaW.PrintWords Go.Proofs.YtmkojmjjlcfohaaW.PrintLast Go.Proofs.YtmkojmjjlcfohaaW.PrintMore Go.Proofs.Ytmkojmjjlcfohaa.Rw
theorem new_s (w : World) : Calls Try.prog 16 #[] w fun e w' => e = .returned (.pointer (some ⟨w.heap.size, 0, none⟩)) ∧ w' = w.alloc (.cells #[.bool true, .slice none 0 0] 60) := by
  go_enter Try.func16, Try.ntmps16
  go_wp2
  go_ret
  exact ⟨rfl, rfl⟩
theorem new_at (w : World) (b : Nat) (hb : b ≤ w.heap.size) : SetAt (w.alloc (.cells #[.bool true, .slice none 0 0] 60)) b w.heap.size (.slice none 0 0) [] :=
  ⟨hb, heap_alloc_new w _, ⟨by simp [cells], .inl ⟨rfl, rfl⟩⟩, ok_nil, by simp⟩
set_option maxHeartbeats 800000 in
theorem clone_sl {w : World} {base : Nat} {v : Value} {L : List Sp} (h : w.ownsRow base 39 2 v L.length (cells L)) (hl : L.length ≤ 1048576) :
    Calls Try.prog 45 #[v] w fun e w' => ∃ v', e = .returned v' ∧ w'.ownsRow w.heap.size 39 2 v' L.length (cells L) ∧ Below w.heap.size w w' := by
  have hq : ∀ (W : World) (a : Option Addr) (n c : Nat), (binOp .eql 33 (.slice a n c) (.slice none 0 0)).run Try.prog W = .ok (.bool a.isNone) W := fun W a n c => by
    cases a with
    | none => exact Lib.run_eql_slice_nil_nil W n c Try.underlying33
    | some a => exact Lib.run_eql_slice_some_nil W a n c Try.underlying33
  rcases h.2 with ⟨rfl, h0⟩ | ⟨g, c, cur, rfl, hb, hg, hnc, hcm, hcs, hx⟩
  · have : L = [] := List.eq_nil_of_length_eq_zero h0
    subst this
    clear h h0 hl
    go_enter Try.func45, Try.ntmps45
    go_wp2
    go_ret
    exact ⟨_, rfl, World.ownsRow_nil _ _ _ _, Below.refl _ _⟩
  · have hX : cur.toList.length = cur.size := Array.length_toList
    obtain ⟨i0, hi, hz0, hz1, hz2⟩ := info_parts infoS
    have hcell : ∀ j u, (cells L)[j]? = some u → (w.alloc (.cells #[] 39)).cell? ((⟨g, 0, none⟩ : Addr).add j) = some u := fun j u hu => by
      have hg' : (w.alloc (.cells #[] 39)).heap[g]? = some (.cells cur 39 (0, 0)) := (Below.heap_alloc w _ g (Array.getElem?_eq_some_iff.1 hg).1).trans hg
      rw [add_at, cell_of_row _ g _ cur _ _ hg', Nat.zero_add, ← Array.getElem?_toList]
      rw [← hx, List.getElem?_take] at hu
      split at hu
      · exact hu
      · cases hu
    have h0 : (w.alloc (.cells #[] 39)).ownsRow w.heap.size 39 2 (.slice (some ⟨w.heap.size, 0, none⟩) 0 0) 0 [] := ⟨by simp, .inr ⟨_, 0, #[], rfl, Nat.le_refl _, heap_alloc_new w _, Nat.le_refl _, Nat.zero_le _, by simp, by simp⟩⟩
    obtain ⟨v1, w1, hr, h1, h2, _, h3⟩ := run_append_own_at (P := Try.prog) (w := w.alloc (.cells #[] 39)) w.heap.size 33 33 39 i0 _ 2 16 Try.underlying33 hi hz0 hz1 hz2 rfl (by decide) _ 0 [] h0 ⟨g, 0, none⟩ L.length c (cells L) (cells_length L) hcell (cells_one L) (by unfold maxLen; omega) (by omega) (by simp)
    have hap : ∀ ty, (Builtin.append_ #[33, 33] ty #[.slice (some ⟨w.heap.size, 0, none⟩) 0 0, .slice (some ⟨g, 0, none⟩) L.length c]).run Try.prog (w.alloc (.cells #[] 39)) = .ok v1 w1 := fun ty => hr
    rw [Nat.zero_add, List.nil_append] at h1
    have hbl : Below w.heap.size w w1 := (below_alloc (Below.refl w.heap.size w) (.cells #[] 39)).grown h2 (by simp) (fun k hk => Nat.le_of_eq (Option.some.inj hk))
    have HR := Aside0.mk (And.intro h1 hbl)
    clear hr h1 h2 h3 h0 hcell hX hi hz0 hz1 hz2 hx hg hcs hbl h
    unfold maxLen at hcm
    go_enter Try.func45, Try.ntmps45
    go_wp2_with (at_builtin; refine Lib.wpList_append_run _ rfl _ _ _ _ rfl _ _ rfl rfl _ _ (hap _) ?_)
    go_ret
    exact ⟨_, rfl, HR.out⟩
set_option maxHeartbeats 800000 in
theorem clone_s {w : World} {base g : Nat} {v : Value} {L : List Sp} (h : SetAt w base g v L) :
    Calls Try.prog 22 #[.pointer (some ⟨g, 0, none⟩)] w fun e w' => ∃ g' v', e = .returned (.pointer (some ⟨g', 0, none⟩)) ∧ w.heap.size ≤ g' ∧ SetAt w' w.heap.size g' v' L ∧ Below w.heap.size w w' := by
  have c1 := h.c1
  have H := Aside0.mk h
  have HC := Aside0.mk (clone_sl h.row (by have := h.few; omega))
  clear h
  go_enter Try.func22, Try.ntmps22
  go_wp2_with (first
    | (go_at_call 43; refine (none_s H.out).mono ?_; rintro e w' ⟨rfl, rfl⟩)
    | (go_at_call 45; refine HC.out.mono ?_; rintro e w1 ⟨v1, rfl, h1, hb⟩; obtain ⟨A1, n1, rfl, _⟩ := row_form h1; have HR := Aside0.mk (And.intro h1 hb); clear h1 hb))
  go_ret
  exact ⟨_, _, rfl, HR.out.2.size, ⟨HR.out.2.size, heap_alloc_new w1 _, HR.out.1.alloc _, H.out.ok, H.out.few⟩, HR.out.2.alloc HR.out.2.size _⟩
end Go.Proofs.Ytmkojmjjlcfohaa.Rg
