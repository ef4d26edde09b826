/- What has been seen (layer 8): its methods; no condition. -/
import Derived.Test.YtmkojmjjlcfohaaSeen1
set_option linter.unusedVariables false
set_option linter.unusedSimpArgs false
namespace Go.Proofs.Ytmkojmjjlcfohaa.Rg
open Go.RowKit Go.Shelf Go.Proofs.YtmkojmjjlcfohaaW.PrintWords Go.Proofs.YtmkojmjjlcfohaaW.PrintLast Go.Proofs.YtmkojmjjlcfohaaW.PrintMore Go.Proofs.Ytmkojmjjlcfohaa.Rw
variable {w0 W W' : World} {gs g : Nat} {dl gr cm nw wt du : Int} {is : Bool}
set_option maxRecDepth 100000 in
theorem none_sn (h : SnB w0 gs g (sn g dl gr cm nw wt du is) W) : Calls Try.prog 47 #[.pointer (some ⟨gs, 0, none⟩)] W fun e w' => e = .returned (.bool false) ∧ W = w' := by
  have c0 := h.cell 0 _ rfl
  have c1 := h.cell 1 _ rfl
  have c2 := h.cell 2 _ rfl
  have c3 := h.cell 3 _ rfl
  have c4 := h.cell 4 _ rfl
  have c5 := h.cell 5 _ rfl
  have c6 := h.cell 6 _ rfl
  have c7 := h.cell 7 _ rfl
  have c8 := h.cell 8 _ rfl
  have heq := fun w => eq_sn g dl gr cm nw wt du is w
  clear h
  go_enter Try.func47, Try.ntmps47
  go_wp2
  go_ret
  exact ⟨rfl, rfl⟩
theorem time_sn (t : Int) (h0 : 0 ≤ t) (h1 : t ≤ 1125899906842624) : Calls Try.prog 46 #[.int .i64 t] W fun e w' => e = .returned (.bool true) ∧ W = w' := by
  go_enter Try.func46, Try.ntmps46
  go_wp2
  go_ret
  exact ⟨rfl, rfl⟩
set_option maxRecDepth 100000 in
theorem new_sn (dl : Int) (h0 : 0 ≤ dl) (h1 : dl ≤ 1125899906842624) (h : Below w0.heap.size w0 W) : Calls Try.prog 23 #[.int .i64 dl] W fun e w' => ∃ gs g, e = .returned (.tuple #[.pointer (some ⟨gs, 0, none⟩), .int .i64 0]) ∧ SnB w0 gs g (sn g dl (-1) 0 0 0 0 false) w' := by
  have H := Aside0.mk h
  clear h
  go_enter Try.func23, Try.ntmps23
  go_wp2_with (first
    | (go_at_call 46; refine (time_sn dl h0 h1).mono ?_; rintro e w' ⟨rfl, rfl⟩)
    | (go_at_call 16; refine (one_new w0 _ H.out).mono ?_; rintro e w1 ⟨g, rfl, hs⟩; have HS := Aside0.mk hs; clear hs))
  go_ret2
  refine ⟨_, g, rfl, [], HS.out.below (one_rk _ _ _) (below_alloc (Below.refl _ _) _), HS.out.bel.size, heap_alloc_new _ _⟩
set_option maxRecDepth 100000 in
theorem due_sn (h : SnB w0 gs g (sn g dl gr cm nw wt du is) W) : Calls Try.prog 25 #[.pointer (some ⟨gs, 0, none⟩)] W fun e w' => e = .returned (.tuple #[.int .i64 (if is then du else 0), .bool is]) ∧ W = w' := by
  have c0 := h.cell 0 _ rfl
  have c1 := h.cell 1 _ rfl
  have c2 := h.cell 2 _ rfl
  have c3 := h.cell 3 _ rfl
  have c4 := h.cell 4 _ rfl
  have c5 := h.cell 5 _ rfl
  have c6 := h.cell 6 _ rfl
  have c7 := h.cell 7 _ rfl
  have c8 := h.cell 8 _ rfl
  have H := Aside0.mk h
  clear h
  cases is
  all_goals
    go_enter Try.func25, Try.ntmps25
    go_wp2_with (go_at_call 47; refine (none_sn (by first | exact H.out | exact H.out.drew | exact H.out.drewN _)).mono ?_; rintro e w' ⟨rfl, rfl⟩)
    go_ret2
    exact ⟨rfl, rfl⟩
set_option maxRecDepth 100000 in
theorem sent_sn (h : SnB w0 gs g (sn g dl gr cm nw wt du is) W) (t : Int) (hc0 : 0 ≤ cm) (hc1 : cm ≤ t) (ht : t ≤ 1125899906842624) : Calls Try.prog 26 #[.pointer (some ⟨gs, 0, none⟩), .int .i64 t] W fun e w' => ∃ x, e = .returned (.int .i64 x) ∧ SnB w0 gs g (sn g dl gr cm nw 0 0 false) w' := by
  have c0 := h.cell 0 _ rfl
  have c1 := h.cell 1 _ rfl
  have c2 := h.cell 2 _ rfl
  have c3 := h.cell 3 _ rfl
  have c4 := h.cell 4 _ rfl
  have c5 := h.cell 5 _ rfl
  have c6 := h.cell 6 _ rfl
  have c7 := h.cell 7 _ rfl
  have c8 := h.cell 8 _ rfl
  have z0 := h.free 0
  have z1 := h.free 1
  have z2 := h.free 2
  have z3 := h.free 3
  have z4 := h.free 4
  have z5 := h.free 5
  have z6 := h.free 6
  have z7 := h.free 7
  have z8 := h.free 8
  have H := Aside0.mk h
  clear h
  by_cases hg : gr < 0
  · go_enter Try.func26, Try.ntmps26
    go_wp2_with (go_at_call 47; refine (none_sn (by first | exact H.out | exact H.out.drew | exact H.out.drewN _)).mono ?_; rintro e w' ⟨rfl, rfl⟩)
    go_ret
    exact ⟨_, rfl, ((H.out.set 8 _).set 7 _).set 6 _⟩
  · go_enter Try.func26, Try.ntmps26
    go_wp2_with (go_at_call 47; refine (none_sn (by first | exact H.out | exact H.out.drew | exact H.out.drewN _)).mono ?_; rintro e w' ⟨rfl, rfl⟩)
    go_ret
    exact ⟨_, rfl, ((H.out.set 8 _).set 7 _).set 6 _⟩
end Go.Proofs.Ytmkojmjjlcfohaa.Rg
