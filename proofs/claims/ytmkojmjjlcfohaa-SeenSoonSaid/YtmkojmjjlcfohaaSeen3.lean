/- What has been seen (layer 8): wait; no condition. -/
import Derived.Test.YtmkojmjjlcfohaaSeen2
set_option linter.unusedVariables false
set_option linter.unusedSimpArgs false
namespace Go.Proofs.Ytmkojmjjlcfohaa.Rg
open Go.RowKit Go.Shelf Go.Proofs.YtmkojmjjlcfohaaW.PrintWords Go.Proofs.YtmkojmjjlcfohaaW.PrintLast Go.Proofs.YtmkojmjjlcfohaaW.PrintMore Go.Proofs.Ytmkojmjjlcfohaa.Rw
variable {w0 W W' : World} {gs g : Nat} {dl gr cm nw wt du : Int} {is : Bool}
set_option maxRecDepth 100000 in
set_option maxHeartbeats 2000000 in
theorem wait_sn (h : SnB w0 gs g (sn g dl gr cm nw wt du is) W) (io : Bool) (hd0 : 0 ≤ dl) (hd1 : dl ≤ 1048575) (hn0 : 0 ≤ nw) (hn1 : nw ≤ 10000) (hw0 : 0 ≤ wt) (hw1 : wt ≤ 10000) (hu0 : 0 ≤ du) (hu1 : du ≤ 2000000) :
    Calls Try.prog 49 #[.pointer (some ⟨gs, 0, none⟩), .bool io] W fun e w' => ∃ at_ du', (∃ x, e = .returned x) ∧ (at_ = nw ∨ at_ = nw + dl) ∧ (is = false → du' = at_) ∧ (is = true → (du' = at_ ∧ at_ < du) ∨ du' = du) ∧ SnB w0 gs g (sn g dl gr cm nw (wt + 1) du' true) w' := by
  have c0 := h.cell 0 _ rfl
  have c1 := h.cell 1 _ rfl
  have c2 := h.cell 2 _ rfl
  have c3 := h.cell 3 _ rfl
  have c4 := h.cell 4 _ rfl
  have c5 := h.cell 5 _ rfl
  have c6 := h.cell 6 _ rfl
  have c7 := h.cell 7 _ rfl
  have c8 := h.cell 8 _ rfl
  have z0 := h.free 0
  have z1 := h.free 1
  have z2 := h.free 2
  have z3 := h.free 3
  have z4 := h.free 4
  have z5 := h.free 5
  have z6 := h.free 6
  have z7 := h.free 7
  have z8 := h.free 8
  have H := Aside0.mk h
  clear h
  by_cases hw : wt + 1 > 1
  · have hw' : 1 < wt + 1 := by omega
    cases io
    · cases is
      · go_enter Try.func49, Try.ntmps49
        go_wp2_with fail
        have n0 : SnB w0 gs g (sn g dl gr cm nw (wt + 1) du false) (W.setCell ⟨gs, 6, none⟩ (.int .i64 (wt + 1))) := H.out.set 6 (.int .i64 (wt + 1))
        generalize W.setCell ⟨gs, 6, none⟩ (.int .i64 (wt + 1)) = W1 at n0 ⊢
        have H1 := Aside0.mk n0
        clear n0 c0 z0 c1 z1 c2 z2 c3 z3 c4 z4 c5 z5 c6 z6 c7 z7 c8 z8
        have c0 := H1.out.cell 0 _ rfl
        have c1 := H1.out.cell 1 _ rfl
        have c2 := H1.out.cell 2 _ rfl
        have c3 := H1.out.cell 3 _ rfl
        have c4 := H1.out.cell 4 _ rfl
        have c5 := H1.out.cell 5 _ rfl
        have c6 := H1.out.cell 6 _ rfl
        have c7 := H1.out.cell 7 _ rfl
        have c8 := H1.out.cell 8 _ rfl
        have z0 := H1.out.free 0
        have z1 := H1.out.free 1
        have z2 := H1.out.free 2
        have z3 := H1.out.free 3
        have z4 := H1.out.free 4
        have z5 := H1.out.free 5
        have z6 := H1.out.free 6
        have z7 := H1.out.free 7
        have z8 := H1.out.free 8
        go_quiet (fail)
        go_wp2_with fail
        go_end0
        exact ⟨nw, nw, ⟨_, rfl⟩, by simp, (fun _ => rfl), (fun h => by cases h), ((H1.out.drewN _).set 8 _).set 7 _⟩
      · by_cases hlt : nw < du
        · go_enter Try.func49, Try.ntmps49
          go_wp2_with fail
          have n0 : SnB w0 gs g (sn g dl gr cm nw (wt + 1) du true) (W.setCell ⟨gs, 6, none⟩ (.int .i64 (wt + 1))) := H.out.set 6 (.int .i64 (wt + 1))
          generalize W.setCell ⟨gs, 6, none⟩ (.int .i64 (wt + 1)) = W1 at n0 ⊢
          have H1 := Aside0.mk n0
          clear n0 c0 z0 c1 z1 c2 z2 c3 z3 c4 z4 c5 z5 c6 z6 c7 z7 c8 z8
          have c0 := H1.out.cell 0 _ rfl
          have c1 := H1.out.cell 1 _ rfl
          have c2 := H1.out.cell 2 _ rfl
          have c3 := H1.out.cell 3 _ rfl
          have c4 := H1.out.cell 4 _ rfl
          have c5 := H1.out.cell 5 _ rfl
          have c6 := H1.out.cell 6 _ rfl
          have c7 := H1.out.cell 7 _ rfl
          have c8 := H1.out.cell 8 _ rfl
          have z0 := H1.out.free 0
          have z1 := H1.out.free 1
          have z2 := H1.out.free 2
          have z3 := H1.out.free 3
          have z4 := H1.out.free 4
          have z5 := H1.out.free 5
          have z6 := H1.out.free 6
          have z7 := H1.out.free 7
          have z8 := H1.out.free 8
          go_quiet (fail)
          go_wp2_with fail
          go_end0
          exact ⟨nw, nw, ⟨_, rfl⟩, by simp, (fun h => by cases h), (fun _ => .inl ⟨rfl, hlt⟩), ((H1.out.drewN _).set 8 _).set 7 _⟩
        · go_enter Try.func49, Try.ntmps49
          go_wp2_with fail
          have n0 : SnB w0 gs g (sn g dl gr cm nw (wt + 1) du true) (W.setCell ⟨gs, 6, none⟩ (.int .i64 (wt + 1))) := H.out.set 6 (.int .i64 (wt + 1))
          generalize W.setCell ⟨gs, 6, none⟩ (.int .i64 (wt + 1)) = W1 at n0 ⊢
          have H1 := Aside0.mk n0
          clear n0 c0 z0 c1 z1 c2 z2 c3 z3 c4 z4 c5 z5 c6 z6 c7 z7 c8 z8
          have c0 := H1.out.cell 0 _ rfl
          have c1 := H1.out.cell 1 _ rfl
          have c2 := H1.out.cell 2 _ rfl
          have c3 := H1.out.cell 3 _ rfl
          have c4 := H1.out.cell 4 _ rfl
          have c5 := H1.out.cell 5 _ rfl
          have c6 := H1.out.cell 6 _ rfl
          have c7 := H1.out.cell 7 _ rfl
          have c8 := H1.out.cell 8 _ rfl
          have z0 := H1.out.free 0
          have z1 := H1.out.free 1
          have z2 := H1.out.free 2
          have z3 := H1.out.free 3
          have z4 := H1.out.free 4
          have z5 := H1.out.free 5
          have z6 := H1.out.free 6
          have z7 := H1.out.free 7
          have z8 := H1.out.free 8
          go_quiet (fail)
          go_wp2_with fail
          go_end0
          exact ⟨nw, du, ⟨_, rfl⟩, by simp, (fun h => by cases h), (fun _ => .inr rfl), H1.out.drewN _⟩
    · cases is
      · go_enter Try.func49, Try.ntmps49
        go_wp2_with fail
        have n0 : SnB w0 gs g (sn g dl gr cm nw (wt + 1) du false) (W.setCell ⟨gs, 6, none⟩ (.int .i64 (wt + 1))) := H.out.set 6 (.int .i64 (wt + 1))
        generalize W.setCell ⟨gs, 6, none⟩ (.int .i64 (wt + 1)) = W1 at n0 ⊢
        have H1 := Aside0.mk n0
        clear n0 c0 z0 c1 z1 c2 z2 c3 z3 c4 z4 c5 z5 c6 z6 c7 z7 c8 z8
        have c0 := H1.out.cell 0 _ rfl
        have c1 := H1.out.cell 1 _ rfl
        have c2 := H1.out.cell 2 _ rfl
        have c3 := H1.out.cell 3 _ rfl
        have c4 := H1.out.cell 4 _ rfl
        have c5 := H1.out.cell 5 _ rfl
        have c6 := H1.out.cell 6 _ rfl
        have c7 := H1.out.cell 7 _ rfl
        have c8 := H1.out.cell 8 _ rfl
        have z0 := H1.out.free 0
        have z1 := H1.out.free 1
        have z2 := H1.out.free 2
        have z3 := H1.out.free 3
        have z4 := H1.out.free 4
        have z5 := H1.out.free 5
        have z6 := H1.out.free 6
        have z7 := H1.out.free 7
        have z8 := H1.out.free 8
        go_quiet (fail)
        go_wp2_with fail
        go_end0
        exact ⟨nw, nw, ⟨_, rfl⟩, by simp, (fun _ => rfl), (fun h => by cases h), ((H1.out.drewN _).set 8 _).set 7 _⟩
      · by_cases hlt : nw < du
        · go_enter Try.func49, Try.ntmps49
          go_wp2_with fail
          have n0 : SnB w0 gs g (sn g dl gr cm nw (wt + 1) du true) (W.setCell ⟨gs, 6, none⟩ (.int .i64 (wt + 1))) := H.out.set 6 (.int .i64 (wt + 1))
          generalize W.setCell ⟨gs, 6, none⟩ (.int .i64 (wt + 1)) = W1 at n0 ⊢
          have H1 := Aside0.mk n0
          clear n0 c0 z0 c1 z1 c2 z2 c3 z3 c4 z4 c5 z5 c6 z6 c7 z7 c8 z8
          have c0 := H1.out.cell 0 _ rfl
          have c1 := H1.out.cell 1 _ rfl
          have c2 := H1.out.cell 2 _ rfl
          have c3 := H1.out.cell 3 _ rfl
          have c4 := H1.out.cell 4 _ rfl
          have c5 := H1.out.cell 5 _ rfl
          have c6 := H1.out.cell 6 _ rfl
          have c7 := H1.out.cell 7 _ rfl
          have c8 := H1.out.cell 8 _ rfl
          have z0 := H1.out.free 0
          have z1 := H1.out.free 1
          have z2 := H1.out.free 2
          have z3 := H1.out.free 3
          have z4 := H1.out.free 4
          have z5 := H1.out.free 5
          have z6 := H1.out.free 6
          have z7 := H1.out.free 7
          have z8 := H1.out.free 8
          go_quiet (fail)
          go_wp2_with fail
          go_end0
          exact ⟨nw, nw, ⟨_, rfl⟩, by simp, (fun h => by cases h), (fun _ => .inl ⟨rfl, hlt⟩), ((H1.out.drewN _).set 8 _).set 7 _⟩
        · go_enter Try.func49, Try.ntmps49
          go_wp2_with fail
          have n0 : SnB w0 gs g (sn g dl gr cm nw (wt + 1) du true) (W.setCell ⟨gs, 6, none⟩ (.int .i64 (wt + 1))) := H.out.set 6 (.int .i64 (wt + 1))
          generalize W.setCell ⟨gs, 6, none⟩ (.int .i64 (wt + 1)) = W1 at n0 ⊢
          have H1 := Aside0.mk n0
          clear n0 c0 z0 c1 z1 c2 z2 c3 z3 c4 z4 c5 z5 c6 z6 c7 z7 c8 z8
          have c0 := H1.out.cell 0 _ rfl
          have c1 := H1.out.cell 1 _ rfl
          have c2 := H1.out.cell 2 _ rfl
          have c3 := H1.out.cell 3 _ rfl
          have c4 := H1.out.cell 4 _ rfl
          have c5 := H1.out.cell 5 _ rfl
          have c6 := H1.out.cell 6 _ rfl
          have c7 := H1.out.cell 7 _ rfl
          have c8 := H1.out.cell 8 _ rfl
          have z0 := H1.out.free 0
          have z1 := H1.out.free 1
          have z2 := H1.out.free 2
          have z3 := H1.out.free 3
          have z4 := H1.out.free 4
          have z5 := H1.out.free 5
          have z6 := H1.out.free 6
          have z7 := H1.out.free 7
          have z8 := H1.out.free 8
          go_quiet (fail)
          go_wp2_with fail
          go_end0
          exact ⟨nw, du, ⟨_, rfl⟩, by simp, (fun h => by cases h), (fun _ => .inr rfl), H1.out.drewN _⟩
  · have hw' : wt + 1 ≤ 1 := by omega
    cases io
    · cases is
      · go_enter Try.func49, Try.ntmps49
        go_wp2_with fail
        have n0 : SnB w0 gs g (sn g dl gr cm nw (wt + 1) du false) (W.setCell ⟨gs, 6, none⟩ (.int .i64 (wt + 1))) := H.out.set 6 (.int .i64 (wt + 1))
        generalize W.setCell ⟨gs, 6, none⟩ (.int .i64 (wt + 1)) = W1 at n0 ⊢
        have H1 := Aside0.mk n0
        clear n0 c0 z0 c1 z1 c2 z2 c3 z3 c4 z4 c5 z5 c6 z6 c7 z7 c8 z8
        have c0 := H1.out.cell 0 _ rfl
        have c1 := H1.out.cell 1 _ rfl
        have c2 := H1.out.cell 2 _ rfl
        have c3 := H1.out.cell 3 _ rfl
        have c4 := H1.out.cell 4 _ rfl
        have c5 := H1.out.cell 5 _ rfl
        have c6 := H1.out.cell 6 _ rfl
        have c7 := H1.out.cell 7 _ rfl
        have c8 := H1.out.cell 8 _ rfl
        have z0 := H1.out.free 0
        have z1 := H1.out.free 1
        have z2 := H1.out.free 2
        have z3 := H1.out.free 3
        have z4 := H1.out.free 4
        have z5 := H1.out.free 5
        have z6 := H1.out.free 6
        have z7 := H1.out.free 7
        have z8 := H1.out.free 8
        go_quiet (fail)
        go_wp2_with fail
        go_end0
        exact ⟨nw, nw, ⟨_, rfl⟩, by simp, (fun _ => rfl), (fun h => by cases h), ((H1.out.drewN _).set 8 _).set 7 _⟩
      · by_cases hlt : nw < du
        · go_enter Try.func49, Try.ntmps49
          go_wp2_with fail
          have n0 : SnB w0 gs g (sn g dl gr cm nw (wt + 1) du true) (W.setCell ⟨gs, 6, none⟩ (.int .i64 (wt + 1))) := H.out.set 6 (.int .i64 (wt + 1))
          generalize W.setCell ⟨gs, 6, none⟩ (.int .i64 (wt + 1)) = W1 at n0 ⊢
          have H1 := Aside0.mk n0
          clear n0 c0 z0 c1 z1 c2 z2 c3 z3 c4 z4 c5 z5 c6 z6 c7 z7 c8 z8
          have c0 := H1.out.cell 0 _ rfl
          have c1 := H1.out.cell 1 _ rfl
          have c2 := H1.out.cell 2 _ rfl
          have c3 := H1.out.cell 3 _ rfl
          have c4 := H1.out.cell 4 _ rfl
          have c5 := H1.out.cell 5 _ rfl
          have c6 := H1.out.cell 6 _ rfl
          have c7 := H1.out.cell 7 _ rfl
          have c8 := H1.out.cell 8 _ rfl
          have z0 := H1.out.free 0
          have z1 := H1.out.free 1
          have z2 := H1.out.free 2
          have z3 := H1.out.free 3
          have z4 := H1.out.free 4
          have z5 := H1.out.free 5
          have z6 := H1.out.free 6
          have z7 := H1.out.free 7
          have z8 := H1.out.free 8
          go_quiet (fail)
          go_wp2_with fail
          go_end0
          exact ⟨nw, nw, ⟨_, rfl⟩, by simp, (fun h => by cases h), (fun _ => .inl ⟨rfl, hlt⟩), ((H1.out.drewN _).set 8 _).set 7 _⟩
        · go_enter Try.func49, Try.ntmps49
          go_wp2_with fail
          have n0 : SnB w0 gs g (sn g dl gr cm nw (wt + 1) du true) (W.setCell ⟨gs, 6, none⟩ (.int .i64 (wt + 1))) := H.out.set 6 (.int .i64 (wt + 1))
          generalize W.setCell ⟨gs, 6, none⟩ (.int .i64 (wt + 1)) = W1 at n0 ⊢
          have H1 := Aside0.mk n0
          clear n0 c0 z0 c1 z1 c2 z2 c3 z3 c4 z4 c5 z5 c6 z6 c7 z7 c8 z8
          have c0 := H1.out.cell 0 _ rfl
          have c1 := H1.out.cell 1 _ rfl
          have c2 := H1.out.cell 2 _ rfl
          have c3 := H1.out.cell 3 _ rfl
          have c4 := H1.out.cell 4 _ rfl
          have c5 := H1.out.cell 5 _ rfl
          have c6 := H1.out.cell 6 _ rfl
          have c7 := H1.out.cell 7 _ rfl
          have c8 := H1.out.cell 8 _ rfl
          have z0 := H1.out.free 0
          have z1 := H1.out.free 1
          have z2 := H1.out.free 2
          have z3 := H1.out.free 3
          have z4 := H1.out.free 4
          have z5 := H1.out.free 5
          have z6 := H1.out.free 6
          have z7 := H1.out.free 7
          have z8 := H1.out.free 8
          go_quiet (fail)
          go_wp2_with fail
          go_end0
          exact ⟨nw, du, ⟨_, rfl⟩, by simp, (fun h => by cases h), (fun _ => .inr rfl), H1.out.drewN _⟩
    · cases is
      · go_enter Try.func49, Try.ntmps49
        go_wp2_with fail
        have n0 : SnB w0 gs g (sn g dl gr cm nw (wt + 1) du false) (W.setCell ⟨gs, 6, none⟩ (.int .i64 (wt + 1))) := H.out.set 6 (.int .i64 (wt + 1))
        generalize W.setCell ⟨gs, 6, none⟩ (.int .i64 (wt + 1)) = W1 at n0 ⊢
        have H1 := Aside0.mk n0
        clear n0 c0 z0 c1 z1 c2 z2 c3 z3 c4 z4 c5 z5 c6 z6 c7 z7 c8 z8
        have c0 := H1.out.cell 0 _ rfl
        have c1 := H1.out.cell 1 _ rfl
        have c2 := H1.out.cell 2 _ rfl
        have c3 := H1.out.cell 3 _ rfl
        have c4 := H1.out.cell 4 _ rfl
        have c5 := H1.out.cell 5 _ rfl
        have c6 := H1.out.cell 6 _ rfl
        have c7 := H1.out.cell 7 _ rfl
        have c8 := H1.out.cell 8 _ rfl
        have z0 := H1.out.free 0
        have z1 := H1.out.free 1
        have z2 := H1.out.free 2
        have z3 := H1.out.free 3
        have z4 := H1.out.free 4
        have z5 := H1.out.free 5
        have z6 := H1.out.free 6
        have z7 := H1.out.free 7
        have z8 := H1.out.free 8
        go_quiet (fail)
        go_wp2_with fail
        go_end0
        exact ⟨(nw + dl), (nw + dl), ⟨_, rfl⟩, by simp, (fun _ => rfl), (fun h => by cases h), ((H1.out.drewN _).set 8 _).set 7 _⟩
      · by_cases hlt : (nw + dl) < du
        · go_enter Try.func49, Try.ntmps49
          go_wp2_with fail
          have n0 : SnB w0 gs g (sn g dl gr cm nw (wt + 1) du true) (W.setCell ⟨gs, 6, none⟩ (.int .i64 (wt + 1))) := H.out.set 6 (.int .i64 (wt + 1))
          generalize W.setCell ⟨gs, 6, none⟩ (.int .i64 (wt + 1)) = W1 at n0 ⊢
          have H1 := Aside0.mk n0
          clear n0 c0 z0 c1 z1 c2 z2 c3 z3 c4 z4 c5 z5 c6 z6 c7 z7 c8 z8
          have c0 := H1.out.cell 0 _ rfl
          have c1 := H1.out.cell 1 _ rfl
          have c2 := H1.out.cell 2 _ rfl
          have c3 := H1.out.cell 3 _ rfl
          have c4 := H1.out.cell 4 _ rfl
          have c5 := H1.out.cell 5 _ rfl
          have c6 := H1.out.cell 6 _ rfl
          have c7 := H1.out.cell 7 _ rfl
          have c8 := H1.out.cell 8 _ rfl
          have z0 := H1.out.free 0
          have z1 := H1.out.free 1
          have z2 := H1.out.free 2
          have z3 := H1.out.free 3
          have z4 := H1.out.free 4
          have z5 := H1.out.free 5
          have z6 := H1.out.free 6
          have z7 := H1.out.free 7
          have z8 := H1.out.free 8
          go_quiet (fail)
          go_wp2_with fail
          go_end0
          exact ⟨(nw + dl), (nw + dl), ⟨_, rfl⟩, by simp, (fun h => by cases h), (fun _ => .inl ⟨rfl, hlt⟩), ((H1.out.drewN _).set 8 _).set 7 _⟩
        · go_enter Try.func49, Try.ntmps49
          go_wp2_with fail
          have n0 : SnB w0 gs g (sn g dl gr cm nw (wt + 1) du true) (W.setCell ⟨gs, 6, none⟩ (.int .i64 (wt + 1))) := H.out.set 6 (.int .i64 (wt + 1))
          generalize W.setCell ⟨gs, 6, none⟩ (.int .i64 (wt + 1)) = W1 at n0 ⊢
          have H1 := Aside0.mk n0
          clear n0 c0 z0 c1 z1 c2 z2 c3 z3 c4 z4 c5 z5 c6 z6 c7 z7 c8 z8
          have c0 := H1.out.cell 0 _ rfl
          have c1 := H1.out.cell 1 _ rfl
          have c2 := H1.out.cell 2 _ rfl
          have c3 := H1.out.cell 3 _ rfl
          have c4 := H1.out.cell 4 _ rfl
          have c5 := H1.out.cell 5 _ rfl
          have c6 := H1.out.cell 6 _ rfl
          have c7 := H1.out.cell 7 _ rfl
          have c8 := H1.out.cell 8 _ rfl
          have z0 := H1.out.free 0
          have z1 := H1.out.free 1
          have z2 := H1.out.free 2
          have z3 := H1.out.free 3
          have z4 := H1.out.free 4
          have z5 := H1.out.free 5
          have z6 := H1.out.free 6
          have z7 := H1.out.free 7
          have z8 := H1.out.free 8
          go_quiet (fail)
          go_wp2_with fail
          go_end0
          exact ⟨(nw + dl), du, ⟨_, rfl⟩, by simp, (fun h => by cases h), (fun _ => .inr rfl), H1.out.drewN _⟩
end Go.Proofs.Ytmkojmjjlcfohaa.Rg
