/- What has been seen (layer 8): Take; no condition. -/
import Derived.Test.YtmkojmjjlcfohaaSeen3
set_option linter.unusedVariables false
set_option linter.unusedSimpArgs false
namespace Go.Proofs.Ytmkojmjjlcfohaa.Rg
open Go.RowKit Go.Shelf Go.Proofs.YtmkojmjjlcfohaaW.PrintWords Go.Proofs.YtmkojmjjlcfohaaW.PrintLast Go.Proofs.YtmkojmjjlcfohaaW.PrintMore Go.Proofs.Ytmkojmjjlcfohaa.Rw
variable {w0 W W' : World} {gs g : Nat} {dl gr cm nw wt du : Int} {is : Bool}
set_option maxRecDepth 100000 in
set_option maxHeartbeats 2000000 in
theorem came_sn (h : SnB w0 gs g (sn g dl gr cm nw wt du is) W) (bn bs : Nat) (n : Int) (hn0 : 0 ≤ n) (hn1 : n ≤ 65535) (h1 : W.cell? ⟨bn, 0, none⟩ = some (.int .i64 n)) (h2 : W.cell? ⟨bs, 0, none⟩ = some (.pointer (some ⟨gs, 0, none⟩))) :
    Calls Try.prog 48 #[.pointer (some ⟨bn, 0, none⟩), .pointer (some ⟨bs, 0, none⟩)] W fun e w' => ∃ b, e = .returned (.bool b) ∧ Below W.heap.size W w' := by
  have c0 := h.cell 0 _ rfl
  have c1 := h.cell 1 _ rfl
  have c2 := h.cell 2 _ rfl
  have c3 := h.cell 3 _ rfl
  have c4 := h.cell 4 _ rfl
  have c5 := h.cell 5 _ rfl
  have c6 := h.cell 6 _ rfl
  have c7 := h.cell 7 _ rfl
  have c8 := h.cell 8 _ rfl
  have z0 := h.free 0
  have z1 := h.free 1
  have z2 := h.free 2
  have z3 := h.free 3
  have z4 := h.free 4
  have z5 := h.free 5
  have z6 := h.free 6
  have z7 := h.free 7
  have z8 := h.free 8
  have H := Aside0.mk h
  clear h
  go_enter Try.func48, Try.ntmps48
  go_wp2_with fail
  have hlt : ¬ n ≤ -1 := by omega
  go_region_law (go_simp; go_at_call 18; refine (SnB.has (show SnB w0 gs g (sn g dl gr cm nw wt du is) _ from by first | exact H.out | exact H.out.drew | exact H.out.drewN _) n (by omega)).mono ?_; rintro e W1 ⟨b, rfl, hb⟩)
  all_goals
    go_wp2_with fail
    go_ret
    refine ⟨?_, (Below.refl W.heap.size W).drew.trans hb⟩
    cases b
    · exact .inl rfl
    · exact .inr rfl
/-- Inside Take: the state, the boxes of the receiver and of the number. -/
structure Tk (w0 : World) (gs g : Nat) (cs : Array Value) (X : Nat) (n : Int) (W : World) : Prop where
  s : SnB w0 gs g cs W
  b1 : Boxed W X 48 (.pointer (some ⟨gs, 0, none⟩))
  b2 : Boxed W (X + 1) 3 (.int .i64 n)
  n1 : X ≠ gs
  n2 : X + 1 ≠ gs
  n3 : gs ≠ X
  n4 : gs ≠ X + 1
theorem Tk.below {cs : Array Value} {X : Nat} {n : Int} (h : Tk w0 gs g cs X n W) (hb : Below W.heap.size W W') : Tk w0 gs g cs X n W' :=
  ⟨h.s.below hb, (hb.block _ h.b1.lt).trans h.b1, (hb.block _ h.b2.lt).trans h.b2, h.n1, h.n2, h.n3, h.n4⟩
theorem Tk.drewN {cs : Array Value} {X : Nat} {n : Int} (h : Tk w0 gs g cs X n W) (k : Nat) : Tk w0 gs g cs X n (W.drewN k) := h.below (bl_drewN k)
theorem Tk.set {cs : Array Value} {X : Nat} {n : Int} (h : Tk w0 gs g cs X n W) (i : Nat) (v : Value) : Tk w0 gs g (cs.setIfInBounds i v) X n (W.setCell ⟨gs, i, none⟩ v) :=
  ⟨h.s.set i v, (Below.heap_setCell W _ _ X h.n1).trans h.b1, (Below.heap_setCell W _ _ (X + 1) h.n2).trans h.b2, h.n1, h.n2, h.n3, h.n4⟩
theorem Tk.add {cs : Array Value} {X : Nat} {n : Int} (h : Tk w0 gs g cs X n W) (f l : Int) : Calls Try.prog 17 #[.pointer (some ⟨g, 0, none⟩), .int .i64 f, .int .i64 l] W fun e w' => ∃ x, e = .returned (.int .i64 x) ∧ Tk w0 gs g cs X n w' := by
  refine (h.s.add f l).mono ?_
  rintro e w' ⟨x, rfl, hs, _, hk⟩
  exact ⟨x, rfl, hs, (hk _ h.b1.lt ⟨_, _, h.b1, by decide, by decide⟩).trans h.b1, (hk _ h.b2.lt ⟨_, _, h.b2, by decide, by decide⟩).trans h.b2, h.n1, h.n2, h.n3, h.n4⟩
theorem Tk.new {cs : Array Value} (h : SnB w0 gs g cs W) (n : Int) : Tk w0 gs g cs W.heap.size n ((W.alloc (.cells #[.pointer (some ⟨gs, 0, none⟩)] 48)).alloc (.cells #[.int .i64 n] 3)) := by
  have hlt : gs < W.heap.size := by obtain ⟨L, hk, hg, hc⟩ := h; exact (Array.getElem?_eq_some_iff.1 hc).1
  refine ⟨(h.alloc _).alloc _, (Boxed.new W _ _).alloc _, ?_, by omega, by omega, by omega, by omega⟩
  have := Boxed.new (W.alloc (.cells #[.pointer (some ⟨gs, 0, none⟩)] 48)) 3 (.int .i64 n)
  rwa [World.size_alloc] at this
def takeR (w0 : World) (gs g : Nat) (dl gr cm nw wt du : Int) (is : Bool) (el : Bool) (t : Int) (e : Ending) (w' : World) : Prop :=
  ∃ fr gr' cm' wt' du' is', e = .returned (.tuple #[.bool fr, .int .i64 0]) ∧ SnB w0 gs g (sn g dl gr' cm' t wt' du' is') w' ∧ (-1 ≤ gr' ∧ gr' ≤ 65535) ∧ (0 ≤ cm' ∧ cm' ≤ t) ∧ (wt ≤ wt' ∧ wt' ≤ wt + 1) ∧ ((fr && el) = false → is' = is ∧ du' = du) ∧
    ((fr && el) = true → is' = true ∧ ∃ a, (a = t ∨ a = t + dl) ∧ (is = false → du' = a) ∧ (is = true → (du' = a ∧ a < du) ∨ du' = du))
set_option maxRecDepth 100000 in
set_option maxHeartbeats 4000000 in
theorem take_sn (h : SnB w0 gs g (sn g dl gr cm nw wt du is) W) (n : Int) (el : Bool) (t : Int) (hn0 : 0 ≤ n) (hn1 : n ≤ 65535) (ht0 : nw ≤ t) (ht1 : t ≤ 10000) (hd0 : 0 ≤ dl) (hd1 : dl ≤ 1048575) (hw : 0 ≤ nw) (hg0 : -1 ≤ gr) (hg1 : gr ≤ 65535) (hm0 : 0 ≤ cm) (hm1 : cm ≤ nw) (hw0 : 0 ≤ wt) (hw1 : wt ≤ 10000) (hu0 : 0 ≤ du) (hu1 : du ≤ 2000000) :
    Calls Try.prog 24 #[.pointer (some ⟨gs, 0, none⟩), .int .i64 n, .bool el, .int .i64 t] W (takeR w0 gs g dl gr cm nw wt du is el t) := by
  have H := Aside0.mk h
  clear h
  go_enter Try.func24, Try.ntmps24
  go_upto_region 1 with fail
  have m0 := Tk.new H.out n
  generalize (W.alloc (.cells #[.pointer (some ⟨gs, 0, none⟩)] 48)).alloc (.cells #[.int .i64 n] 3) = W1 at m0 ⊢
  generalize W.heap.size = X at m0 ⊢
  have HT := Aside0.mk m0
  clear m0 H
  have c0 := HT.out.s.cell 0 _ rfl
  have c1 := HT.out.s.cell 1 _ rfl
  have c2 := HT.out.s.cell 2 _ rfl
  have c3 := HT.out.s.cell 3 _ rfl
  have c4 := HT.out.s.cell 4 _ rfl
  have c5 := HT.out.s.cell 5 _ rfl
  have c6 := HT.out.s.cell 6 _ rfl
  have c7 := HT.out.s.cell 7 _ rfl
  have c8 := HT.out.s.cell 8 _ rfl
  have z0 := HT.out.s.free 0
  have z1 := HT.out.s.free 1
  have z2 := HT.out.s.free 2
  have z3 := HT.out.s.free 3
  have z4 := HT.out.s.free 4
  have z5 := HT.out.s.free 5
  have z6 := HT.out.s.free 6
  have z7 := HT.out.s.free 7
  have z8 := HT.out.s.free 8
  have b1 := HT.out.b1.cell
  have b2 := HT.out.b2.cell
  have n1 := HT.out.n1
  have n2 := HT.out.n2
  have n3 := HT.out.n3
  have n4 := HT.out.n4
  have t1 : n ≤ 4611686018427387903 := by omega
  go_wp2_with (first
    | (go_at_call 47; refine (none_sn HT.out.s).mono ?_; rintro e w' ⟨rfl, rfl⟩)
    | (go_at_call 46; refine (time_sn t (by omega) (by omega)).mono ?_; rintro e w' ⟨rfl, rfl⟩)
    | (go_at_call 48; refine (came_sn (HT.out.s.set 5 (.int .i64 t)) _ _ n hn0 hn1 (HT.out.set 5 (.int .i64 t)).b2.cell (HT.out.set 5 (.int .i64 t)).b1.cell).mono ?_; rintro e W2 ⟨b, rfl, hb⟩; have m0 := Aside0.mk ((HT.out.set 5 (.int .i64 t)).below hb); clear HT hb; clear c0 z0 c1 z1 c2 z2 c3 z3 c4 z4 c5 z5 c6 z6 c7 z7 c8 z8 b1 b2 n1 n2 n3 n4; have HT : Aside0 (Tk w0 gs g (sn g dl gr cm t wt du is) X n W2) := m0; clear m0; cases b))
  case false =>
    have c0 := HT.out.s.cell 0 _ rfl
    have c1 := HT.out.s.cell 1 _ rfl
    have c2 := HT.out.s.cell 2 _ rfl
    have c3 := HT.out.s.cell 3 _ rfl
    have c4 := HT.out.s.cell 4 _ rfl
    have c5 := HT.out.s.cell 5 _ rfl
    have c6 := HT.out.s.cell 6 _ rfl
    have c7 := HT.out.s.cell 7 _ rfl
    have c8 := HT.out.s.cell 8 _ rfl
    have z0 := HT.out.s.free 0
    have z1 := HT.out.s.free 1
    have z2 := HT.out.s.free 2
    have z3 := HT.out.s.free 3
    have z4 := HT.out.s.free 4
    have z5 := HT.out.s.free 5
    have z6 := HT.out.s.free 6
    have z7 := HT.out.s.free 7
    have z8 := HT.out.s.free 8
    have b1 := HT.out.b1.cell
    have b2 := HT.out.b2.cell
    have n1 := HT.out.n1
    have n2 := HT.out.n2
    have n3 := HT.out.n3
    have n4 := HT.out.n4
    go_upto_region 11 with fail
    go_cut [47] from 41 to 47 (fun c wx => Tk w0 gs g (sn g dl gr cm t wt du is) X n wx)
    case first =>
      go_region_law (go_simp; go_at_call 17; refine (Tk.add (show Tk w0 gs g (sn g dl gr cm t wt du is) X n _ from by first | exact HT.out | exact HT.out.below (Below.refl _ _).drew | exact HT.out.drewN _) n n).mono ?_; rintro e W3 ⟨x, rfl, hs⟩; have HS := Aside0.mk hs; clear hs)
      all_goals
        go_wp2_with fail
        go_meet
        exact HS.out
    case rest =>
      have m0 := Aside0.mk hcut
      clear c0 z0 c1 z1 c2 z2 c3 z3 c4 z4 c5 z5 c6 z6 c7 z7 c8 z8 b1 b2 n1 n2 n3 n4
      clear HT hcut
      have HT := m0
      clear m0
      have c0 := HT.out.s.cell 0 _ rfl
      have c1 := HT.out.s.cell 1 _ rfl
      have c2 := HT.out.s.cell 2 _ rfl
      have c3 := HT.out.s.cell 3 _ rfl
      have c4 := HT.out.s.cell 4 _ rfl
      have c5 := HT.out.s.cell 5 _ rfl
      have c6 := HT.out.s.cell 6 _ rfl
      have c7 := HT.out.s.cell 7 _ rfl
      have c8 := HT.out.s.cell 8 _ rfl
      have z0 := HT.out.s.free 0
      have z1 := HT.out.s.free 1
      have z2 := HT.out.s.free 2
      have z3 := HT.out.s.free 3
      have z4 := HT.out.s.free 4
      have z5 := HT.out.s.free 5
      have z6 := HT.out.s.free 6
      have z7 := HT.out.s.free 7
      have z8 := HT.out.s.free 8
      have b1 := HT.out.b1.cell
      have b2 := HT.out.b2.cell
      have n1 := HT.out.n1
      have n2 := HT.out.n2
      have n3 := HT.out.n3
      have n4 := HT.out.n4
      by_cases hgt : n > gr
      · go_wp2_with fail
        go_quiet (fail)
        go_wp2_with fail
        go_quiet (fail)
        go_upto_region 14 with fail
        go_cut [63] from 61 to 69 (fun c wx => Tk w0 gs g (sn g dl n t t wt du is) X n wx)
        case first =>
          go_region_law (fail)
          all_goals
            go_wp2_with fail
            go_meet
            first
            | exact ((HT.out.drewN _).set 3 _).set 4 _
            | exact (((HT.out.drewN _).set 3 _).set 4 _).drewN _
            | exact (((HT.out.drewN _).set 3 _).set 4 _).below (Below.refl _ _).drew
        case rest =>
          have m0 := Aside0.mk hcut
          clear c0 z0 c1 z1 c2 z2 c3 z3 c4 z4 c5 z5 c6 z6 c7 z7 c8 z8 b1 b2 n1 n2 n3 n4
          clear HT hcut
          have HT := m0
          clear m0
          have c0 := HT.out.s.cell 0 _ rfl
          have c1 := HT.out.s.cell 1 _ rfl
          have c2 := HT.out.s.cell 2 _ rfl
          have c3 := HT.out.s.cell 3 _ rfl
          have c4 := HT.out.s.cell 4 _ rfl
          have c5 := HT.out.s.cell 5 _ rfl
          have c6 := HT.out.s.cell 6 _ rfl
          have c7 := HT.out.s.cell 7 _ rfl
          have c8 := HT.out.s.cell 8 _ rfl
          have z0 := HT.out.s.free 0
          have z1 := HT.out.s.free 1
          have z2 := HT.out.s.free 2
          have z3 := HT.out.s.free 3
          have z4 := HT.out.s.free 4
          have z5 := HT.out.s.free 5
          have z6 := HT.out.s.free 6
          have z7 := HT.out.s.free 7
          have z8 := HT.out.s.free 8
          have b1 := HT.out.b1.cell
          have b2 := HT.out.b2.cell
          have n1 := HT.out.n1
          have n2 := HT.out.n2
          have n3 := HT.out.n3
          have n4 := HT.out.n4
          cases el
          · go_wp2_with fail
            go_ret2
            exact ⟨true, n, t, wt, du, is, rfl, HT.out.s, ⟨by omega, by omega⟩, ⟨by omega, by omega⟩, ⟨by omega, by omega⟩, (fun _ => ⟨rfl, rfl⟩), (fun h => by simp at h)⟩
          · go_wp2_with (go_at_call 49; refine (wait_sn HT.out.s _ hd0 hd1 (by omega) ht1 hw0 hw1 hu0 hu1).mono ?_; rintro e W5 ⟨a, du', ⟨x, rfl⟩, ha, hb1, hb2, hs⟩; have HS := Aside0.mk hs; have HA := Aside0.mk ha; have HB1 := Aside0.mk hb1; have HB2 := Aside0.mk hb2; clear hs ha hb1 hb2)
            go_ret2
            exact ⟨true, n, t, wt + 1, du', true, rfl, HS.out, ⟨by omega, by omega⟩, ⟨by omega, by omega⟩, ⟨by omega, by omega⟩, (fun h => by simp at h), (fun _ => ⟨rfl, a, HA.out, HB1.out, HB2.out⟩)⟩
      · go_wp2_with fail
        go_quiet (fail)
        go_wp2_with fail
        go_quiet (fail)
        cases el
        · go_wp2_with fail
          go_ret2
          exact ⟨true, gr, cm, wt, du, is, rfl, (by first | exact HT.out.s.drewN _ | exact (HT.out.s.drewN _).drewN _), ⟨by omega, by omega⟩, ⟨by omega, by omega⟩, ⟨by omega, by omega⟩, (fun _ => ⟨rfl, rfl⟩), (fun h => by simp at h)⟩
        · go_wp2_with (go_at_call 49; refine (wait_sn (HT.out.s.drewN _) _ hd0 hd1 (by omega) ht1 hw0 hw1 hu0 hu1).mono ?_; rintro e W5 ⟨a, du', ⟨x, rfl⟩, ha, hb1, hb2, hs⟩; have HS := Aside0.mk hs; have HA := Aside0.mk ha; have HB1 := Aside0.mk hb1; have HB2 := Aside0.mk hb2; clear hs ha hb1 hb2)
          go_ret2
          exact ⟨true, gr, cm, wt + 1, du', true, rfl, HS.out, ⟨by omega, by omega⟩, ⟨by omega, by omega⟩, ⟨by omega, by omega⟩, (fun h => by simp at h), (fun _ => ⟨rfl, a, HA.out, HB1.out, HB2.out⟩)⟩
  go_ret2
  exact ⟨false, gr, cm, wt, du, is, rfl, HT.out.s, ⟨hg0, hg1⟩, ⟨hm0, by omega⟩, ⟨by omega, by omega⟩, fun _ => ⟨rfl, rfl⟩, fun h => by simp at h⟩
end Go.Proofs.Ytmkojmjjlcfohaa.Rg
