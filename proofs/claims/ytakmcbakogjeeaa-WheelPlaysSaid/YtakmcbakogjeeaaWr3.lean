/- The document's wheel (layer 25): Pass; no condition. -/
import Derived.Test.YtakmcbakogjeeaaWr2
set_option linter.unusedVariables false
set_option linter.unusedSimpArgs false
namespace Go.Proofs.Ytakmcbakogjeeaa.Wr
open Go Go.RowKit Go.Maps Go.Proofs.Ytakmcbakogjeeaa.Rm Go.Proofs.Ytakmcbakogjeeaa.Rw Go.Proofs.Ytakmcbakogjeeaa.Wh
open Go.Proofs.YtakmcbakogjeeaaW.PrintWords Go.Proofs.YtakmcbakogjeeaaW.PrintLast Go.Proofs.YtakmcbakogjeeaaW.PrintMore
variable {W W' W0 W2 : World} {b g : Nat} {now nw : Int} {L l l2 : List Tm} {v v2 ov : Value} {ks : List Int}
theorem due_cut {nw : Int} : ∀ {L : List Tm}, L.Pairwise lt → L = dueL nw L ++ Wh.ahead nw L
  | [], _ => rfl
  | t :: l, h => by
    obtain ⟨h1, h2⟩ := List.pairwise_cons.1 h
    by_cases ht : t.2 ≤ nw
    · have e1 : dueL nw (t :: l) = t :: dueL nw l := by unfold dueL; rw [List.filter_cons, if_pos (by simpa using ht)]
      have e2 : Wh.ahead nw (t :: l) = Wh.ahead nw l := by unfold Wh.ahead; rw [List.filter_cons, if_neg (by simp; omega)]
      rw [e1, e2, List.cons_append, ← due_cut h2]
    · have e1 : dueL nw (t :: l) = [] := List.filter_eq_nil_iff.2 (fun x hx => by
        rcases List.mem_cons.1 hx with rfl | hx
        · simpa using ht
        · have := h1 x hx
          unfold lt at this
          simp
          omega)
      have e2 : Wh.ahead nw (t :: l) = t :: l := List.filter_eq_self.2 (fun x hx => by
        rcases List.mem_cons.1 hx with rfl | hx
        · simp; omega
        · have := h1 x hx
          unfold lt at this
          simp
          omega)
      rw [e1, e2, List.nil_append]
theorem ints_base (hi : IntsAt W b ov ks) (k : Nat) (hk : ov.ownBlock = some k) : b ≤ k ∧ ∃ cs, W.heap[k]? = some (.cells cs 3 (0, 0)) := by
  refine ⟨?_, own_typed hi k hk⟩
  rcases hi.2 with ⟨e, _⟩ | ⟨g', c, cur, e, hbb, _⟩ <;> rw [e] at hk <;> simp [Value.ownBlock] at hk
  omega
theorem RwAt.ints {b2 : Nat} (h : RwAt W b g now v L) (hi : IntsAt W b2 ov ks) (hg : W.grownBy W' ov.ownBlock) : RwAt W' b g now v L := by
  refine h.move (fun k hk => hg.block k ?_ (fun e => ?_))
  · rcases hk with rfl | hk
    · exact h.lt
    · exact wr_lt h.row k hk
  · obtain ⟨_, cs, hc⟩ := ints_base hi k e.symm
    rcases hk with rfl | hk
    · rw [h.blk] at hc
      injection hc with hc
      injection hc with _ hc
      exact absurd hc (by decide)
    · obtain ⟨_, cs2, hc2⟩ := wr_typed h.row k hk
      rw [hc2] at hc
      injection hc with hc
      injection hc with _ hc
      exact absurd hc (by decide)
theorem Rk.ints (h : Rk W0 W b) (hb : b ≤ W0.heap.size) (hi : IntsAt W W0.heap.size ov ks) (hg : W.grownBy W' ov.ownBlock) : Rk W0 W' b := by
  have hk : ∀ k, k < W0.heap.size → W'.heap[k]? = W.heap[k]? := fun k hk => hg.block k (Nat.lt_of_lt_of_le hk h.bel.size) (fun e => by have := (ints_base hi k e.symm).1; omega)
  exact ⟨h.bel.trans ⟨hg.os, hg.tape, hg.output, hg.size, fun k hkb => hk k (by omega)⟩, fun k cs t z hx a1 a2 => (hk k (Array.getElem?_eq_some_iff.1 hx).1).trans (h.kt k cs t z hx a1 a2), fun k es c hx => (hk k (Array.getElem?_eq_some_iff.1 hx).1).trans (h.mp k es c hx)⟩
theorem ints_put {b2 i : Nat} {u : Value} (h : RwAt W b g now v L) (hi : IntsAt W b2 ov ks) : IntsAt (W.setCell ⟨g, i, none⟩ u) b2 ov ks := ints_move hi (fun k cs t z hk ht => (Below.heap_setCell W ⟨g, i, none⟩ _ k (fun e => by
  rw [e, h.blk] at hk
  injection hk with hk
  injection hk with _ hk
  rw [← hk] at ht
  exact absurd ht (by decide))).trans hk)
/-- The passing under way: i timers are told. -/
def PassR (W0 : World) (b g : Nat) (nw : Int) (L : List Tm) (ov : Value) (W : World) : Prop :=
  ∃ (i : Nat) (G : Option Addr) (c : Nat) (v : Value), i ≤ (dueL nw L).length ∧ ov = .slice G i c ∧ RwAt W b g nw v (L.drop i) ∧ IntsAt W W0.heap.size (.slice G i c) (((dueL nw L).take i).map (·.1)) ∧ Rk W0 W b
def lenV : Value → Nat
  | .slice _ n _ => n
  | _ => 0
theorem due_len : (dueL nw L).length ≤ L.length := List.length_filter_le _ _
/-- One round: the first is told and cut off. -/
theorem pass_step {i : Nat} {G A : Option Addr} {c ca : Nat} {t : Tm} {B : List Tm} (hB : L.drop i = t :: B) (ht : (dueL nw L)[i]? = some t) (hb : b ≤ W0.heap.size) (hl : L.length ≤ 65536)
    (h : RwAt W b g nw (.slice A (B.length + 1) ca) (t :: B)) (hi : IntsAt W W0.heap.size (.slice G i c) (((dueL nw L).take i).map (·.1))) (hk : Rk W0 W b) : ∃ G2 c2 w1 A2 c3,
    (∀ ty, (Builtin.append_ #[34, 34] ty #[.slice G i c, .slice (some ⟨W.heap.size, 0, none⟩) 1 1]).run Try.prog (W.alloc (.cells #[.int .i64 t.1] 3)) = .ok (.slice G2 (i + 1) c2) w1) ∧
    w1.cell? ⟨g, 1, none⟩ = some (.slice A (B.length + 1) ca) ∧ w1.frozen? ⟨g, 1, none⟩ = false ∧
    (∀ W', (Instr.slice 85 (.slice A (B.length + 1) ca) (some (.int .i64 1)) none none).run Try.prog W' = .ok (.slice A2 B.length c3) W') ∧
    PassR W0 b g nw L (.slice G2 (i + 1) c2) (w1.setCell ⟨g, 1, none⟩ (.slice A2 B.length c3)) := by
  have hil : i < (dueL nw L).length := (List.getElem?_eq_some_iff.1 ht).1
  have hdl := due_len (nw := nw) (L := L)
  have hlen : (((dueL nw L).take i).map (·.1)).length = i := by rw [List.length_map, List.length_take]; omega
  obtain ⟨G2, c2, w1, k1, k2, k3⟩ := run_addi hi hk.bel.size (by omega) t.1
  rw [hlen] at k1 k2
  have hr : RdAt W b (.slice A (t :: B).length ca) (t :: B) := h.row
  have hw1 := h.ints hi k3
  have hr1 : RdAt w1 b (.slice A (t :: B).length ca) (t :: B) := hw1.row
  obtain ⟨A2, c3, s1, s2⟩ := rd_from hr1 (i := 1) (by simp)
  have e1 : (t :: B).length - 1 = B.length := by simp
  rw [e1] at s1 s2
  refine ⟨G2, c2, w1, A2, c3, k1, hw1.c.2, hw1.free 1, fun W' => s1 W', ?_⟩
  have hrk1 := hk.ints hb hi k3
  have hrow : IntsAt w1 W0.heap.size (.slice G2 (i + 1) c2) (((dueL nw L).take (i + 1)).map (·.1)) := by
    rw [take_snoc ht, List.map_append]
    exact k2
  refine ⟨i + 1, G2, c2, .slice A2 B.length c3, hil, rfl, ?_, ints_put hw1 hrow, hrk1.trans (Rk.of_set hw1)⟩
  have e2 : L.drop (i + 1) = B := by rw [← List.drop_drop, hB]; rfl
  rw [e2]
  exact hw1.put (by simpa using s2)
theorem drop_due {nw : Int} {L : List Tm} (hm : L.Pairwise lt) {i : Nat} (hi : i < (dueL nw L).length) : ∃ t B, L.drop i = t :: B ∧ (dueL nw L)[i]? = some t ∧ t.2 ≤ nw := by
  obtain ⟨t, ht⟩ : ∃ t, (dueL nw L)[i]? = some t := ⟨_, List.getElem?_eq_getElem hi⟩
  have hL : L[i]? = some t := by rw [due_cut hm (nw := nw), List.getElem?_append_left hi, ht]
  exact ⟨t, _, drop_cons hL, ht, by simpa using (List.mem_filter.1 (List.mem_of_getElem? ht)).2⟩
theorem drop_end {nw : Int} {L : List Tm} (hm : L.Pairwise lt) : L.drop (dueL nw L).length = Wh.ahead nw L := by
  conv => lhs; rw [due_cut hm (nw := nw)]
  rw [List.drop_append_of_le_length (by rw [← due_cut hm]; exact Nat.le_refl _)]
  rw [← due_cut hm]
  simp
set_option maxRecDepth 100000 in
set_option maxHeartbeats 1600000 in
theorem pass_r (h : RwAt W b g now v L) (hbw : b ≤ W.heap.size) (hm : Tms L) (hl : L.length ≤ 65536) (h0 : 0 ≤ nw) (h1 : nw ≤ 1125899906842624) (hle : now ≤ nw) :
    Calls Try.prog 43 #[.pointer (some ⟨g, 0, none⟩), .int .i64 nw] W fun e w' => ∃ G c, e = .returned (.tuple #[.slice G ((dueL nw L).map (·.1)).length c, .int .i64 0]) ∧ ∃ v', RwAt w' b g nw v' (Wh.ahead nw L) ∧ IntsAt w' W.heap.size (.slice G ((dueL nw L).map (·.1)).length c) ((dueL nw L).map (·.1)) ∧ Rk W w' b := by
  have CT := Aside0.mk (time_s nw W)
  rw [show (decide (0 ≤ nw) && decide (nw ≤ 1125899906842624)) = true by simp [h0, h1]] at CT
  obtain ⟨c0, c1⟩ := h.c
  have f0 := h.free 0
  have H0 : Aside0 (PassR W b g nw L (.slice none 0 0) (W.setCell ⟨g, 0, none⟩ (.int .i64 nw))) := ⟨⟨0, none, 0, v, Nat.zero_le _, rfl, h.setNow nw, World.ownsRow_nil _ _ _ _, Rk.of_set h⟩⟩
  have HS := Aside0.mk hm.srt
  clear h hm
  go_enter Try.func43, Try.ntmps43
  go_wp2_with (go_at_call 92; (with_reducible refine CT.out.mono ?_); rintro e w' ⟨rfl, rfl⟩)
  go_loopw [6] (fun ov W' => PassR W b g nw L ov W') (fun ov _ => L.length - lenV ov)
  case atStart => exact H0.out
  case round =>
    obtain ⟨i, G, c, v1, hi, rfl, k1, k2, k3⟩ := hrel
    by_cases hlt : i < (dueL nw L).length
    · obtain ⟨t, B, hB, ht, hle2⟩ := drop_due HS.out hlt
      rw [hB] at k1
      obtain ⟨A, ca, rfl⟩ := rd_slice k1.row
      have x1 := k1.c.2
      have hr : RdAt wr b (.slice A (t :: B).length ca) (t :: B) := k1.row
      obtain ⟨gl, off, rfl, r0, r1⟩ := rd_cells hr (j := 0) (t := t) rfl
      rw [Nat.zero_mul, Nat.add_zero] at r0 r1
      obtain ⟨G2, c2, w1, A2, c3, p1, p2, p3, p4, p5⟩ := pass_step hB ht hbw hl k1 k2 k3
      have HP := Aside0.mk p5
      have hlB : B.length ≤ 65536 := by
        have := congrArg List.length hB
        rw [List.length_drop, List.length_cons] at this
        omega
      have hdl := due_len (nw := nw) (L := L)
      have hi64 : i < L.length := by omega
      rw [List.length_cons] at x1
      clear hB ht k1 k2 k3 hr p5 hi hdl
      go_wp2_with ((with_reducible refine gate_builtin (b := .append) (xs := #[.tmp 37, .tmp 45]) rfl ?_); at_builtin; refine wpList_app_run _ rfl _ _ 34 rfl _ _ rfl rfl p1 ?_)
      exact ⟨HP.out, by simp [lenV]; omega⟩
    · obtain rfl : i = (dueL nw L).length := by omega
      rw [drop_end HS.out] at k1
      obtain ⟨A, ca, rfl⟩ := rd_slice k1.row
      have x1 := k1.c.2
      have HK := Aside0.mk (And.intro k1 (And.intro k2 k3))
      rcases hA : Wh.ahead nw L with _ | ⟨t, B⟩
      · rw [hA] at x1
        clear k1 k2 k3
        go_wp2
        go_ret2
        obtain ⟨k1, k2, k3⟩ := HK.out
        rw [List.take_length] at k2
        rw [List.length_map]
        exact ⟨_, _, rfl, _, k1, k2, k3⟩
      · have hgt : ¬ t.2 ≤ nw := by
          have : t ∈ Wh.ahead nw L := by rw [hA]; exact List.mem_cons_self
          have := (List.mem_filter.1 this).2
          simp at this
          omega
        have hr : RdAt wr b (.slice A (t :: B).length ca) (t :: B) := by
          have := k1.row
          rw [hA] at this
          exact this
        obtain ⟨gl, off, rfl, r0, r1⟩ := rd_cells hr (j := 0) (t := t) rfl
        rw [Nat.zero_mul, Nat.add_zero] at r0 r1
        rw [hA, List.length_cons] at x1
        have hlB : B.length ≤ 65536 := by
          have : (Wh.ahead nw L).length ≤ L.length := List.length_filter_le _ _
          rw [hA, List.length_cons] at this
          omega
        clear k1 k2 k3 hr
        go_wp2
        go_ret2
        obtain ⟨k1, k2, k3⟩ := HK.out
        rw [List.take_length] at k2
        rw [hA] at k1
        exact ⟨G, c, rfl, ⟨_, k1⟩, k2, k3⟩
theorem pass_rbad (h : RwAt W b g now v L) (ht : ¬ (0 ≤ nw ∧ nw ≤ 1125899906842624)) :
    Calls Try.prog 43 #[.pointer (some ⟨g, 0, none⟩), .int .i64 nw] W fun e w' => e = .returned (.tuple #[.slice none 0 0, .int .i64 2]) ∧ W = w' := by
  have CT := Aside0.mk (time_s nw W)
  rw [show (decide (0 ≤ nw) && decide (nw ≤ 1125899906842624)) = false by
    by_cases h0 : 0 ≤ nw
    · have : ¬ nw ≤ 1125899906842624 := fun h1 => ht ⟨h0, h1⟩
      simp [this]
    · simp [h0]] at CT
  clear h ht
  go_enter Try.func43, Try.ntmps43
  go_wp2_with (go_at_call 92; (with_reducible refine CT.out.mono ?_); rintro e w' ⟨rfl, rfl⟩)
  go_ret2
  exact ⟨rfl, rfl⟩
theorem pass_rback (h : RwAt W b g now v L) (ht : 0 ≤ nw ∧ nw ≤ 1125899906842624) (hlt : nw < now) :
    Calls Try.prog 43 #[.pointer (some ⟨g, 0, none⟩), .int .i64 nw] W fun e w' => e = .returned (.tuple #[.slice none 0 0, .int .i64 42]) ∧ W = w' := by
  have CT := Aside0.mk (time_s nw W)
  rw [show (decide (0 ≤ nw) && decide (nw ≤ 1125899906842624)) = true by simp [ht]] at CT
  obtain ⟨c0, c1⟩ := h.c
  clear h ht
  go_enter Try.func43, Try.ntmps43
  go_wp2_with (go_at_call 92; (with_reducible refine CT.out.mono ?_); rintro e w' ⟨rfl, rfl⟩)
  go_ret2
  exact ⟨rfl, rfl⟩
theorem rt_pass (h : RwAt W b g now v L) (hbw : b ≤ W.heap.size) (hm : Tms L) (hl : L.length ≤ 65536) (nw : Int) :
    Calls Try.prog 43 #[.pointer (some ⟨g, 0, none⟩), .int .i64 nw] W fun e w' => ∃ G c, e = .returned (.tuple #[.slice G (passD now nw L).length c, .int .i64 (passV now nw)]) ∧ ∃ v', RwAt w' b g (passN now nw) v' (passL now nw L) ∧ IntsAt w' W.heap.size (.slice G (passD now nw L).length c) (passD now nw L) ∧ Rk W w' b := by
  by_cases ht : 0 ≤ nw ∧ nw ≤ 1125899906842624
  · by_cases hlt : nw < now
    · have e : passV now nw = 42 := by unfold passV; rw [if_neg (fun hh => hh ht), if_pos hlt]
      unfold passD passL passN
      rw [e, if_neg (by decide), if_neg (by decide), if_neg (by decide)]
      refine (pass_rback h ht hlt).mono ?_
      rintro e w' ⟨rfl, rfl⟩
      exact ⟨none, 0, rfl, v, h, World.ownsRow_nil _ _ _ _, Rk.refl _ _⟩
    · have e : passV now nw = 0 := by unfold passV; rw [if_neg (fun hh => hh ht), if_neg hlt]
      unfold passD passL passN
      rw [e, if_pos rfl, if_pos rfl, if_pos rfl]
      exact pass_r h hbw hm hl ht.1 ht.2 (by omega)
  · have e : passV now nw = 2 := by unfold passV; rw [if_pos ht]
    unfold passD passL passN
    rw [e, if_neg (by decide), if_neg (by decide), if_neg (by decide)]
    refine (pass_rbad h ht).mono ?_
    rintro e w' ⟨rfl, rfl⟩
    exact ⟨none, 0, rfl, v, h, World.ownsRow_nil _ _ _ _, Rk.refl _ _⟩
end Go.Proofs.Ytakmcbakogjeeaa.Wr
