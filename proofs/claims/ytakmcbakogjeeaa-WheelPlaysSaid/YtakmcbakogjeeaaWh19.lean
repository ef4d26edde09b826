/- Wheels (layer 25): rows of numbers; two wheels at once; no condition. -/
import Derived.Test.YtakmcbakogjeeaaWh18
set_option linter.unusedVariables false
set_option linter.unusedSimpArgs false
namespace Go.Proofs.Ytakmcbakogjeeaa.Wh
open Go Go.RowKit Go.Maps Go.Proofs.Ytakmcbakogjeeaa.Rm Go.Proofs.Ytakmcbakogjeeaa.Rw
open Go.Proofs.YtakmcbakogjeeaaW.PrintWords Go.Proofs.YtakmcbakogjeeaaW.PrintLast Go.Proofs.YtakmcbakogjeeaaW.PrintMore
variable {w W W' W2 : World} {b p m n b2 p2 m2 : Nat} {now n1 n2 : Int} {kv : KV} {R R1 R2 : List Row} {L L1 L2 acc out : List Tm} {x x' : Row} {F F' F2 : Nat → Prop} {lv ov : Value} {lb : Nat}
theorem ints_get {G : Option Addr} {N c : Nat} {l : List Int} (h : IntsAt W b (.slice G N c) l) {j : Nat} {k : Int} (hj : l[j]? = some k) : ∃ g, G = some ⟨g, 0, none⟩ ∧ W.cell? ⟨g, j, none⟩ = some (.int .i64 k) := by
  have hjl := (List.getElem?_eq_some_iff.1 hj).1
  rcases h.2 with ⟨h1, h2⟩ | ⟨g, cap, cur, h1, _, hb, _, _, hs, ht⟩
  · omega
  · injection h1 with h1 _ _
    refine ⟨g, h1, ?_⟩
    rw [cell_of_row _ _ _ _ _ _ hb]
    have h0 : (cur.toList.take (l.length * 1))[j]? = some (.int .i64 k) := by
      rw [ht, List.getElem?_map, hj]
      rfl
    rw [List.getElem?_take, if_pos (by omega)] at h0
    simpa using h0
theorem ints_move {v : Value} {l : List Int} (h : IntsAt W b v l) (hk : ∀ (k : Nat) (cs : Array Value) (t : TypeId) (z : Nat × Nat), W.heap[k]? = some (Obj.cells cs t z) → t = 3 → W'.heap[k]? = some (Obj.cells cs t z)) : IntsAt W' b v l := by
  refine ⟨h.1, ?_⟩
  rcases h.2 with h1 | ⟨g, cap, cur, h1, h2, hb, h3⟩
  · exact .inl h1
  · exact .inr ⟨g, cap, cur, h1, h2, hk _ _ _ _ hb rfl, h3⟩
/-- A row of numbers appended to one. -/
theorem run_appi {v v2 : Value} {l l2 : List Int} {b2 : Nat} (h : IntsAt W b v l) (hx : IntsAt W b2 v2 l2) (hbw : b ≤ W.heap.size) (hl : l.length + l2.length ≤ 1099511627776) : ∃ G c w1,
    (∀ ty, (Builtin.append_ #[34, 34] ty #[v, v2]).run Try.prog W = .ok (.slice G (l.length + l2.length) c) w1) ∧ IntsAt w1 b (.slice G (l.length + l2.length) c) (l ++ l2) ∧ W.grownBy w1 v.ownBlock := by
  obtain ⟨i0, hi, hz0, hz1, hz2⟩ := info_parts infoI
  rcases hx.2 with ⟨h1, h2⟩ | ⟨g, cap, cur, h1, _, hb, hn, _, hs, ht⟩
  · have e2 : l2 = [] := List.length_eq_zero_iff.1 h2
    subst h1; subst e2
    obtain ⟨G, c, hv⟩ := ints_val h
    subst hv
    refine ⟨G, c, W, fun ty => run_append_owned_none W b 34 ty 3 i0 1 Try.underlying34 hi _ l.length _ h, ?_, ⟨rfl, rfl, rfl, Nat.le_refl _, fun _ _ _ => rfl⟩⟩
    simp only [List.append_nil, List.length_nil, Nat.add_zero]
    exact h
  · subst h1
    obtain ⟨v1, w1, hr, g1, g2, g3, g4⟩ := run_append_own_at (P := Try.prog) (w := W) b 34 34 3 i0 _ 1 8 Try.underlying34 hi hz0 hz1 hz2 rfl (by decide) v l.length _ h ⟨g, 0, none⟩ l2.length cap (l2.map (Value.int .i64)) (by rw [List.length_map, Nat.mul_one])
      (fun j u hu => by
        have hj := (List.getElem?_eq_some_iff.1 hu).1
        rw [List.length_map] at hj
        rw [add_at, cell_of_row _ _ _ _ _ _ hb, Nat.zero_add, ← hu, ← ht, List.getElem?_take, if_pos (by omega)]
        simp) (fun u hu => by obtain ⟨k, _, rfl⟩ := List.mem_map.1 hu; rfl) (by unfold maxLen; omega) (by omega) hbw
    have hrow : IntsAt w1 b v1 (l ++ l2) := by
      show w1.ownsRow b 3 1 v1 (l ++ l2).length ((l ++ l2).map (Value.int .i64))
      rw [List.length_append, List.map_append]
      exact g1
    obtain ⟨G, c, hv⟩ := ints_val hrow
    simp only [List.length_append] at hv
    subst hv
    exact ⟨G, c, w1, fun ty => hr, hrow, g2⟩
set_option maxRecDepth 100000 in
theorem same_s {G G2 : Option Addr} {c c2 b2 : Nat} {l : List Int} (h : IntsAt W b (.slice G l.length c) l) (h2 : IntsAt W b2 (.slice G2 l.length c2) l) (hl : l.length ≤ 1099511627776) :
    Calls Try.prog 44 #[.slice G l.length c, .slice G2 l.length c2] W fun e w' => e = .returned (.bool true) ∧ ∃ j, w' = W.drewN j := by
  have H := Aside0.mk (And.intro h h2)
  clear h h2
  have hl2 : (l.length : Int) ≤ 1099511627776 := by omega
  go_enter Try.func44, Try.ntmps44
  go_wp2
  go_loopw [5] (fun iv W' => ∃ (j k : Nat), iv = .int .i64 j ∧ j ≤ l.length ∧ W' = W.drewN k) (fun iv _ => l.length - (intOf iv).toNat)
  case atStart => exact ⟨0, 0, rfl, Nat.zero_le _, rfl⟩
  case round =>
    obtain ⟨j, k, rfl, hj, rfl⟩ := hrel
    by_cases hlt : j < l.length
    · obtain ⟨x, hx⟩ : ∃ x, l[j]? = some x := ⟨_, List.getElem?_eq_getElem hlt⟩
      obtain ⟨g, rfl, c0⟩ := ints_get H.out.1 hx
      obtain ⟨g2, rfl, c1⟩ := ints_get H.out.2 hx
      go_wp2
      go_quiet (fail)
      go_wp2
      exact ⟨⟨j + 1, _, by simp, hlt, rfl⟩, by simp [intOf]; omega⟩
    · obtain rfl : j = l.length := by omega
      go_wp2
      go_ret
      exact ⟨rfl, k, rfl⟩
/-- All rows but the wheel's are as they were. -/
def Lk (W W' : World) : Prop := ∀ (k : Nat) (cs : Array Value) (t : TypeId) (z : Nat × Nat), W.heap[k]? = some (Obj.cells cs t z) → t ≠ 160 → t ≠ 74 → W'.heap[k]? = some (Obj.cells cs t z)
theorem Lk.of_below (hb : Below W.heap.size W W') : Lk W W' := fun k cs t z hk _ _ => (hb.block k (Array.getElem?_eq_some_iff.1 hk).1).trans hk
theorem Lk.ints {v : Value} {l : List Int} (h : Lk W W') (hi : IntsAt W b v l) : IntsAt W' b v l := ints_move hi (fun k cs t z hk ht => h k cs t z hk (by rw [ht]; decide) (by rw [ht]; decide))
theorem WhS.lk (h : WhS W b p m now L R) (hl : Lf W W' b (foot p m R) F') : Lk W W' := fun k cs t z hk h1 h2 => by
  obtain ⟨kv, hw, _⟩ := h.at_
  exact hl.kt hw hk h1 h2
theorem WhS.foot_lt (h : WhS W b p m now L R) {k : Nat} (hk : foot p m R k) : k < W.heap.size := by
  obtain ⟨kv, hw, _⟩ := h.at_
  exact (hw.foot_ty hk).1
/-- Two wheels in a law that began at w. -/
def Two (w : World) (b p m b2 p2 m2 : Nat) (n1 : Int) (L1 : List Tm) (n2 : Int) (L2 : List Tm) (W : World) : Prop :=
  w.heap.size ≤ b ∧ b ≤ W.heap.size ∧ w.heap.size ≤ b2 ∧ b2 ≤ W.heap.size ∧ (∃ R1 R2, WhS W b p m n1 L1 R1 ∧ WhS W b2 p2 m2 n2 L2 R2 ∧ ∀ k, foot p m R1 k → ¬ foot p2 m2 R2 k) ∧ Below w.heap.size w W
theorem Two.swap (h : Two w b p m b2 p2 m2 n1 L1 n2 L2 W) : Two w b2 p2 m2 b p m n2 L2 n1 L1 W := by
  obtain ⟨h1, h2, h3, h4, ⟨R1, R2, h5, h6, h7⟩, h8⟩ := h
  exact ⟨h3, h4, h1, h2, ⟨R2, R1, h6, h5, fun k hk hk2 => h7 k hk2 hk⟩, h8⟩
theorem Two.below (h : Two w b p m b2 p2 m2 n1 L1 n2 L2 W) (hb : Below W.heap.size W W') : Two w b p m b2 p2 m2 n1 L1 n2 L2 W' := by
  obtain ⟨h1, h2, h3, h4, ⟨R1, R2, h5, h6, h7⟩, h8⟩ := h
  exact ⟨h1, Nat.le_trans h2 hb.size, h3, Nat.le_trans h4 hb.size, ⟨R1, R2, h5.below hb, h6.below hb, h7⟩, h8.trans (hb.mono (Nat.le_trans h1 h2))⟩
/-- A row of numbers turned leaves both wheels. -/
theorem Two.ints {v : Value} {l : List Int} (h : Two w b p m b2 p2 m2 n1 L1 n2 L2 W) (hi : IntsAt W w.heap.size v l) (hg : W.grownBy W' v.ownBlock) : Two w b p m b2 p2 m2 n1 L1 n2 L2 W' := by
  obtain ⟨h1, h2, h3, h4, ⟨R1, R2, h5, h6, h7⟩, h8⟩ := h
  have hty : ∀ k, v.ownBlock = some k → w.heap.size ≤ k ∧ ∃ cs, W.heap[k]? = some (.cells cs 3 (0, 0)) := fun k hk => ⟨by
    rcases hi.2 with ⟨e, _⟩ | ⟨g', c, cur, e, hbb, _⟩ <;> rw [e] at hk <;> simp [Value.ownBlock] at hk
    omega, own_typed hi k hk⟩
  have hf : ∀ {b p m : Nat} {n1 : Int} {L : List Tm} {R : List Row}, WhS W b p m n1 L R → ∀ k, foot p m R k → W'.heap[k]? = W.heap[k]? := fun hw k hk => hg.block k (hw.foot_lt hk) (fun e => by
    obtain ⟨kv, hx, _⟩ := hw.at_
    obtain ⟨_, cs, hc⟩ := hty k e.symm
    exact hx.not_foot hc (by decide) (by decide) hk)
  refine ⟨h1, Nat.le_trans h2 hg.size, h3, Nat.le_trans h4 hg.size, ⟨R1, R2, h5.move (hf h5), h6.move (hf h6), h7⟩, h8.trans ⟨hg.os, hg.tape, hg.output, hg.size, fun k hk => hg.block k (by have := h8.size; omega) (fun e => by have := (hty k e.symm).1; omega)⟩⟩
theorem Two.turn (h : Two w b p m b2 p2 m2 n1 L1 n2 L2 W) {n1' : Int} {L1' : List Tm} (hx : ∀ R1, WhS W b p m n1 L1 R1 → ∃ R1', WhS W' b p m n1' L1' R1' ∧ Lf W W' b (foot p m R1) (foot p m R1')) : Two w b p m b2 p2 m2 n1' L1' n2 L2 W' ∧ Lk W W' := by
  obtain ⟨h1, h2, h3, h4, ⟨R1, R2, h5, h6, h7⟩, h8⟩ := h
  obtain ⟨R1', g1, g2⟩ := hx R1 h5
  refine ⟨⟨h1, Nat.le_trans h2 g2.bel.size, h3, Nat.le_trans h4 g2.bel.size, ⟨R1', R2, g1, h6.move (fun k hk => g2.keep k (h6.foot_lt hk) (fun hf => h7 k hf hk)), fun k hk hk2 => ?_⟩, h8.trans (g2.bel.mono h1)⟩, h5.lk g2⟩
  rcases g2.new k hk with e | e
  · exact h7 k e hk2
  · have := h6.foot_lt hk2; omega
theorem two_set (h : Two w b p m b2 p2 m2 n1 L1 n2 L2 W) {k a : Int} (hwf : (Lit.int .i64 k).wf = true) :
    Calls Try.prog 33 #[.pointer (some ⟨p, 0, none⟩), .int .i64 k, .int .i64 a] W fun e w' => e = .returned (.int .i64 (setV L1 k a)) ∧ Two w b p m b2 p2 m2 n1 (setL L1 k a) n2 L2 w' ∧ Lk W w' := by
  obtain ⟨h1, h2, h3, h4, ⟨R1, R2, h5, h6, h7⟩, h8⟩ := h
  refine (set_l h5 h2 hwf).mono ?_
  rintro e w' ⟨rfl, R', g1, g2⟩
  refine ⟨rfl, ⟨h1, Nat.le_trans h2 g2.bel.size, h3, Nat.le_trans h4 g2.bel.size, ⟨R', R2, g1, h6.move (fun k hk => g2.keep k (h6.foot_lt hk) (fun hf => h7 k hf hk)), fun k hk hk2 => ?_⟩, h8.trans (g2.bel.mono h1)⟩, h5.lk g2⟩
  rcases g2.new k hk with e | e
  · exact h7 k e hk2
  · have := h6.foot_lt hk2; omega
theorem two_pass (h : Two w b p m b2 p2 m2 n1 L1 n2 L2 W) {nw : Int} (h0 : 0 ≤ nw) (h1 : nw ≤ 1125899906842624) (hle : n1 ≤ nw) :
    Calls Try.prog 37 #[.pointer (some ⟨p, 0, none⟩), .int .i64 nw] W fun e w' => ∃ G c, e = .returned (.tuple #[.slice G ((dueL nw L1).map (·.1)).length c, .int .i64 0]) ∧ Two w b p m b2 p2 m2 nw (ahead nw L1) n2 L2 w' ∧ IntsAt w' W.heap.size (.slice G ((dueL nw L1).map (·.1)).length c) ((dueL nw L1).map (·.1)) ∧ Lk W w' := by
  obtain ⟨h1', h2, h3, h4, ⟨R1, R2, h5, h6, h7⟩, h8⟩ := h
  refine (pass_ok h5 h2 h0 h1 hle).mono ?_
  rintro e w' ⟨kvv, rfl, R', g1, g2, g3⟩
  obtain ⟨G, c, rfl⟩ := ints_val g3
  refine ⟨G, c, rfl, ⟨h1', Nat.le_trans h2 g2.bel.size, h3, Nat.le_trans h4 g2.bel.size, ⟨R', R2, g1, h6.move (fun k hk => g2.keep k (h6.foot_lt hk) (fun hf => h7 k hf hk)), fun k hk hk2 => ?_⟩, h8.trans (g2.bel.mono h1')⟩, g3, h5.lk g2⟩
  rcases g2.new k hk with e | e
  · exact h7 k e hk2
  · have := h6.foot_lt hk2; omega
theorem two_at (h : Two w b p m b2 p2 m2 n1 L1 n2 L2 W) {k : Int} (hwf : (Lit.int .i64 k).wf = true) :
    Calls Try.prog 35 #[.pointer (some ⟨p, 0, none⟩), .int .i64 k] W fun e w' => e = .returned (.tuple #[.int .i64 ((findT k L1).getD 0), .bool (findT k L1).isSome]) ∧ W = w' := by
  obtain ⟨h1, h2, h3, h4, ⟨R1, R2, h5, h6, h7⟩, h8⟩ := h
  exact at_l h5 hwf
theorem two_len (h : Two w b p m b2 p2 m2 n1 L1 n2 L2 W) : Calls Try.prog 34 #[.pointer (some ⟨p, 0, none⟩)] W fun e w' => e = .returned (.int .i64 L1.length) ∧ W = w' := by
  obtain ⟨h1, h2, h3, h4, ⟨R1, R2, h5, h6, h7⟩, h8⟩ := h
  exact len_l h5
theorem two_next (h : Two w b p m b2 p2 m2 n1 L1 n2 L2 W) : Calls Try.prog 38 #[.pointer (some ⟨p, 0, none⟩)] W fun e w' => e = .returned (.tuple #[.int .i64 (nextT L1).1, .bool (nextT L1).2]) ∧ Below W.heap.size W w' := by
  obtain ⟨h1, h2, h3, h4, ⟨R1, R2, h5, h6, h7⟩, h8⟩ := h
  exact next_l h5
theorem two_new {w1 w2 : World} (hw : Below w.heap.size w W) (h1 : WhS w1 W.heap.size (W.heap.size + 1) W.heap.size n1 [] none577) (hb1 : Below W.heap.size W w1) (h2 : WhS w2 w1.heap.size (w1.heap.size + 1) w1.heap.size n2 [] none577) (hb2 : Below w1.heap.size w1 w2) :
    Two w W.heap.size (W.heap.size + 1) W.heap.size w1.heap.size (w1.heap.size + 1) w1.heap.size n1 [] n2 [] w2 := by
  refine ⟨hw.size, Nat.le_trans hb1.size hb2.size, Nat.le_trans hw.size hb1.size, hb2.size, ⟨_, _, h1.below hb2, h2, fun k hk hk2 => ?_⟩, (hw.trans (hb1.mono hw.size)).trans (hb2.mono (Nat.le_trans hw.size hb1.size))⟩
  have h3 := h1.foot_lt hk
  obtain ⟨kv, hx, _⟩ := h2.at_
  have := (hx.foot_ty hk2).2.1
  omega
end Go.Proofs.Ytakmcbakogjeeaa.Wh
