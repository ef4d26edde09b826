/- Both wheels within a law (layer 25); no condition. -/
import Derived.Test.YtakmcbakogjeeaaWr4
set_option linter.unusedVariables false
set_option linter.unusedSimpArgs false
namespace Go.Proofs.Ytakmcbakogjeeaa.Wr
open Go Go.RowKit Go.Maps Go.Proofs.Ytakmcbakogjeeaa.Rm Go.Proofs.Ytakmcbakogjeeaa.Rw Go.Proofs.Ytakmcbakogjeeaa.Wh
open Go.Proofs.YtakmcbakogjeeaaW.PrintWords Go.Proofs.YtakmcbakogjeeaaW.PrintLast Go.Proofs.YtakmcbakogjeeaaW.PrintMore
variable {w W W' W0 W2 : World} {b p m g : Nat} {n1 n2 now nw : Int} {L L1 L2 l l2 K : List Tm} {v v2 ov : Value} {ks : List Int} {R R1 : List Row} {F' : Nat → Prop}
/-- All rows but the wheels' own are as they were. -/
def Ak (W W' : World) : Prop := ∀ (k : Nat) (cs : Array Value) (t : TypeId) (z : Nat × Nat), W.heap[k]? = some (Obj.cells cs t z) → t ≠ 160 → t ≠ 74 → t ≠ 89 → t ≠ 87 → W'.heap[k]? = some (Obj.cells cs t z)
theorem Ak.of_lk (h : Lk W W') : Ak W W' := fun k cs t z hk a1 a2 _ _ => h k cs t z hk a1 a2
theorem Ak.of_rk (h : Rk W W' b) : Ak W W' := fun k cs t z hk _ _ a3 a4 => h.kt k cs t z hk a3 a4
theorem Ak.of_below (hb : Below W.heap.size W W') : Ak W W' := .of_lk (.of_below hb)
theorem Ak.ints (h : Ak W W') {c : Nat} (hi : IntsAt W c v ks) : IntsAt W' c v ks := ints_move hi (fun k cs t z hk ht => h k cs t z hk (by rw [ht]; decide) (by rw [ht]; decide) (by rw [ht]; decide) (by rw [ht]; decide))
theorem RwAt.lk (h : RwAt W b g now v L) (hl : Lk W W') : RwAt W' b g now v L := h.move (fun k hk => by
  rcases hk with rfl | hk
  · rw [h.blk]
    exact hl _ _ _ _ h.blk (by decide) (by decide)
  · obtain ⟨_, cs, hc⟩ := wr_typed h.row k hk
    rw [hc]
    exact hl _ _ _ _ hc (by decide) (by decide))
theorem whs_rk {c : Nat} (h : WhS W b p m now L R) (hk : Rk W W' c) : WhS W' b p m now L R := h.move (fun k hf => by
  obtain ⟨kv, hx, _⟩ := h.at_
  rcases (hx.foot_ty hf).2.2 with ⟨cs, hc⟩ | ⟨cs, hc⟩ | ⟨es, cl, hc⟩
  · rw [hc]; exact hk.kt _ _ _ _ hc (by decide) (by decide)
  · rw [hc]; exact hk.kt _ _ _ _ hc (by decide) (by decide)
  · rw [hc]; exact hk.mp _ _ _ hc)
/-- Both wheels in a law that began at w. -/
structure Pl (w : World) (b p m g : Nat) (n1 : Int) (L1 : List Tm) (n2 : Int) (L2 : List Tm) (W : World) : Prop where
  hb : w.heap.size ≤ b
  hbW : b ≤ W.heap.size
  wh : ∃ R, WhS W b p m n1 L1 R
  bel : Below w.heap.size w W
  rw_ : ∃ v, RwAt W w.heap.size g n2 v L2
  tms : Tms L2
  len : L2.length ≤ 65536
theorem Pl.below (h : Pl w b p m g n1 L1 n2 L2 W) (hb : Below W.heap.size W W') : Pl w b p m g n1 L1 n2 L2 W' := by
  obtain ⟨R, h5⟩ := h.wh
  obtain ⟨v, h6⟩ := h.rw_
  exact ⟨h.hb, Nat.le_trans h.hbW hb.size, ⟨R, h5.below hb⟩, h.bel.trans (hb.mono h.bel.size), ⟨v, h6.below hb⟩, h.tms, h.len⟩
theorem Pl.turn (h : Pl w b p m g n1 L1 n2 L2 W) {n1' : Int} {L1' : List Tm} {R' : List Row} (h5 : WhS W b p m n1 L1 R) (g1 : WhS W' b p m n1' L1' R') (g2 : Lf W W' b (foot p m R) (foot p m R')) : Pl w b p m g n1' L1' n2 L2 W' ∧ Ak W W' := by
  obtain ⟨v, h6⟩ := h.rw_
  have hl := h5.lk g2
  exact ⟨⟨h.hb, Nat.le_trans h.hbW g2.bel.size, ⟨R', g1⟩, h.bel.trans (g2.bel.mono h.hb), ⟨v, h6.lk hl⟩, h.tms, h.len⟩, .of_lk hl⟩
theorem Pl.rturn (h : Pl w b p m g n1 L1 n2 L2 W) {n2' : Int} {L2' : List Tm} {v' : Value} (g1 : RwAt W' w.heap.size g n2' v' L2') (g2 : Rk W W' w.heap.size) (ht : Tms L2') (hl : L2'.length ≤ 65536) : Pl w b p m g n1 L1 n2' L2' W' ∧ Ak W W' := by
  obtain ⟨R, h5⟩ := h.wh
  exact ⟨⟨h.hb, Nat.le_trans h.hbW g2.bel.size, ⟨R, whs_rk h5 g2⟩, h.bel.trans g2.bel, ⟨v', g1⟩, ht, hl⟩, .of_rk g2⟩
theorem Pl.own (h : Pl w b p m g n1 L1 n2 L2 W) : Tms L1 ∧ L1.length ≤ 65536 := by
  obtain ⟨R, h5⟩ := h.wh
  exact ⟨h5.tms, h5.len⟩
theorem pl_set (h : Pl w b p m g n1 L1 n2 L2 W) {k a : Int} (hwf : (Lit.int .i64 k).wf = true) :
    Calls Try.prog 33 #[.pointer (some ⟨p, 0, none⟩), .int .i64 k, .int .i64 a] W fun e w' => e = .returned (.int .i64 (setV L1 k a)) ∧ Pl w b p m g n1 (setL L1 k a) n2 L2 w' ∧ Ak W w' := by
  obtain ⟨R, h5⟩ := h.wh
  refine (set_l h5 h.hbW hwf).mono ?_
  rintro e w' ⟨rfl, R', g1, g2⟩
  exact ⟨rfl, h.turn h5 g1 g2⟩
theorem pl_rset {k a : Int} (h : Pl w b p m g n1 (setL L k a) n2 L W) :
    Calls Try.prog 41 #[.pointer (some ⟨g, 0, none⟩), .int .i64 k, .int .i64 a] W fun e w' => e = .returned (.int .i64 (setV L k a)) ∧ Pl w b p m g n1 (setL L k a) n2 (setL L k a) w' ∧ Ak W w' := by
  obtain ⟨v, h6⟩ := h.rw_
  refine (rt_set h6 (Nat.le_trans h.hb h.hbW) h.tms h.len k a).mono ?_
  rintro e w' ⟨rfl, v', g1, g2⟩
  exact ⟨rfl, h.rturn g1 g2 h.own.1 h.own.2⟩
theorem pl_stop (h : Pl w b p m g n1 L1 n2 L2 W) {k : Int} (hwf : (Lit.int .i64 k).wf = true) :
    Calls Try.prog 36 #[.pointer (some ⟨p, 0, none⟩), .int .i64 k] W fun e w' => e = .returned (.bool (findT k L1).isSome) ∧ Pl w b p m g n1 (without k L1) n2 L2 w' ∧ Ak W w' := by
  obtain ⟨R, h5⟩ := h.wh
  refine (stop_l h5 h.hbW hwf).mono ?_
  rintro e w' ⟨rfl, R', g1, g2⟩
  exact ⟨rfl, h.turn h5 g1 g2⟩
theorem pl_rstop {k : Int} (h : Pl w b p m g n1 (without k L) n2 L W) :
    Calls Try.prog 42 #[.pointer (some ⟨g, 0, none⟩), .int .i64 k] W fun e w' => e = .returned (.bool (findT k L).isSome) ∧ Pl w b p m g n1 (without k L) n2 (without k L) w' ∧ Ak W w' := by
  obtain ⟨v, h6⟩ := h.rw_
  refine (stop_r h6 (Nat.le_trans h.hb h.hbW) h.tms h.len k).mono ?_
  rintro e w' ⟨rfl, v', g1, g2⟩
  exact ⟨rfl, h.rturn g1 g2 h.own.1 h.own.2⟩
theorem pl_pass (h : Pl w b p m g n1 L1 n2 L2 W) (nw : Int) :
    Calls Try.prog 37 #[.pointer (some ⟨p, 0, none⟩), .int .i64 nw] W fun e w' => ∃ G c, e = .returned (.tuple #[.slice G (passD n1 nw L1).length c, .int .i64 (passV n1 nw)]) ∧ (Pl w b p m g (passN n1 nw) (passL n1 nw L1) n2 L2 w' ∧ Ak W w') ∧ IntsAt w' W.heap.size (.slice G (passD n1 nw L1).length c) (passD n1 nw L1) := by
  obtain ⟨R, h3⟩ := h.wh
  by_cases ht : 0 ≤ nw ∧ nw ≤ 1125899906842624
  · by_cases hlt : nw < n1
    · have e : passV n1 nw = 42 := by unfold passV; rw [if_neg (fun hh => hh ht), if_pos hlt]
      unfold passD passL passN
      rw [e, if_neg (by decide), if_neg (by decide), if_neg (by decide)]
      refine (pass_back h3 ht hlt).mono ?_
      rintro e w' ⟨rfl, rfl⟩
      exact ⟨none, 0, rfl, ⟨h, .of_below (Below.refl _ _)⟩, World.ownsRow_nil _ _ _ _⟩
    · have e : passV n1 nw = 0 := by unfold passV; rw [if_neg (fun hh => hh ht), if_neg hlt]
      unfold passD passL passN
      rw [e, if_pos rfl, if_pos rfl, if_pos rfl]
      refine (pass_ok h3 h.hbW ht.1 ht.2 (by omega)).mono ?_
      rintro e w' ⟨kvv, rfl, R', g1, g2, g3⟩
      obtain ⟨G, c, rfl⟩ := ints_val g3
      exact ⟨G, c, rfl, h.turn h3 g1 g2, g3⟩
  · have e : passV n1 nw = 2 := by unfold passV; rw [if_pos ht]
    unfold passD passL passN
    rw [e, if_neg (by decide), if_neg (by decide), if_neg (by decide)]
    refine (pass_bad h3 ht).mono ?_
    rintro e w' ⟨rfl, rfl⟩
    exact ⟨none, 0, rfl, ⟨h, .of_below (Below.refl _ _)⟩, World.ownsRow_nil _ _ _ _⟩
theorem pl_rpass (h : Pl w b p m g (passN now nw) (passL now nw L) now L W) :
    Calls Try.prog 43 #[.pointer (some ⟨g, 0, none⟩), .int .i64 nw] W fun e w' => ∃ G c, e = .returned (.tuple #[.slice G (passD now nw L).length c, .int .i64 (passV now nw)]) ∧ (Pl w b p m g (passN now nw) (passL now nw L) (passN now nw) (passL now nw L) w' ∧ Ak W w') ∧ IntsAt w' W.heap.size (.slice G (passD now nw L).length c) (passD now nw L) := by
  obtain ⟨v, h6⟩ := h.rw_
  refine (rt_pass h6 (Nat.le_trans h.hb h.hbW) h.tms h.len nw).mono ?_
  rintro e w' ⟨G, c, rfl, v', g1, g2, g3⟩
  exact ⟨G, c, rfl, h.rturn g1 g3 h.own.1 h.own.2, g2⟩
theorem pl_next (h : Pl w b p m g n1 L1 n2 L2 W) : Calls Try.prog 38 #[.pointer (some ⟨p, 0, none⟩)] W fun e w' => e = .returned (.tuple #[.int .i64 (nextT L1).1, .bool (nextT L1).2]) ∧ Pl w b p m g n1 L1 n2 L2 w' ∧ Ak W w' := by
  obtain ⟨R, h3⟩ := h.wh
  refine (next_l h3).mono ?_
  rintro e w' ⟨rfl, hb⟩
  exact ⟨rfl, h.below hb, .of_below hb⟩
theorem pl_at (h : Pl w b p m g n1 L1 n2 L2 W) {k : Int} (hwf : (Lit.int .i64 k).wf = true) :
    Calls Try.prog 35 #[.pointer (some ⟨p, 0, none⟩), .int .i64 k] W fun e w' => e = .returned (.tuple #[.int .i64 ((findT k L1).getD 0), .bool (findT k L1).isSome]) ∧ W = w' := by
  obtain ⟨R, h3⟩ := h.wh
  exact at_l h3 hwf
theorem pl_rat (h : Pl w b p m g n1 L1 n2 L2 W) (k : Int) :
    Calls Try.prog 45 #[.pointer (some ⟨g, 0, none⟩), .int .i64 k] W fun e w' => e = .returned (.tuple #[.int .i64 ((findT k L2).getD 0), .bool (findT k L2).isSome]) ∧ W = w' := by
  obtain ⟨v, h6⟩ := h.rw_
  exact at_r h6 h.tms h.len k
theorem pl_len (h : Pl w b p m g n1 L1 n2 L2 W) : Calls Try.prog 34 #[.pointer (some ⟨p, 0, none⟩)] W fun e w' => e = .returned (.int .i64 L1.length) ∧ W = w' := by
  obtain ⟨R, h3⟩ := h.wh
  exact len_l h3
theorem names_s (w : World) : Calls Try.prog 40 #[] w fun e w' => e = .returned (.bool true) ∧ w = w' := by
  go_enter Try.func40, Try.ntmps40
  go_wp2
  go_ret
  exact ⟨rfl, rfl⟩
/-- An act: its kind, its key, its time. -/
abbrev ActW : Type := Int × Int × Int
abbrev actK : Kd ActW := Kd.pair (Kd.int .i64) (Kd.pair (Kd.int .i64) (Kd.int .i64))
theorem came_act {w : World} {A : Option Addr} {xs : List ActW} {k : Nat} {x : ActW} (h : Kd.C actK w A xs.length xs) (hk : xs[k]? = some x) :
    ∃ ad, A = some ad ∧ w.cell? (ad.add (k * 3)) = some (.int .i64 x.1) ∧ w.cell? (ad.add (k * 3 + 1)) = some (.int .i64 x.2.1) ∧ w.cell? (ad.add (k * 3 + 2)) = some (.int .i64 x.2.2) := by
  have hlt := (List.getElem?_eq_some_iff.1 hk).1
  obtain ⟨ad, hA, hq⟩ := h.2.2 (by omega)
  obtain ⟨cs, _, ⟨c0, d0, rfl, h0, ⟨c1, c2, rfl, h1, h2⟩⟩, hcell⟩ := hq k x hk
  have e0 : c0 = [.int .i64 x.1] := h0
  have e1 : c1 = [.int .i64 x.2.1] := h1
  have e2 : c2 = [.int .i64 x.2.2] := h2
  subst e0; subst e1; subst e2
  exact ⟨ad, hA, hcell 0 _ rfl, hcell 1 _ rfl, hcell 2 _ rfl⟩
/-- Both, and an act in its block. -/
def PlX (w : World) (b p m g : Nat) (n1 : Int) (L1 : List Tm) (n2 : Int) (L2 : List Tm) (ab : Nat) (cs : Array Value) (W : World) : Prop := Pl w b p m g n1 L1 n2 L2 W ∧ W.heap[ab]? = some (.cells cs 68 (0, 0))
theorem PlX.go {n1' n2' : Int} {L1' L2' : List Tm} {ab : Nat} {cs : Array Value} (h : PlX w b p m g n1 L1 n2 L2 ab cs W) (h' : Pl w b p m g n1' L1' n2' L2' W' ∧ Ak W W') : PlX w b p m g n1' L1' n2' L2' ab cs W' :=
  ⟨h'.1, h'.2 _ _ _ _ h.2 (by decide) (by decide) (by decide) (by decide)⟩
theorem PlX.below {ab : Nat} {cs : Array Value} (h : PlX w b p m g n1 L1 n2 L2 ab cs W) (hb : Below W.heap.size W W') : PlX w b p m g n1 L1 n2 L2 ab cs W' := h.go ⟨h.1.below hb, .of_below hb⟩
theorem PlX.cells {ab : Nat} {a0 a1 a2 : Value} (h : PlX w b p m g n1 L1 n2 L2 ab #[a0, a1, a2] W) : W.cell? ⟨ab, 0, none⟩ = some a0 ∧ W.cell? ⟨ab, 1, none⟩ = some a1 ∧ W.cell? ⟨ab, 2, none⟩ = some a2 := by
  refine ⟨?_, ?_, ?_⟩ <;> (rw [cell_of_row W ab _ _ _ _ h.2]; rfl)
end Go.Proofs.Ytakmcbakogjeeaa.Wr
