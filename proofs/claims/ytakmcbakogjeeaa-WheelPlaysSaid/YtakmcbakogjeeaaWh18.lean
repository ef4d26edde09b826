/- Wheels (layer 25): all calls over a state within a law; no condition. -/
import Derived.Test.YtakmcbakogjeeaaWh17
set_option linter.unusedVariables false
set_option linter.unusedSimpArgs false
namespace Go.Proofs.Ytakmcbakogjeeaa.Wh
open Go Go.RowKit Go.Maps Go.Proofs.Ytakmcbakogjeeaa.Rm Go.Proofs.Ytakmcbakogjeeaa.Rw
open Go.Proofs.YtakmcbakogjeeaaW.PrintWords Go.Proofs.YtakmcbakogjeeaaW.PrintLast Go.Proofs.YtakmcbakogjeeaaW.PrintMore
variable {W W' W2 : World} {b p m n : Nat} {now : Int} {kv : KV} {R : List Row} {L acc out : List Tm} {x x' : Row} {F F' F2 : Nat → Prop} {lv ov : Value} {lb : Nat}
theorem mask_le (x : Int) (m : Nat) (hm : m < 4611686018427387904) : 0 ≤ bits .and .i64 x m ∧ bits .and .i64 x m ≤ m := by
  have h : (BitVec.ofInt 64 x &&& BitVec.ofInt 64 (m : Int)).toNat ≤ m := by
    rw [BitVec.toNat_and]
    refine Nat.le_trans Nat.and_le_right ?_
    rw [BitVec.ofInt_natCast, BitVec.toNat_ofNat]
    exact Nat.mod_le _ _
  have e : bits .and .i64 x m = IntKind.i64.wrap ((BitVec.ofInt 64 x &&& BitVec.ofInt 64 (m : Int)).toNat : Int) := rfl
  rw [e, IntKind.wrap_i64]
  omega
theorem run_max2 (x y : Int) (W : World) : (Builtin.max_ #[3, 3] 3 #[.int .i64 x, .int .i64 y]).run Try.prog W = .ok (.int .i64 (max x y)) W := by
  have h : (if y > x then y else x) = max x y := by split <;> omega
  rw [← h]
  simp [Builtin.max_, Builtin.max2, go_sem]
theorem run_min2 (x y : Int) (W : World) : (Builtin.min_ #[3, 3] 3 #[.int .i64 x, .int .i64 y]).run Try.prog W = .ok (.int .i64 (min x y)) W := by
  have h : (if y < x then y else x) = min x y := by split <;> omega
  rw [← h]
  simp [Builtin.min_, Builtin.min2, go_sem]
set_option maxRecDepth 100000 in
theorem pass_bad (h : WhS W b p m now L R) {nw : Int} (ht : ¬ (0 ≤ nw ∧ nw ≤ 1125899906842624)) :
    Calls Try.prog 37 #[.pointer (some ⟨p, 0, none⟩), .int .i64 nw] W fun e w' => e = .returned (.tuple #[.slice none 0 0, .int .i64 2]) ∧ W = w' := by
  obtain ⟨kv, h1, h2⟩ := h.at_
  have CT := Aside0.mk (isTime_s nw W)
  have CN := Aside0.mk (none_s h1)
  rw [show (decide (0 ≤ nw) && decide (nw ≤ 1125899906842624)) = false by
    by_cases h0 : 0 ≤ nw
    · have : ¬ nw ≤ 1125899906842624 := fun h => ht ⟨h0, h⟩
      simp [this]
    · simp [h0]] at CT
  clear h h1 h2 ht
  go_enter Try.func37, Try.ntmps37
  go_wp2_with (first
    | (go_at_call 82; (with_reducible refine CN.out.mono ?_); rintro e w' ⟨rfl, rfl⟩)
    | (go_at_call 81; (with_reducible refine CT.out.mono ?_); rintro e w' ⟨rfl, rfl⟩))
  go_ret2
  exact ⟨rfl, rfl⟩
set_option maxRecDepth 100000 in
theorem pass_back (h : WhS W b p m now L R) {nw : Int} (ht : 0 ≤ nw ∧ nw ≤ 1125899906842624) (hlt : nw < now) :
    Calls Try.prog 37 #[.pointer (some ⟨p, 0, none⟩), .int .i64 nw] W fun e w' => e = .returned (.tuple #[.slice none 0 0, .int .i64 42]) ∧ W = w' := by
  obtain ⟨kv, h1, h2⟩ := h.at_
  have CT := Aside0.mk (isTime_s nw W)
  have CN := Aside0.mk (none_s h1)
  rw [show (decide (0 ≤ nw) && decide (nw ≤ 1125899906842624)) = true by simp [ht]] at CT
  have c1 := h1.c.2.1
  clear h h1 h2 ht
  go_enter Try.func37, Try.ntmps37
  go_wp2_with (first
    | (go_at_call 82; (with_reducible refine CN.out.mono ?_); rintro e w' ⟨rfl, rfl⟩)
    | (go_at_call 81; (with_reducible refine CT.out.mono ?_); rintro e w' ⟨rfl, rfl⟩))
  go_ret2
  exact ⟨rfl, rfl⟩
theorem new_l (w : World) (now : Int) (h0 : 0 ≤ now) (h1 : now ≤ 1125899906842624) :
    Calls Try.prog 32 #[.int .i64 now] w fun e w' => e = .returned (.tuple #[.pointer (some ⟨w.heap.size + 1, 0, none⟩), .int .i64 0]) ∧ WhS w' w.heap.size (w.heap.size + 1) w.heap.size now [] none577 ∧ Below w.heap.size w w' := by
  refine (new_s w now h0 h1).mono ?_
  rintro e w' ⟨rfl, g1, g2⟩
  obtain ⟨k1, k2, k3⟩ := none_rows none577 rfl
  have e : none577.map (·.2) = List.replicate 577 [] := by unfold none577; rw [List.map_replicate]
  refine ⟨rfl, ⟨⟨[], g1, List.Perm.refl _⟩, ⟨by rw [List.length_map, k2], ?_, fun j hj t ht => ?_⟩, Tms.nil, h0, h1, by simp, fun t ht => by cases ht⟩, g2⟩
  · rw [e, List.flatten_replicate_nil]
  · rw [e, List.getD_eq_getElem?_getD, List.getElem?_replicate] at ht
    split at ht <;> cases ht
/-- A wheel within a law that began at w; its blocks lie at b. -/
def St (w : World) (b p m : Nat) (now : Int) (L : List Tm) (W : World) : Prop := w.heap.size ≤ b ∧ b ≤ W.heap.size ∧ (∃ R, WhS W b p m now L R) ∧ Below w.heap.size w W
section
variable {w : World}
theorem St.below (h : St w b p m now L W) (hb : Below W.heap.size W W') : St w b p m now L W' := by
  obtain ⟨h1, h2, ⟨R, h3⟩, h4⟩ := h
  exact ⟨h1, Nat.le_trans h2 hb.size, ⟨R, h3.below hb⟩, h4.trans (hb.mono (Nat.le_trans h1 h2))⟩
theorem st_new (now : Int) (h0 : 0 ≤ now) (h1 : now ≤ 1125899906842624) (hw : Below w.heap.size w W) :
    Calls Try.prog 32 #[.int .i64 now] W fun e w' => e = .returned (.tuple #[.pointer (some ⟨W.heap.size + 1, 0, none⟩), .int .i64 0]) ∧ St w W.heap.size (W.heap.size + 1) W.heap.size now [] w' := by
  refine (new_l W now h0 h1).mono ?_
  rintro e w' ⟨rfl, g1, g2⟩
  exact ⟨rfl, hw.size, g2.size, ⟨_, g1⟩, hw.trans (g2.mono hw.size)⟩
theorem st_set (h : St w b p m now L W) {k a : Int} (hwf : (Lit.int .i64 k).wf = true) :
    Calls Try.prog 33 #[.pointer (some ⟨p, 0, none⟩), .int .i64 k, .int .i64 a] W fun e w' => e = .returned (.int .i64 (setV L k a)) ∧ St w b p m now (setL L k a) w' := by
  obtain ⟨h1, h2, ⟨R, h3⟩, h4⟩ := h
  refine (set_l h3 h2 hwf).mono ?_
  rintro e w' ⟨rfl, R', g1, g2⟩
  exact ⟨rfl, h1, Nat.le_trans h2 g2.bel.size, ⟨R', g1⟩, h4.trans (g2.bel.mono h1)⟩
theorem st_stop (h : St w b p m now L W) {k : Int} (hwf : (Lit.int .i64 k).wf = true) :
    Calls Try.prog 36 #[.pointer (some ⟨p, 0, none⟩), .int .i64 k] W fun e w' => e = .returned (.bool (findT k L).isSome) ∧ St w b p m now (without k L) w' := by
  obtain ⟨h1, h2, ⟨R, h3⟩, h4⟩ := h
  refine (stop_l h3 h2 hwf).mono ?_
  rintro e w' ⟨rfl, R', g1, g2⟩
  exact ⟨rfl, h1, Nat.le_trans h2 g2.bel.size, ⟨R', g1⟩, h4.trans (g2.bel.mono h1)⟩
theorem st_at (h : St w b p m now L W) {k : Int} (hwf : (Lit.int .i64 k).wf = true) :
    Calls Try.prog 35 #[.pointer (some ⟨p, 0, none⟩), .int .i64 k] W fun e w' => e = .returned (.tuple #[.int .i64 ((findT k L).getD 0), .bool (findT k L).isSome]) ∧ W = w' := by
  obtain ⟨h1, h2, ⟨R, h3⟩, h4⟩ := h
  exact at_l h3 hwf
theorem st_len (h : St w b p m now L W) : Calls Try.prog 34 #[.pointer (some ⟨p, 0, none⟩)] W fun e w' => e = .returned (.int .i64 L.length) ∧ W = w' := by
  obtain ⟨h1, h2, ⟨R, h3⟩, h4⟩ := h
  exact len_l h3
theorem st_next (h : St w b p m now L W) : Calls Try.prog 38 #[.pointer (some ⟨p, 0, none⟩)] W fun e w' => e = .returned (.tuple #[.int .i64 (nextT L).1, .bool (nextT L).2]) ∧ Below W.heap.size W w' := by
  obtain ⟨h1, h2, ⟨R, h3⟩, h4⟩ := h
  exact next_l h3
/-- What Pass tells, and what is kept behind it. -/
def passV (now nw : Int) : Int := if ¬ (0 ≤ nw ∧ nw ≤ 1125899906842624) then 2 else if nw < now then 42 else 0
def passD (now nw : Int) (L : List Tm) : List Int := if passV now nw = 0 then (dueL nw L).map (·.1) else []
def passL (now nw : Int) (L : List Tm) : List Tm := if passV now nw = 0 then ahead nw L else L
def passN (now nw : Int) : Int := if passV now nw = 0 then nw else now
theorem st_pass (h : St w b p m now L W) (nw : Int) :
    Calls Try.prog 37 #[.pointer (some ⟨p, 0, none⟩), .int .i64 nw] W fun e w' => ∃ G c, e = .returned (.tuple #[.slice G (passD now nw L).length c, .int .i64 (passV now nw)]) ∧ St w b p m (passN now nw) (passL now nw L) w' ∧ IntsAt w' W.heap.size (.slice G (passD now nw L).length c) (passD now nw L) := by
  obtain ⟨h1, h2, ⟨R, h3⟩, h4⟩ := h
  by_cases ht : 0 ≤ nw ∧ nw ≤ 1125899906842624
  · by_cases hlt : nw < now
    · have e : passV now nw = 42 := by unfold passV; rw [if_neg (fun hh => hh ht), if_pos hlt]
      unfold passD passL passN
      rw [e, if_neg (by decide), if_neg (by decide), if_neg (by decide)]
      refine (pass_back h3 ht hlt).mono ?_
      rintro e w' ⟨rfl, rfl⟩
      exact ⟨none, 0, rfl, ⟨h1, h2, ⟨R, h3⟩, h4⟩, World.ownsRow_nil _ _ _ _⟩
    · have e : passV now nw = 0 := by unfold passV; rw [if_neg (fun hh => hh ht), if_neg hlt]
      unfold passD passL passN
      rw [e, if_pos rfl, if_pos rfl, if_pos rfl]
      refine (pass_ok h3 h2 ht.1 ht.2 (by omega)).mono ?_
      rintro e w' ⟨kvv, rfl, R', g1, g2, g3⟩
      obtain ⟨G, c, rfl⟩ := ints_val g3
      exact ⟨G, c, rfl, ⟨h1, Nat.le_trans h2 g2.bel.size, ⟨R', g1⟩, h4.trans (g2.bel.mono h1)⟩, g3⟩
  · have e : passV now nw = 2 := by unfold passV; rw [if_pos ht]
    unfold passD passL passN
    rw [e, if_neg (by decide), if_neg (by decide), if_neg (by decide)]
    refine (pass_bad h3 ht).mono ?_
    rintro e w' ⟨rfl, rfl⟩
    exact ⟨none, 0, rfl, ⟨h1, h2, ⟨R, h3⟩, h4⟩, World.ownsRow_nil _ _ _ _⟩
end
end Go.Proofs.Ytakmcbakogjeeaa.Wh
