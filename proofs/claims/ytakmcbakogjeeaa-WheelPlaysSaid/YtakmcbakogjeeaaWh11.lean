/- Wheels (layer 25): the state against the list of timers; Stop, Set, At, Len over it; no condition. -/
import Derived.Test.YtakmcbakogjeeaaWh10
set_option linter.unusedVariables false
set_option linter.unusedSimpArgs false
namespace Go.Proofs.Ytakmcbakogjeeaa.Wh
open Go Go.RowKit Go.Maps Go.Proofs.Ytakmcbakogjeeaa.Rm Go.Proofs.Ytakmcbakogjeeaa.Rw
open Go.Proofs.YtakmcbakogjeeaaW.PrintWords Go.Proofs.YtakmcbakogjeeaaW.PrintLast Go.Proofs.YtakmcbakogjeeaaW.PrintMore
variable {W W' W2 : World} {b p m n : Nat} {now : Int} {kv : KV} {R : List Row} {L : List Tm} {x x' : Row} {F F' F2 : Nat → Prop}
/-- A wheel that keeps the timers L. -/
structure WhS (W : World) (b p m : Nat) (now : Int) (L : List Tm) (R : List Row) : Prop where
  at_ : ∃ kv, WhAt W b p m kv.length now kv R ∧ kv.Perm (kvOf L)
  rims : Rims now (R.map (·.2)) L
  tms : Tms L
  n0 : 0 ≤ now
  n1 : now ≤ 1125899906842624
  len : L.length ≤ 65536
  wf : ∀ t ∈ L, (Lit.int .i64 t.1).wf = true
theorem WhS.below (h : WhS W b p m now L R) (hb : Below W.heap.size W W') : WhS W' b p m now L R := by
  obtain ⟨kv, h1, h2⟩ := h.at_
  exact ⟨⟨kv, h1.below hb, h2⟩, h.rims, h.tms, h.n0, h.n1, h.len, h.wf⟩
theorem WhS.move (h : WhS W b p m now L R) (hk : ∀ k, foot p m R k → W'.heap[k]? = W.heap[k]?) : WhS W' b p m now L R := by
  obtain ⟨kv, h1, h2⟩ := h.at_
  exact ⟨⟨kv, h1.move hk, h2⟩, h.rims, h.tms, h.n0, h.n1, h.len, h.wf⟩
theorem WhS.short (h : WhS W b p m now L R) : ∀ x ∈ R, x.2.length ≤ 65536 := fun x hx => by
  obtain ⟨j, hj, e⟩ := List.mem_iff_getElem.1 hx
  have := h.rims.few (j := j) (l := x.2) (by rw [List.getElem?_map, List.getElem?_eq_getElem hj, e]; rfl)
  exact Nat.le_trans this h.len
theorem WhS.get (h : WhS W b p m now L R) (hr : WhAt W b p m n now kv R) (hp : kv.Perm (kvOf L)) (k : Int) : getL kv k = (findT k L).map (Value.int .i64) := get_of (rising_of hr.mp law) hp k
theorem kv_len {kv : KV} (hp : kv.Perm (kvOf L)) : kv.length = L.length := by rw [hp.length_eq]; unfold kvOf; rw [List.length_map]
theorem at_l (h : WhS W b p m now L R) {k : Int} (hwf : (Lit.int .i64 k).wf = true) :
    Calls Try.prog 35 #[.pointer (some ⟨p, 0, none⟩), .int .i64 k] W fun e w' => e = .returned (.tuple #[.int .i64 ((findT k L).getD 0), .bool (findT k L).isSome]) ∧ W = w' := by
  obtain ⟨kv, h1, h2⟩ := h.at_
  refine (at_s h1 hwf).mono ?_
  rintro e w' ⟨rfl, rfl⟩
  rw [h.get h1 h2]
  cases findT k L <;> exact ⟨rfl, rfl⟩
theorem len_l (h : WhS W b p m now L R) : Calls Try.prog 34 #[.pointer (some ⟨p, 0, none⟩)] W fun e w' => e = .returned (.int .i64 L.length) ∧ W = w' := by
  obtain ⟨kv, h1, h2⟩ := h.at_
  refine (len_s h1).mono ?_
  rintro e w' ⟨rfl, rfl⟩
  rw [kv_len h2]
  exact ⟨rfl, rfl⟩
theorem stop_l (h : WhS W b p m now L R) (hbw : b ≤ W.heap.size) {k : Int} (hwf : (Lit.int .i64 k).wf = true) :
    Calls Try.prog 36 #[.pointer (some ⟨p, 0, none⟩), .int .i64 k] W fun e w' => e = .returned (.bool (findT k L).isSome) ∧ ∃ R', WhS w' b p m now (without k L) R' ∧ Lf W w' b (foot p m R) (foot p m R') := by
  obtain ⟨kv, h1, h2⟩ := h.at_
  have hg := h.get h1 h2 k
  cases hf : findT k L with
  | none =>
    rw [hf] at hg
    refine (stop_miss h1 hwf hg).mono ?_
    rintro e w' ⟨rfl, hb⟩
    rw [without_self (find_none.1 hf)]
    exact ⟨rfl, R, h.below hb, Lf.of_below hb hbw _⟩
  | some a =>
    rw [hf] at hg
    have hm := (find_some h.tms.key).2 hf
    obtain ⟨a0, a1⟩ := h.tms.tm _ hm
    refine (stop_hit h1 hbw (fun x hx => by have := h.short x hx; omega) hwf hg a0 a1).mono ?_
    rintro e w' ⟨rfl, R', g1, g2, g3⟩
    refine ⟨rfl, R', ⟨⟨_, g1.tight, del_of h2 k⟩, ?_, h.tms.filter _, h.n0, h.n1, Nat.le_trans (without_len k L) h.len, fun t ht => h.wf t (List.mem_filter.1 ht).1⟩, g2⟩
    rw [g3]
    exact h.rims.swept h.tms.key hm
/-- What place leaves. -/
def Placed (W : World) (b p m n : Nat) (now : Int) (kv : KV) (R : List Row) (k a : Int) (w' : World) : Prop := ∃ (j : Nat) (x : Row) (v1 : Value), j < 577 ∧ R[j]? = some x ∧ (j < 576 → now < a ∧ spot (j / 64) a = j) ∧ WhAt w' b p m n now kv (R.set j (v1, x.2 ++ [(k, a)])) ∧ Lf W w' b (foot p m R) (foot p m (R.set j (v1, x.2 ++ [(k, a)])))
/-- place, both ways. -/
theorem place_s (h : WhAt W b p m n now kv R) (hbw : b ≤ W.heap.size) {k a : Int} (ha0 : 0 ≤ a) (ha1 : a ≤ 1125899906842624) (hn0 : 0 ≤ now) (hn1 : now ≤ 1125899906842624) (hl : ∀ x ∈ R, x.2.length + 1 ≤ 1099511627776) :
    Calls Try.prog 83 #[.pointer (some ⟨p, 0, none⟩), .agg #[.int .i64 k, .int .i64 a]] W fun e w' => e = .returned (.tuple #[]) ∧ Placed W b p m n now kv R k a w' := by
  by_cases ha : a ≤ now
  · obtain ⟨x, hj, _⟩ := h.get (j := 576) (by decide)
    refine (place_late h hbw hj (hl x (List.mem_of_getElem? hj)) ha).mono ?_
    rintro e w' ⟨rfl, v1, g1, g2⟩
    exact ⟨rfl, 576, x, v1, by decide, hj, fun h => absurd h (by decide), g1, g2⟩
  · refine (place_rim h hbw ha0 ha1 hn0 hn1 hl (by omega)).mono ?_
    rintro e w' ⟨rfl, r, x, v1, hr, hj, g1, g2⟩
    obtain ⟨s1, s2, s3⟩ := spot_lt (r := r) (t := a) hr
    exact ⟨rfl, spot r a, x, v1, by omega, hj, fun _ => ⟨by omega, by rw [s2]⟩, g1, g2⟩
theorem rims_set (h : Rims now (R.map (·.2)) L) {j : Nat} {x : Row} {v : Value} {t : Tm} (hj : R[j]? = some x) (hlt : j < 577) (hp : j < 576 → now < t.2 ∧ spot (j / 64) t.2 = j) : Rims now ((R.set j (v, x.2 ++ [t])).map (·.2)) (t :: L) := by
  have := h.add hlt t hp
  rw [getD_map hj] at this
  rw [map_set]
  exact this
theorem Rims.perm {S : List (List Tm)} {L' : List Tm} (h : Rims now S L) (hp : L.Perm L') : Rims now S L' := ⟨h.len, h.prm.trans hp, h.pos⟩
/-- What the map and the row do once a key is out. -/
theorem set_upd {k a : Int} (hs : WhS W b p m now (without k L) R) (hwf : (Lit.int .i64 k).wf = true) :
    ∃ kv', (Instr.mapUpdate 72 (.map (some m)) (.int .i64 k) (.int .i64 a)).run Try.prog W = .ok () (updW W m k (.int .i64 a)) ∧ WhAt (updW W m k (.int .i64 a)) b p m (kv'.length + 1) now (putL kv' k (.int .i64 a)) R ∧ Lf W (updW W m k (.int .i64 a)) b (foot p m R) (foot p m R) ∧ (putL kv' k (.int .i64 a)).Perm (kvOf (insT (k, a) (without k L))) ∧ W.cell? ⟨p, 579, none⟩ = some (.map (some m)) := by
  obtain ⟨kv', g1, g2⟩ := hs.at_
  have hlk := kv_len g2
  have hlw := hs.len
  obtain ⟨u1, u2, u3⟩ := upd_run g1.mp (by unfold maxLen; omega) hwf (.int .i64 a)
  obtain ⟨t1, t2⟩ := g1.turned u3 u2
  have hp := put_of g2 k a
  rw [without_self (fun x hx => without_ne x hx)] at hp
  exact ⟨kv', u1, t1, t2, hp, g1.c.2.2⟩
/-- A timer placed: the state again. -/
theorem set_fin {k a : Int} {w1 w2 w3 : World} {R1 R2 : List Row} {j : Nat} {x : Row} {v1 : Value} {kv' : KV} {n' : Nat} (hs : WhS w1 b p m now (without k L) R1) (hL : L.length < 65536 ∨ (without k L).length < 65536) (ha : 0 ≤ a ∧ a ≤ 1125899906842624)
    (hp : kv'.Perm (kvOf (insT (k, a) (without k L)))) (hj : j < 577) (hx : R1[j]? = some x) (hr : j < 576 → now < a ∧ spot (j / 64) a = j) (h3 : WhAt w3 b p m n' now kv' (R1.set j (v1, x.2 ++ [(k, a)]))) (hk : Tms (without k L)) (hwf : (Lit.int .i64 k).wf = true) :
    WhS w3 b p m now (insT (k, a) (without k L)) (R1.set j (v1, x.2 ++ [(k, a)])) := by
  refine ⟨⟨kv', h3.tight, hp⟩, ?_, hk.ins (fun y hy => without_ne y hy) ha.1 ha.2, hs.n0, hs.n1, ?_, fun t ht => by
    rcases insT_mem.1 ht with rfl | ht
    · exact hwf
    · exact hs.wf t ht⟩
  · exact (rims_set hs.rims hx hj hr).perm (insT_perm _ _).symm
  · rw [insT_len]
    have := without_len k L
    rcases hL with h | h <;> omega
set_option maxRecDepth 100000 in
set_option maxHeartbeats 1600000 in
theorem set_ok (h : WhS W b p m now L R) (hbw : b ≤ W.heap.size) {k a : Int} (hwf : (Lit.int .i64 k).wf = true) (ht : 0 ≤ a ∧ a ≤ 1125899906842624) (hgo : (findT k L).isSome = true ∨ L.length < 65536) :
    Calls Try.prog 33 #[.pointer (some ⟨p, 0, none⟩), .int .i64 k, .int .i64 a] W fun e w' => e = .returned (.int .i64 0) ∧ ∃ R', WhS w' b p m now (insT (k, a) (without k L)) R' ∧ Lf W w' b (foot p m R) (foot p m R') := by
  obtain ⟨kv, h1, h2⟩ := h.at_
  have HS := Aside0.mk h
  have CT := Aside0.mk (isTime_s a W)
  have CN := Aside0.mk (none_s h1)
  rw [show (decide (0 ≤ a) && decide (a ≤ 1125899906842624)) = true by simp [ht]] at CT
  have c0 := h1.c.2.2
  have hl := look_ok h1.mp hwf
  rw [h.get h1 h2] at hl
  have hlen : ∀ ty, (Builtin.len_ #[72] ty #[.map (some m)]).run Try.prog W = .ok (.int .i64 L.length) W := fun ty => by
    rw [Rm.len h1.mp Try.underlying72 ty, kv_len h2]
  have CS := Aside0.mk (stop_l h hbw hwf)
  have hsm : (without k L).length < 65536 ∨ L.length < 65536 := by
    rcases hgo with h0 | h0
    · refine .inl ?_
      cases hf : findT k L with
      | none => rw [hf] at h0; cases h0
      | some a0 =>
        have hm := (find_some h.tms.key).2 hf
        have hlt : (without k L).length < L.length := by
          refine Nat.lt_of_le_of_ne (without_len k L) (fun e => ?_)
          have e2 : without k L = L := List.filter_eq_self.2 (List.length_filter_eq_length_iff.1 e)
          rw [← e2] at hm
          exact without_ne _ hm rfl
        have := h.len
        omega
    · exact .inr h0
  have HT := Aside0.mk (And.intro ht (And.intro hsm (h.tms.filter (fun t => t.1 != k))))
  obtain ⟨r, hr⟩ : ∃ r, ((findT k L).map (Value.int .i64)).getD (.int .i64 0) = r := ⟨_, rfl⟩
  have hf : ((findT k L).map (Value.int .i64)).isSome = (findT k L).isSome := by cases findT k L <;> rfl
  rw [hr, hf] at hl
  obtain ⟨n0, n1⟩ := And.intro h.n0 h.n1
  clear h h1 h2 hr hf hsm
  have PL := Aside0.mk (fun w1 R1 (hs : WhS w1 b p m now (without k L) R1) (hb1 : b ≤ w1.heap.size) => by
    obtain ⟨kv', g1, g2, g3, g4, g5⟩ := set_upd (a := a) hs hwf
    exact (⟨kv', g1, g5, g2, g3, g4, place_s (k := k) (a := a) g2 (Nat.le_trans hb1 g3.bel.size) HT.out.1.1 HT.out.1.2 n0 n1 (fun x hx => by have := hs.short x hx; omega)⟩ : ∃ kv', (Instr.mapUpdate 72 (.map (some m)) (.int .i64 k) (.int .i64 a)).run Try.prog w1 = .ok () (updW w1 m k (.int .i64 a)) ∧ w1.cell? ⟨p, 579, none⟩ = some (.map (some m)) ∧ WhAt (updW w1 m k (.int .i64 a)) b p m (kv'.length + 1) now (putL kv' k (.int .i64 a)) R1 ∧ Lf w1 (updW w1 m k (.int .i64 a)) b (foot p m R1) (foot p m R1) ∧ (putL kv' k (.int .i64 a)).Perm (kvOf (insT (k, a) (without k L))) ∧ Calls Try.prog 83 #[.pointer (some ⟨p, 0, none⟩), .agg #[.int .i64 k, .int .i64 a]] (updW w1 m k (.int .i64 a)) fun e w' => e = .returned (.tuple #[]) ∧ Placed (updW w1 m k (.int .i64 a)) b p m (kv'.length + 1) now (putL kv' k (.int .i64 a)) R1 k a w'))
  generalize (findT k L).isSome = f at *
  have ways : ∀ (hd : f = true ∨ (f = false ∧ decide ((65536 : Int) ≤ (L.length : Int)) = false)), Calls Try.prog 33 #[.pointer (some ⟨p, 0, none⟩), .int .i64 k, .int .i64 a] W fun e w' => e = .returned (.int .i64 0) ∧ ∃ R', WhS w' b p m now (insT (k, a) (without k L)) R' ∧ Lf W w' b (foot p m R) (foot p m R') := by
    intro hd
    rcases hd with rfl | ⟨rfl, hlt⟩
    all_goals
      clear hgo
      go_enter Try.func33, Try.ntmps33
      go_wp2_with (first
        | (go_at_call 82; (with_reducible refine CN.out.mono ?_); rintro e w' ⟨rfl, rfl⟩)
        | (go_at_call 81; (with_reducible refine CT.out.mono ?_); rintro e w' ⟨rfl, rfl⟩)
        | (go_at_call 36; (with_reducible refine CS.out.mono ?_); rintro e w1 ⟨rfl, R1, hs, hl1⟩; obtain ⟨kv', hup, c1, g2, g3, g4, g5⟩ := PL.out w1 R1 hs (Nat.le_trans hbw hl1.bel.size); have H1 := Aside0.mk (And.intro hs (And.intro hl1 (And.intro g2 (And.intro g3 g4)))); have CP := Aside0.mk g5; clear hs hl1 g2 g3 g4 g5)
        | (go_at_call 83; (with_reducible refine CP.out.mono ?_); rintro e w3 ⟨rfl, hpl⟩; have H3 := Aside0.mk hpl; clear hpl))
      go_ret
      obtain ⟨j, x, v1, k1, k2, k3, k4, k5⟩ := H3.out
      exact ⟨rfl, _, set_fin (w2 := W) (R2 := R) H1.out.1 HT.out.2.1.symm HT.out.1 H1.out.2.2.2.2 k1 k2 k3 k4 HT.out.2.2 hwf, (H1.out.2.1.trans H1.out.2.2.2.1).trans k5⟩
  cases f with
  | true => exact ways (.inl rfl)
  | false =>
    rcases hgo with h | h
    · cases h
    · exact ways (.inr ⟨rfl, decide_eq_false (by omega)⟩)
set_option maxRecDepth 100000 in
theorem set_bad (h : WhS W b p m now L R) {k a : Int} (ht : ¬ (0 ≤ a ∧ a ≤ 1125899906842624)) :
    Calls Try.prog 33 #[.pointer (some ⟨p, 0, none⟩), .int .i64 k, .int .i64 a] W fun e w' => e = .returned (.int .i64 2) ∧ W = w' := by
  obtain ⟨kv, h1, h2⟩ := h.at_
  have CT := Aside0.mk (isTime_s a W)
  have CN := Aside0.mk (none_s h1)
  rw [show (decide (0 ≤ a) && decide (a ≤ 1125899906842624)) = false by
    by_cases h0 : 0 ≤ a
    · have : ¬ a ≤ 1125899906842624 := fun h => ht ⟨h0, h⟩
      simp [this]
    · simp [h0]] at CT
  clear h h1 h2 ht
  go_enter Try.func33, Try.ntmps33
  go_wp2_with (first
    | (go_at_call 82; (with_reducible refine CN.out.mono ?_); rintro e w' ⟨rfl, rfl⟩)
    | (go_at_call 81; (with_reducible refine CT.out.mono ?_); rintro e w' ⟨rfl, rfl⟩))
  go_ret
  exact ⟨rfl, rfl⟩
set_option maxRecDepth 100000 in
theorem set_full (h : WhS W b p m now L R) {k a : Int} (hwf : (Lit.int .i64 k).wf = true) (ht : 0 ≤ a ∧ a ≤ 1125899906842624) (hf : findT k L = none) (hl : 65536 ≤ L.length) :
    Calls Try.prog 33 #[.pointer (some ⟨p, 0, none⟩), .int .i64 k, .int .i64 a] W fun e w' => e = .returned (.int .i64 31) ∧ W = w' := by
  obtain ⟨kv, h1, h2⟩ := h.at_
  have CT := Aside0.mk (isTime_s a W)
  have CN := Aside0.mk (none_s h1)
  rw [show (decide (0 ≤ a) && decide (a ≤ 1125899906842624)) = true by simp [ht]] at CT
  have c0 := h1.c.2.2
  have hlk := look_ok h1.mp hwf
  rw [h.get h1 h2, hf] at hlk
  simp only [Option.map_none, Option.getD_none, Option.isSome_none] at hlk
  have hlen : ∀ ty, (Builtin.len_ #[72] ty #[.map (some m)]).run Try.prog W = .ok (.int .i64 L.length) W := fun ty => by
    rw [Rm.len h1.mp Try.underlying72 ty, kv_len h2]
  have hd : decide ((65536 : Int) ≤ (L.length : Int)) = true := decide_eq_true (by omega)
  clear h h1 h2 ht hf hl hwf
  go_enter Try.func33, Try.ntmps33
  go_wp2_with (first
    | (go_at_call 82; (with_reducible refine CN.out.mono ?_); rintro e w' ⟨rfl, rfl⟩)
    | (go_at_call 81; (with_reducible refine CT.out.mono ?_); rintro e w' ⟨rfl, rfl⟩))
  go_ret
  exact ⟨rfl, rfl⟩
/-- What Set answers. -/
def setV (L : List Tm) (k a : Int) : Int := if ¬ (0 ≤ a ∧ a ≤ 1125899906842624) then 2 else if findT k L = none ∧ 65536 ≤ L.length then 31 else 0
/-- What is kept behind it. -/
def setL (L : List Tm) (k a : Int) : List Tm := if setV L k a = 0 then insT (k, a) (without k L) else L
theorem set_l (h : WhS W b p m now L R) (hbw : b ≤ W.heap.size) {k a : Int} (hwf : (Lit.int .i64 k).wf = true) :
    Calls Try.prog 33 #[.pointer (some ⟨p, 0, none⟩), .int .i64 k, .int .i64 a] W fun e w' => e = .returned (.int .i64 (setV L k a)) ∧ ∃ R', WhS w' b p m now (setL L k a) R' ∧ Lf W w' b (foot p m R) (foot p m R') := by
  unfold setL setV
  by_cases ht : 0 ≤ a ∧ a ≤ 1125899906842624
  · rw [if_neg (fun hh => hh ht)]
    by_cases hf : findT k L = none ∧ 65536 ≤ L.length
    · rw [if_pos hf, if_neg (by decide)]
      refine (set_full h hwf ht hf.1 hf.2).mono ?_
      rintro e w' ⟨rfl, rfl⟩
      exact ⟨rfl, R, h, Lf.refl _ _ _⟩
    · rw [if_neg hf, if_pos rfl]
      refine set_ok h hbw hwf ht ?_
      cases hk : findT k L with
      | none => exact .inr (Nat.lt_of_not_le (fun hl => hf ⟨hk, hl⟩))
      | some _ => exact .inl rfl
  · rw [if_pos ht, if_neg (by decide)]
    refine (set_bad h ht).mono ?_
    rintro e w' ⟨rfl, rfl⟩
    exact ⟨rfl, R, h, Lf.refl _ _ _⟩
end Go.Proofs.Ytakmcbakogjeeaa.Wh
