/- Wheels (layer 25): Pass: what its first loop does; no condition. -/
import Derived.Test.YtakmcbakogjeeaaWh15
set_option linter.unusedVariables false
set_option linter.unusedSimpArgs false
namespace Go.Proofs.Ytakmcbakogjeeaa.Wh
open Go Go.RowKit Go.Maps Go.Proofs.Ytakmcbakogjeeaa.Rm Go.Proofs.Ytakmcbakogjeeaa.Rw
open Go.Proofs.YtakmcbakogjeeaaW.PrintWords Go.Proofs.YtakmcbakogjeeaaW.PrintLast Go.Proofs.YtakmcbakogjeeaaW.PrintMore
variable {W W' W2 : World} {b p m n : Nat} {now : Int} {kv : KV} {R : List Row} {L acc out : List Tm} {x x' : Row} {F F' F2 : Nat → Prop} {lv ov : Value} {lb : Nat}
/-- One timer appended, out of a block of its own; nothing drawn. -/
theorem run_add1 {v : Value} {L : List Tm} (h : RowAt W b (v, L)) (hbw : b ≤ W.heap.size) (hl : L.length + 1 ≤ 1099511627776) (t : Tm) : ∃ G c w1,
    (∀ ty, (Builtin.append_ #[69, 69] ty #[v, .slice (some ⟨W.heap.size, 0, none⟩) 1 1]).run Try.prog (W.alloc (.cells #[.int .i64 t.1, .int .i64 t.2] 160)) = .ok (.slice G (L.length + 1) c) w1) ∧
    RowAt w1 b (.slice G (L.length + 1) c, L ++ [t]) ∧ W.grownBy w1 v.ownBlock ∧ ((Value.slice G (L.length + 1) c).ownBlock = v.ownBlock ∨ (Value.slice G (L.length + 1) c).ownBlock = some (W.heap.size + 1)) := by
  have hb := below_alloc (Below.refl _ W) (.cells #[.int .i64 t.1, .int .i64 t.2] 160 (0, 0))
  have hnew := heap_alloc_new W (.cells #[.int .i64 t.1, .int .i64 t.2] 160 (0, 0))
  have h1 : RowAt (W.alloc (.cells #[.int .i64 t.1, .int .i64 t.2] 160)) b (v, L) := RowAt.move h (fun k hk => hb.block k (by
    obtain ⟨_, cs, hc⟩ := RowAt.block h hk
    exact (Array.getElem?_eq_some_iff.1 hc).1))
  have h2 : RowAt (W.alloc (.cells #[.int .i64 t.1, .int .i64 t.2] 160)) b (.slice (some ⟨W.heap.size, 0, none⟩) 1 1, [t]) :=
    ⟨rfl, .inr ⟨W.heap.size, 1, _, rfl, hbw, hnew, by simp, by unfold maxLen; omega, rfl, rfl⟩⟩
  obtain ⟨G, c, w1, r1, r2, r3, r4⟩ := run_app (x := (.slice (some ⟨W.heap.size, 0, none⟩) 1 1, [t])) h1 h2 (by have := hb.size; omega) (by simpa using hl)
  refine ⟨G, c, w1, r1, r2, ⟨r3.os, r3.tape, r3.output, Nat.le_trans hb.size r3.size, fun k hk hn => (r3.block k (Nat.lt_of_lt_of_le hk hb.size) hn).trans (hb.block k hk)⟩, ?_⟩
  rcases r4 with e | e
  · exact .inl e
  · refine .inr (e.trans ?_)
    simp
/-- Passing under way: the wheel, the row that is looked at, the row of those that are due. -/
structure PassAt (W : World) (b p m n : Nat) (now : Int) (kv : KV) (R : List Row) (lv : Value) (acc : List Tm) (ov : Value) (out : List Tm) : Prop where
  wh : WhAt W b p m n now kv R
  row : RowAt W b (lv, acc)
  out : RowAt W b (ov, out)
  ap1 : ∀ k, lv.ownBlock = some k → ¬ foot p m R k
  ap2 : ∀ k, ov.ownBlock = some k → ¬ foot p m R k
  ap3 : ∀ k, lv.ownBlock = some k → ov.ownBlock ≠ some k
def pfoot (p m : Nat) (R : List Row) (lv ov : Value) (k : Nat) : Prop := foot p m R k ∨ lv.ownBlock = some k ∨ ov.ownBlock = some k
theorem RowAt.lt (h : RowAt W b (lv, acc)) {k : Nat} (hk : lv.ownBlock = some k) : k < W.heap.size := by
  obtain ⟨_, cs, hc⟩ := RowAt.block h hk
  exact (Array.getElem?_eq_some_iff.1 hc).1
theorem PassAt.below (h : PassAt W b p m n now kv R lv acc ov out) (hb : Below W.heap.size W W') : PassAt W' b p m n now kv R lv acc ov out :=
  ⟨h.wh.below hb, h.row.move (fun k hk => hb.block k (h.row.lt hk)), h.out.move (fun k hk => hb.block k (h.out.lt hk)), h.ap1, h.ap2, h.ap3⟩
/-- A timer that is due: out of the map, onto the row. -/
theorem PassAt.take (h : PassAt W b p m n now kv R lv acc ov out) (hbw : b ≤ W.heap.size) {t : Tm} (hwf : (Lit.int .i64 t.1).wf = true) (hl : out.length + 1 ≤ 1099511627776) :
    ∃ wd G c w1, (∀ ty, (Builtin.delete_ #[72, 3] ty #[.map (some m), .int .i64 t.1]).run Try.prog (W.alloc (.cells #[.int .i64 t.1, .int .i64 t.2] 160)).drew = .ok (.tuple #[]) wd) ∧
      wd.cell? ⟨W.heap.size, 0, none⟩ = some (.int .i64 t.1) ∧ wd.cell? ⟨W.heap.size, 1, none⟩ = some (.int .i64 t.2) ∧ wd.cell? ⟨p, 579, none⟩ = some (.map (some m)) ∧
      (∀ ty, (Builtin.append_ #[69, 69] ty #[ov, .slice (some ⟨wd.heap.size, 0, none⟩) 1 1]).run Try.prog (wd.alloc (.cells #[.int .i64 t.1, .int .i64 t.2] 160)) = .ok (.slice G (out.length + 1) c) w1) ∧
      PassAt w1 b p m n now (delL kv t.1) R lv acc (.slice G (out.length + 1) c) (out ++ [t]) ∧ Lf W w1 b (pfoot p m R lv ov) (pfoot p m R lv (.slice G (out.length + 1) c)) := by
  have hbA := below_alloc (Below.refl _ W) (.cells #[.int .i64 t.1, .int .i64 t.2] 160 (0, 0))
  have hnew := heap_alloc_new W (.cells #[.int .i64 t.1, .int .i64 t.2] 160 (0, 0))
  have hbD : Below W.heap.size W (W.alloc (.cells #[.int .i64 t.1, .int .i64 t.2] 160)).drew := hbA.drew
  have hA := h.below hbD
  obtain ⟨wA, hwA⟩ : ∃ wA, (W.alloc (.cells #[.int .i64 t.1, .int .i64 t.2] 160)).drew = wA := ⟨_, rfl⟩
  have hnew2 : wA.heap[W.heap.size]? = some (.cells #[.int .i64 t.1, .int .i64 t.2] 160 (0, 0)) := by rw [← hwA]; exact hnew
  have hsA : W.heap.size < wA.heap.size := (Array.getElem?_eq_some_iff.1 hnew2).1
  rw [hwA] at hA hbD
  rw [hwA]
  obtain ⟨wd, hd1, hd2, hd3⟩ := Rm.drop hA.wh.mp law Try.underlying72 (keyInt Try.underlying3 hwf) 0
  obtain ⟨t1, t2⟩ := hA.wh.turned hd3 hd2
  have hnewd : wd.heap[W.heap.size]? = some (.cells #[.int .i64 t.1, .int .i64 t.2] 160 (0, 0)) := (t2.keep _ hsA (fun hf => by have := (h.wh.foot_ty hf).1; omega)).trans hnew2
  have hrow : RowAt wd b (lv, acc) := hA.row.move (fun k hk => t2.keep k (hA.row.lt hk) (hA.ap1 k hk))
  have hout : RowAt wd b (ov, out) := hA.out.move (fun k hk => t2.keep k (hA.out.lt hk) (hA.ap2 k hk))
  have hbd : b ≤ wd.heap.size := Nat.le_trans hbw (Nat.le_trans hbD.size t2.bel.size)
  obtain ⟨G, c, w1, r1, r2, r3, r4⟩ := run_add1 hout hbd hl t
  have hk1 : ∀ k, k < wd.heap.size → ov.ownBlock ≠ some k → w1.heap[k]? = wd.heap[k]? := fun k hk hn => r3.block k hk (fun e => hn e.symm)
  have hvb : ∀ k, (Value.slice G (out.length + 1) c).ownBlock = some k → ov.ownBlock = some k ∨ wd.heap.size ≤ k := fun k hk => by
    rcases r4 with e | e
    · exact .inl (e ▸ hk)
    · rw [e] at hk; injection hk with hk; exact .inr (by omega)
  refine ⟨wd, G, c, w1, fun ty => hd1, by rw [cell_of_row _ _ _ _ _ _ hnewd]; rfl, by rw [cell_of_row _ _ _ _ _ _ hnewd]; rfl, t1.c.2.2, r1, ⟨?_, ?_, r2, hA.ap1, fun k hk hf => ?_, fun k hk hk2 => ?_⟩, ⟨?_, fun k hk hn => ?_, fun k hk => ?_⟩⟩
  · exact t1.move (fun k hk => hk1 k (t1.foot_ty hk).1 (fun e => h.ap2 k e hk))
  · exact hrow.move (fun k hk => hk1 k (hrow.lt hk) (h.ap3 k hk))
  · rcases hvb k hk with e | e
    · exact h.ap2 k e hf
    · have := (t1.foot_ty hf).1; omega
  · rcases hvb k hk2 with e | e
    · exact h.ap3 k hk e
    · have := hrow.lt hk; omega
  · have hb1 : Below b wd w1 := ⟨r3.os, r3.tape, r3.output, r3.size, fun k hk => r3.block k (by omega) (fun e => by have := (RowAt.block hout e.symm).1; omega)⟩
    exact ((hbD.mono hbw).trans t2.bel).trans hb1
  · have e1 := hbD.block k hk
    have e2 := t2.keep k (Nat.lt_trans hk hsA) (fun hf => hn (.inl hf))
    have e3 := hk1 k (Nat.lt_of_lt_of_le (Nat.lt_trans hk hsA) t2.bel.size) (fun e => hn (.inr (.inr e)))
    exact e3.trans (e2.trans e1)
  · rcases hk with hk | hk | hk
    · exact .inl (.inl hk)
    · exact .inl (.inr (.inl hk))
    · rcases hvb k hk with e | e
      · exact .inl (.inr (.inr e))
      · exact .inr (Nat.le_trans (Nat.le_trans hbD.size t2.bel.size) e)
/-- A timer that is not: placed anew. -/
def Replaced (W : World) (b p m n : Nat) (now : Int) (kv : KV) (R : List Row) (lv : Value) (acc : List Tm) (ov : Value) (out : List Tm) (t : Tm) (w' : World) : Prop :=
  ∃ (j : Nat) (x : Row) (v1 : Value), j < 577 ∧ R[j]? = some x ∧ (j < 576 → now < t.2 ∧ spot (j / 64) t.2 = j) ∧ PassAt w' b p m n now kv (R.set j (v1, x.2 ++ [t])) lv acc ov out ∧ Lf W w' b (pfoot p m R lv ov) (pfoot p m (R.set j (v1, x.2 ++ [t])) lv ov)
theorem PassAt.place (h : PassAt W b p m n now kv R lv acc ov out) (hbw : b ≤ W.heap.size) {t : Tm} (ha0 : 0 ≤ t.2) (ha1 : t.2 ≤ 1125899906842624) (hn0 : 0 ≤ now) (hn1 : now ≤ 1125899906842624) (hl : ∀ x ∈ R, x.2.length + 1 ≤ 1099511627776) :
    Calls Try.prog 83 #[.pointer (some ⟨p, 0, none⟩), .agg #[.int .i64 t.1, .int .i64 t.2]] W fun e w' => e = .returned (.tuple #[]) ∧ Replaced W b p m n now kv R lv acc ov out t w' := by
  refine (place_s (k := t.1) (a := t.2) h.wh hbw ha0 ha1 hn0 hn1 hl).mono ?_
  rintro e w' ⟨rfl, j, x, v1, g1, g2, g3, g4, g5⟩
  have hn : ∀ k, k < W.heap.size → ¬ foot p m R k → ¬ foot p m (R.set j (v1, x.2 ++ [(t.1, t.2)])) k := fun k hk hf hf2 => by
    rcases g5.new k hf2 with e | e
    · exact hf e
    · omega
  refine ⟨rfl, j, x, v1, g1, g2, g3, ⟨g4, h.row.move (fun k hk => g5.keep k (h.row.lt hk) (h.ap1 k hk)), h.out.move (fun k hk => g5.keep k (h.out.lt hk) (h.ap2 k hk)), fun k hk => hn k (h.row.lt hk) (h.ap1 k hk), fun k hk => hn k (h.out.lt hk) (h.ap2 k hk), h.ap3⟩, ⟨g5.bel, fun k hk hn2 => g5.keep k hk (fun hf => hn2 (.inl hf)), fun k hk => ?_⟩⟩
  rcases hk with hk | hk | hk
  · rcases g5.new k hk with e | e
    · exact .inl (.inl e)
    · exact .inr e
  · exact .inl (.inr (.inl hk))
  · exact .inl (.inr (.inr hk))
/-! The plain law of the first loop. -/
def ahead (now : Int) (l : List Tm) : List Tm := l.filter (fun t => decide (now < t.2))
def dueL (now : Int) (l : List Tm) : List Tm := l.filter (fun t => decide (t.2 ≤ now))
/-- i timers of acc are looked at. -/
structure Mid (now : Int) (S1 : List (List Tm)) (acc : List Tm) (i : Nat) (S' : List (List Tm)) (kv : KV) (out : List Tm) : Prop where
  rims : Rims now S' (S1.flatten ++ ahead now (acc.take i))
  out : out = dueL now (acc.take i)
  mp : kv.Perm (kvOf (S1.flatten ++ ahead now (acc.take i) ++ acc.drop i))
theorem Mid.start {S1 : List (List Tm)} (hl : S1.length = 577) (hp : ∀ j, j < 576 → ∀ t ∈ S1.getD j [], now < t.2 ∧ spot (j / 64) t.2 = j) (hk : kv.Perm (kvOf (S1.flatten ++ acc))) : Mid now S1 acc 0 S1 kv [] := by
  refine ⟨⟨hl, ?_, hp⟩, rfl, ?_⟩
  · simp [ahead]
  · simpa [ahead] using hk
theorem take_snoc {i : Nat} {t : Tm} (h : acc[i]? = some t) : acc.take (i + 1) = acc.take i ++ [t] := by rw [List.take_add_one, h]; rfl
theorem drop_cons {i : Nat} {t : Tm} (h : acc[i]? = some t) : acc.drop i = t :: acc.drop (i + 1) := by
  obtain ⟨h1, h2⟩ := List.getElem?_eq_some_iff.1 h
  rw [List.drop_eq_getElem_cons h1, h2]
theorem Mid.take {S1 S' : List (List Tm)} {i : Nat} (h : Mid now S1 acc i S' kv out) (hr : Rising kv) {t : Tm} (ht : acc[i]? = some t) (hd : t.2 ≤ now) : Mid now S1 acc (i + 1) S' (delL kv t.1) (out ++ [t]) := by
  have e1 : ahead now (acc.take (i + 1)) = ahead now (acc.take i) := by
    rw [take_snoc ht]
    unfold ahead
    rw [List.filter_append]
    simp [show ¬ now < t.2 by omega]
  have e2 : dueL now (acc.take (i + 1)) = dueL now (acc.take i) ++ [t] := by
    rw [take_snoc ht]
    unfold dueL
    rw [List.filter_append]
    simp [hd]
  refine ⟨by rw [e1]; exact h.rims, by rw [e2, h.out], ?_⟩
  have hk := keys_of hr h.mp
  have hdel := del_of h.mp t.1
  rw [drop_cons ht] at hk hdel
  rw [e1]
  have e3 : without t.1 (S1.flatten ++ ahead now (acc.take i) ++ t :: acc.drop (i + 1)) = S1.flatten ++ ahead now (acc.take i) ++ acc.drop (i + 1) := by
    obtain ⟨_, h2, h3⟩ := List.pairwise_append.1 hk
    have h4 := (List.pairwise_cons.1 h2).1
    unfold without
    rw [List.filter_append, List.filter_cons]
    simp only [bne_self_eq_false, Bool.false_eq_true, if_false]
    congr 1
    · exact without_self (fun y hy => h3 y hy t List.mem_cons_self)
    · exact without_self (fun y hy e => h4 y hy e.symm)
  rw [e3] at hdel
  exact hdel
theorem Mid.place {S1 : List (List Tm)} {i : Nat} (h : Mid now S1 acc i (R.map (·.2)) kv out) {t : Tm} (ht : acc[i]? = some t) (hd : now < t.2) {j : Nat} {x : Row} {v : Value} (hj : j < 577) (hx : R[j]? = some x) (hp : j < 576 → now < t.2 ∧ spot (j / 64) t.2 = j) : Mid now S1 acc (i + 1) ((R.set j (v, x.2 ++ [t])).map (·.2)) kv out := by
  have e1 : ahead now (acc.take (i + 1)) = ahead now (acc.take i) ++ [t] := by
    rw [take_snoc ht]
    unfold ahead
    rw [List.filter_append]
    simp [hd]
  have e2 : dueL now (acc.take (i + 1)) = dueL now (acc.take i) := by
    rw [take_snoc ht]
    unfold dueL
    rw [List.filter_append]
    simp [show ¬ t.2 ≤ now by omega]
  refine ⟨?_, by rw [e2, h.out], ?_⟩
  · rw [e1, ← List.append_assoc]
    exact (rims_set h.rims hx hj hp).perm (List.perm_append_singleton t _).symm
  · rw [e1, ← List.append_assoc]
    have := h.mp
    rw [drop_cons ht] at this
    simpa using this
/-- At the end: what is kept, what is due. -/
theorem Mid.fin {S1 S' : List (List Tm)} (h : Mid now S1 acc acc.length S' kv out) (hp : (S1.flatten ++ acc).Perm L) (ha : ∀ t ∈ S1.flatten, now < t.2) : Rims now S' (ahead now L) ∧ kv.Perm (kvOf (ahead now L)) ∧ out.Perm (dueL now L) := by
  have h1 := h.rims
  have h2 := h.mp
  have h3 := h.out
  rw [List.take_length] at h1 h2 h3
  rw [List.drop_length, List.append_nil] at h2
  have e1 : ahead now S1.flatten = S1.flatten := List.filter_eq_self.2 (fun t ht => by simp [ha t ht])
  have e2 : dueL now S1.flatten = [] := List.filter_eq_nil_iff.2 (fun t ht => by have := ha t ht; simp; omega)
  have p1 : (S1.flatten ++ ahead now acc).Perm (ahead now L) := by
    have := hp.filter (fun t => decide (now < t.2))
    rw [List.filter_append] at this
    unfold ahead at e1 ⊢
    rwa [e1] at this
  have p2 : (dueL now acc).Perm (dueL now L) := by
    have := hp.filter (fun t => decide (t.2 ≤ now))
    rw [List.filter_append] at this
    unfold dueL at e2 ⊢
    rwa [e2, List.nil_append] at this
  exact ⟨h1.perm p1, h2.trans (p1.map _), by rw [h3]; exact p2⟩
end Go.Proofs.Ytakmcbakogjeeaa.Wh
