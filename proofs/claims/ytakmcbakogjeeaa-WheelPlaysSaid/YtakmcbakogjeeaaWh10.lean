/- Wheels (layer 25): a row swept of a key; Stop; no condition. -/
import Derived.Test.YtakmcbakogjeeaaWh9
set_option linter.unusedVariables false
set_option linter.unusedSimpArgs false
namespace Go.Proofs.Ytakmcbakogjeeaa.Wh
open Go Go.RowKit Go.Maps Go.Proofs.Ytakmcbakogjeeaa.Rm Go.Proofs.Ytakmcbakogjeeaa.Rw
open Go.Proofs.YtakmcbakogjeeaaW.PrintWords Go.Proofs.YtakmcbakogjeeaaW.PrintLast Go.Proofs.YtakmcbakogjeeaaW.PrintMore
variable {W W' W2 : World} {b p m n : Nat} {now : Int} {kv : KV} {R : List Row} {x x' : Row} {F F' F2 : Nat → Prop}
theorem wp_del {P : Program} {o : Oper} {a : Act} {K : Act → World → Prop} {Q : Exit → Act → World → Prop} {s y : Operand} {t t2 : TypeId} {w : World}
    (ho : o.op = .call { callee := .builtin .delete, args := #[s, y], argTypes := #[t, t2] }) {v u r : Value} {w1 : World} (hs : a.eval s = v) (hy : a.eval y = u)
    (hr : ∀ ty, (Builtin.delete_ #[t, t2] ty #[v, u]).run P w = .ok r w1) (h : K (a.put o.dst r) w1) : o.wp P a w K Q := by
  have hr' := hr o.type
  unfold Oper.wp execOp
  simp only [ho, resolve, invoke, builtin, Sem.run_bind, Sem.run_pure, Result.andThen_ok, List.map_toArray, List.map_cons, List.map_nil, hs, hy, hr']
  exact h
theorem key_keep {kb : Nat} {k : Int} (hk : KeyAt W kb k) (h : WhAt W b p m n now kv R) (hl : Lf W W' b (foot p m R) F') : KeyAt W' kb k := hl.kt h hk (by decide) (by decide)
set_option maxRecDepth 100000 in
theorem sweep_s (h : WhAt W b p m n now kv R) (hbw : b ≤ W.heap.size) {j : Nat} (hj : R[j]? = some x) (hl : x.2.length ≤ 1099511627776) {kb : Nat} {k : Int} (hk : KeyAt W kb k) :
    Calls Try.prog 84 #[.pointer (some ⟨p, 2 + j, none⟩), .pointer (some ⟨kb, 0, none⟩)] W fun e w' => e = .returned (.tuple #[]) ∧ ∃ v', WhAt w' b p m n now kv (R.set j (v', without k x.2)) ∧ Lf W w' b (foot p m R) (foot p m (R.set j (v', without k x.2))) ∧ KeyAt w' kb k := by
  have hrow := h.row x (List.mem_of_getElem? hj)
  have CD := Aside0.mk (del_s hrow hl hk)
  obtain ⟨G0, c0, hv0⟩ := hrow.val
  have q0 := h.cr hj
  have HP := Aside0.mk h
  have HJ := Aside0.mk hj
  have HK := Aside0.mk hk
  have HV := Aside0.mk hv0
  rw [hv0] at CD q0
  clear h hj hl hk hrow hv0
  go_enter Try.func84, Try.ntmps84
  go_wp2_with (go_at_call 85; (with_reducible refine CD.out.mono ?_); rintro e w1 ⟨G, c, rfl, h1, h2, h3⟩; have HS := Aside0.mk (HP.out.setRow hbw HJ.out (by rw [HV.out]; exact h2) h1 (.inl (h3.trans (by rw [HV.out])))); have s0 : w1.cell? ⟨p, 2 + j, none⟩ = some (.slice G0 x.2.length c0) := (World.cell?_of_block (a := ⟨p, 2 + j, none⟩) HS.out.1).trans q0; have f0 : w1.frozen? ⟨p, 2 + j, none⟩ = false := blk_frozen (HS.out.1.trans HP.out.blk) _; clear h1 h2 h3)
  go_end0
  exact ⟨rfl, _, HS.out.2.1, HS.out.2.2, key_keep HK.out HP.out HS.out.2.2⟩
theorem map_set {j : Nat} (v : Value) (l : List Tm) : (R.set j (v, l)).map (·.2) = (R.map (·.2)).set j l := by rw [List.map_set]
theorem getD_map {j : Nat} (hj : R[j]? = some x) : (R.map (·.2)).getD j [] = x.2 := by rw [List.getD_eq_getElem?_getD, List.getElem?_map, hj]; rfl
theorem short_set {N : Nat} (hl : ∀ x ∈ R, x.2.length ≤ N) {j : Nat} (hj : R[j]? = some x) {v : Value} {k : Int} : ∀ y ∈ R.set j (v, without k x.2), y.2.length ≤ N := fun y hy => by
  rcases List.mem_or_eq_of_mem_set hy with h | rfl
  · exact hl y h
  · exact Nat.le_trans (without_len _ _) (hl x (List.mem_of_getElem? hj))
set_option maxRecDepth 100000 in
theorem stop_miss (h : WhAt W b p m n now kv R) {k : Int} (hwf : (Lit.int .i64 k).wf = true) (hg : getL kv k = none) :
    Calls Try.prog 36 #[.pointer (some ⟨p, 0, none⟩), .int .i64 k] W fun e w' => e = .returned (.bool false) ∧ Below W.heap.size W w' := by
  have HB1 := Aside0.mk (below_alloc (Below.refl _ W) (.cells #[.int .i64 k] 3 (0, 0)))
  have CA := Aside0.mk (at_s (h.below HB1.out) hwf)
  rw [hg] at CA
  clear h hwf hg
  go_enter Try.func36, Try.ntmps36
  go_wp2_with (go_at_call 35; (with_reducible refine CA.out.mono ?_); rintro e w' ⟨rfl, rfl⟩)
  go_ret
  exact ⟨rfl, HB1.out⟩
set_option maxRecDepth 100000 in
set_option maxHeartbeats 1600000 in
theorem stop_hit (h : WhAt W b p m n now kv R) (hbw : b ≤ W.heap.size) (hl : ∀ x ∈ R, x.2.length ≤ 1099511627776) {k a : Int} (hwf : (Lit.int .i64 k).wf = true) (hg : getL kv k = some (.int .i64 a)) (ha0 : 0 ≤ a) (ha1 : a ≤ 1125899906842624) :
    Calls Try.prog 36 #[.pointer (some ⟨p, 0, none⟩), .int .i64 k] W fun e w' => e = .returned (.bool true) ∧ ∃ R', WhAt w' b p m n now (delL kv k) R' ∧ Lf W w' b (foot p m R) (foot p m R') ∧ R'.map (·.2) = sweepL k a 9 (R.map (·.2)) := by
  obtain ⟨kb, hkb⟩ : ∃ kb, W.heap.size = kb := ⟨_, rfl⟩
  have HB1 := Aside0.mk (below_alloc (Below.refl _ W) (.cells #[.int .i64 k] 3 (0, 0)))
  have hnw := heap_alloc_new W (.cells #[.int .i64 k] 3 (0, 0))
  have HP := Aside0.mk (h.below HB1.out)
  have CA := Aside0.mk (at_s (h.below HB1.out) hwf)
  rw [hg] at CA
  rw [hkb] at hnw
  go_enter Try.func36, Try.ntmps36
  go_upto_region 1 with fail
  generalize hW1 : W.alloc (.cells #[.int .i64 k] 3 (0, 0)) = W1 at *
  have HK1 := Aside0.mk (show KeyAt W1 kb k from hnw)
  have hsz : b ≤ W1.heap.size := Nat.le_trans hbw HB1.out.size
  have k0 : W1.cell? ⟨kb, 0, none⟩ = some (.int .i64 k) := by rw [cell_of_row _ _ _ _ _ _ hnw]; rfl
  have c0 := HP.out.c.2.2
  have hPd := HP.out.below (Below.refl _ W1).drew
  obtain ⟨wd, hd1, hd2, hd3⟩ := Rm.drop hPd.mp law Try.underlying72 (keyInt Try.underlying3 hwf) 0
  have hdel : ∀ ty, (Builtin.delete_ #[72, 3] ty #[.map (some m), .int .i64 k]).run Try.prog W1.drew = .ok (.tuple #[]) wd := fun ty => hd1
  obtain ⟨t1, t2⟩ := hPd.turned hd3 hd2
  have HD := Aside0.mk (And.intro t1 ((Lf.of_below (Below.refl _ W1).drew hsz _).trans t2))
  have HKD := Aside0.mk (key_keep HK1.out HP.out HD.out.2)
  have d0 := HD.out.1.c.2.2
  have d1 : wd.cell? ⟨kb, 0, none⟩ = some (.int .i64 k) := by rw [cell_of_row _ _ _ _ _ _ HKD.out]; rfl
  obtain ⟨x6, hx6, _⟩ := HD.out.1.get (j := 576) (by decide)
  have hl6 := hl x6 (List.mem_of_getElem? hx6)
  have HX6 := Aside0.mk (And.intro hx6 hl6)
  have HL := Aside0.mk hl
  have hszd : b ≤ wd.heap.size := Nat.le_trans hbw (Nat.le_trans HB1.out.size HD.out.2.bel.size)
  clear h hwf hg hnw hW1 hPd hd1 hd2 hd3 t1 t2 hx6 hl6 hl
  go_upto_region 4 with (go_at_call 35; (with_reducible refine CA.out.mono ?_); rintro e w' ⟨rfl, rfl⟩)
  go_region_held3 (fun w' => w'.cell? ⟨p, 579, none⟩ = some (.map (some m)) ∧ w'.cell? ⟨kb, 0, none⟩ = some (.int .i64 k)) (first | exact ⟨c0, k0⟩ | exact ⟨d0, d1⟩) (fail)
  go_wp2_with (go_at_call 84; (with_reducible refine (sweep_s HD.out.1 hszd (j := 576) HX6.out.1 HX6.out.2 HKD.out).mono ?_); rintro e w2 ⟨rfl, v6, h2, h3, h4⟩; have HS := Aside0.mk (show ∃ (q : Nat) (R' : List Row), (0 : Int) = (q : Int) ∧ q ≤ 9 ∧ WhAt w2 b p m n now (delL kv k) R' ∧ Lf W1 w2 b (foot p m R) (foot p m R') ∧ KeyAt w2 kb k ∧ R'.map (·.2) = sweepL k a q (R.map (·.2)) ∧ (∀ x ∈ R', x.2.length ≤ 1099511627776) from ⟨0, _, rfl, by omega, h2, HD.out.2.trans h3, h4, by rw [map_set]; unfold sweepL; rw [getD_map HX6.out.1], short_set HL.out HX6.out.1⟩); clear h2 h3 h4)
  go_loopw [28] (fun iv w2 => ∃ (q : Nat) (R' : List Row), iv = .int .i64 q ∧ q ≤ 9 ∧ WhAt w2 b p m n now (delL kv k) R' ∧ Lf W1 w2 b (foot p m R) (foot p m R') ∧ KeyAt w2 kb k ∧ R'.map (·.2) = sweepL k a q (R.map (·.2)) ∧ (∀ x ∈ R', x.2.length ≤ 1099511627776)) (fun iv _ => 9 - (intOf iv).toNat)
  case atStart =>
    obtain ⟨q, R', hq, h⟩ := HS.out
    obtain rfl : q = 0 := by omega
    exact ⟨0, R', rfl, h⟩
  case round =>
    clear HS
    obtain ⟨q, R', rfl, hq, h1, h2, h3, h4, h5⟩ := hrel
    have H1 := Aside0.mk h1
    have H2 := Aside0.mk (And.intro h2 (And.intro h4 h5))
    have H3 := Aside0.mk h3
    clear h1 h2 h3 h4 h5
    by_cases hlt : q < 9
    · obtain ⟨s, e2, hs, hsp⟩ := spot_s q a ha0 ha1
      have e1 : IntKind.i64.wrap (6 * (q : Int)) = 6 * q := by rw [IntKind.wrap_i64]; omega
      have hr1 : (q : Int) < 9 := by omega
      have hr2 : ¬ (q : Int) < 0 := by omega
      have hs1 : (s : Int) < 64 := by omega
      have hs2 : ¬ (s : Int) < 0 := by omega
      obtain ⟨x, hj, hrow⟩ := H1.out.get (j := q * 64 + s) (by omega)
      have hjl := H2.out.2.2 x (List.mem_of_getElem? hj)
      have hszr : b ≤ wr.drew.heap.size := Nat.le_trans hbw (Nat.le_trans HB1.out.size H2.out.1.bel.size)
      have hsw := sweep_s (H1.out.below (Below.refl _ wr).drew) hszr hj hjl (k := k) (kb := kb) (by exact H3.out)
      rw [← Nat.add_assoc] at hsw
      have HSW := Aside0.mk hsw
      have HJ := Aside0.mk (And.intro hj hsp)
      have hszw : b ≤ wr.heap.size := hszr
      clear hsw hj hjl hrow hsp hszr
      go_upto_region 10 with fail
      go_region_held3 (fun w' => True) (exact trivial) (first
        | (go_at_call 84; (with_reducible refine HSW.out.mono ?_); rintro e w3 ⟨rfl, v', g2, g3, g4⟩; have HG := Aside0.mk (And.intro g2 (And.intro g3 g4)); clear g2 g3 g4))
      go_wp2_with fail
      refine ⟨⟨q + 1, _, by simp, by omega, HG.out.1, (H2.out.1.trans (Lf.of_below (Below.refl _ wr).drew hszw _)).trans HG.out.2.1, HG.out.2.2, ?_, short_set H2.out.2.2 HJ.out.1⟩, by simp [intOf]; omega⟩
      rw [map_set, H2.out.2.1]
      conv => rhs; unfold sweepL
      rw [HJ.out.2, ← H2.out.2.1, getD_map HJ.out.1]
    · obtain rfl : q = 9 := by omega
      go_wp2_with fail
      go_ret
      exact ⟨rfl, R', H1.out, (Lf.of_below HB1.out hbw _).trans H2.out.1, H2.out.2.1⟩
end Go.Proofs.Ytakmcbakogjeeaa.Wh
