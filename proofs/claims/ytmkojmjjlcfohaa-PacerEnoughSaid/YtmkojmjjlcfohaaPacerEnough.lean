/- PacerEnough: the law's walk; no condition but the reach of its arguments. -/
import Derived.Test.YtmkojmjjlcfohaaPacE3
set_option linter.unusedVariables false
set_option linter.unusedSimpArgs false
namespace Go.Proofs.Ytmkojmjjlcfohaa.Pc
open Go.RowKit Go.Lib
theorem size_alloc (w : World) (o : Obj) : (w.alloc o).heap.size = w.heap.size + 1 := by simp
/-- The act's cells. -/
structure Actc (w : World) (s : Nat) (b n wi rt : Int) : Prop where
  a0 : w.cell? ⟨s, 0, none⟩ = some (.int .i64 b)
  a1 : w.cell? ⟨s, 1, none⟩ = some (.int .i64 n)
  a2 : w.cell? ⟨s, 2, none⟩ = some (.int .i64 wi)
  a3 : w.cell? ⟨s, 3, none⟩ = some (.int .i64 rt)
theorem Actc.below {B : Nat} {w w' : World} {s : Nat} {b n wi rt : Int} (h : Actc w s b n wi rt) (hs : s < B) (hb : Below B w w') : Actc w' s b n wi rt :=
  ⟨(hb.cell hs).trans h.a0, (hb.cell hs).trans h.a1, (hb.cell hs).trans h.a2, (hb.cell hs).trans h.a3⟩
/-- The moment that When tells: enough then, and not a moment ahead. -/
theorem ceil_facts (n a F k : Int) (hn : 1 ≤ n) (ha : 1 ≤ a) (hF : 1 ≤ F) (hk : k = (n * a + (F - 1)) / F) : 1 ≤ k ∧ n ≤ k * F / a ∧ (k - 1) * F / a < n := by
  have hna : 1 * 1 ≤ n * a := Int.mul_le_mul hn ha (by omega) (by omega)
  have h1 := Int.ediv_mul_le (n * a + (F - 1)) (show F ≠ 0 by omega)
  have h2 := Int.lt_ediv_add_one_mul_self (n * a + (F - 1)) (show 0 < F by omega)
  rw [← hk] at h1 h2
  rw [Int.add_mul, Int.one_mul] at h2
  refine ⟨?_, ?_, ?_⟩
  · rw [hk]; exact Int.le_ediv_of_mul_le (by omega) (by omega)
  · exact Int.le_ediv_of_mul_le (by omega) (by omega)
  · apply Int.ediv_lt_of_lt_mul (by omega)
    rw [Int.sub_mul, Int.one_mul]
    omega
theorem bud_at (HD : DivOk) (p : Nat) (B T d wi rt wf rf : Int) (hT : 0 ≤ T) (hT1 : T ≤ 1125899906842624) (hd : 0 ≤ d) (hd1 : d ≤ 1073741824) (hB : 0 ≤ B) (hB1 : B ≤ 12000) (h0 : 0 ≤ wi) (hwf : wf = min wi 1073741824) (h2 : 0 ≤ rt) (hrf : rf = min (max rt 1) 1125899906842624) (W : World) (hP : Pac W p 12000 B T) :
    Calls Try.prog 13 #[.pointer (some ⟨p, 0, none⟩), .int .i64 (T + d), .int .i64 wi, .int .i64 rt] W fun e w' => e = .returned (.int .i64 (B + min (d * (5 * wf) / (4 * rf)) (12000 - B))) ∧ Below W.heap.size W w' := by
  by_cases hz : d = 0
  · subst hz
    have := budget_stay W p 12000 B T (T + 0) wi rt hP (by decide) (by omega) (by omega) h0 h2
    rw [Int.zero_mul, Int.zero_ediv, show B + min 0 (12000 - B) = B by omega]
    exact this
  · exact budget_any HD W p 12000 B T (T + d) wi rt wf rf d hP (by decide) hT (by omega) (by omega) (by omega) hB hB1 (by decide) h0 hwf h2 hrf
theorem Actc.belowS {w w' : World} {s : Nat} {b n wi rt : Int} (h : Actc w s b n wi rt) (hb : Below w.heap.size w w') : Actc w' s b n wi rt :=
  h.below (World.block_lt_of_cell? w _ h.a0) hb
theorem bud_full (HD : DivOk) (p : Nat) (n wi rt : Int) (hn : 0 ≤ n) (hn1 : n ≤ 1125899906842624) (h0 : 0 ≤ wi) (h2 : 0 ≤ rt) (W : World) (hP : Pac W p 12000 12000 0) :
    Calls Try.prog 13 #[.pointer (some ⟨p, 0, none⟩), .int .i64 n, .int .i64 wi, .int .i64 rt] W fun e w' => e = .returned (.int .i64 12000) ∧ Below W.heap.size W w' := by
  by_cases hz : n = 0
  · exact budget_stay W p 12000 12000 0 n wi rt hP (by decide) hn (by omega) h0 h2
  · have := budget_any HD W p 12000 12000 0 n wi rt _ _ _ hP (by decide) (by decide) (by omega) (by omega) rfl (by decide) (by decide) (by decide) h0 rfl h2 rfl
    have q0 : 0 ≤ min (n - 0) 1073741824 * (5 * min wi 1073741824) / (4 * min (max rt 1) 1125899906842624) := Int.ediv_nonneg (Int.mul_nonneg (by omega) (by omega)) (by omega)
    generalize min (n - 0) 1073741824 * (5 * min wi 1073741824) / (4 * min (max rt 1) 1125899906842624) = q at *
    rw [show (12000 : Int) + min q (12000 - 12000) = 12000 by omega] at this
    exact this
set_option maxRecDepth 100000 in
set_option maxHeartbeats 3200000 in
theorem enough_walk (HD : DivOk) (b n wi rt ak x : Int) (hb0 : -9223372036854775808 ≤ b) (hb1 : b ≤ 9223372036854775807) (hn0 : -9223372036854775808 ≤ n) (hn1 : n ≤ 9223372036854775807) (w : World) :
    Calls Try.prog 3 #[.agg #[.int .i64 b, .int .i64 n, .int .i64 wi, .int .i64 rt, .int .i64 ak], .int .i64 x] w fun e w' => e = .returned (.bool true) ∧ Below w.heap.size w w' := by
  go_enter Try.func3, Try.ntmps3
  go_wp2_with fail
  refine (new_ok _ 1200 (by omega) (by omega)).mono ?_
  rintro e w1 ⟨rfl, hb1', hp1⟩
  have hA : Actc w1 w.heap.size b n wi rt := (Actc.mk (by go_simp) (by go_simp) (by go_simp) (by go_simp)).below (by simp) hb1'
  have hB0 : Below w.heap.size w w1 := Below.trans (balloc (Below.refl _ _) _) (hb1'.mono (by simp))
  have hp2 : Pac w1 (w.heap.size + 1) 12000 12000 0 := by rw [← size_alloc w (.cells #[.int .i64 b, .int .i64 n, .int .i64 wi, .int .i64 rt, .int .i64 ak] 23)]; exact hp1
  clear hb1' hp1
  have HA := Aside0.mk hA
  have HB := Aside0.mk hB0
  have HP := Aside0.mk hp2
  clear hA hB0 hp2
  simp only [size_alloc]
  go_wp2_with fail
  refine (budget_stay _ _ 12000 12000 0 0 0 0 HP.out (by decide) (by decide) (by decide) (by decide) (by decide)).mono ?_
  rintro e w2 ⟨rfl, hb⟩
  have HP2 := Aside0.mk (HP.out.below hb)
  have HA2 := Aside0.mk (HA.out.belowS hb)
  have HB2 := Aside0.mk (HB.out.trans (hb.mono HB.out.size))
  clear hb HA HB HP
  obtain ⟨a0, a1, a2, a3⟩ := HA2.out
  by_cases bad : (b < 0 ∨ n < 0 ∨ wi < 0 ∨ rt < 0) ∨ 1125899906842624 < n
  · have Hbad := Aside0.mk bad
    clear bad
    go_wp2_with fail
    refine (sent_err _ _ 12000 12000 0 b n wi rt HP2.out (by decide) Hbad.out).mono ?_
    rintro e w3 ⟨rfl, hw⟩
    rw [← hw]
    clear hw
    go_wp2_with fail
    refine (budget_stay _ _ 12000 12000 0 0 0 0 HP2.out (by decide) (by decide) (by decide) (by decide) (by decide)).mono ?_
    rintro e w4 ⟨rfl, hb⟩
    have HB4 := Aside0.mk (HB2.out.trans (hb.mono HB2.out.size))
    clear hb
    go_wp2_with fail
    go_ret
    exact ⟨rfl, HB4.out⟩
  · have b0 : 0 ≤ b := by omega
    have n0 : 0 ≤ n := by omega
    have n1 : n ≤ 1125899906842624 := by omega
    have w0 : 0 ≤ wi := by omega
    have r0 : 0 ≤ rt := by omega
    clear bad
    obtain ⟨B, hB⟩ : ∃ B, (if 12000 - b > 0 then 12000 - b else 0) = B := ⟨_, rfl⟩
    have B0 : 0 ≤ B := by rw [← hB]; split <;> omega
    have B1 : B ≤ 12000 := by rw [← hB]; split <;> omega
    have HBx := Aside0.mk hB
    clear hB
    have p1 : w.heap.size + 1 ≤ w2.heap.size := World.block_lt_of_cell? w2 _ a0
    have HS := Aside0.mk p1
    clear p1
    go_wp2_with fail
    refine (sent_ok _ (w.heap.size + 1) (w.heap.size + 1) 12000 12000 0 b n wi rt 12000 B (Nat.le_refl _) HS.out HP2.out (by decide) b0 n0 n1 n0 w0 r0 (bud_full HD _ n wi rt n0 n1 w0 r0 _ HP2.out) (by omega) (by omega) HBx.out).mono ?_
    rintro e w3 ⟨rfl, hb, hp⟩
    have HP3 := Aside0.mk hp
    have HA3 := Aside0.mk (HA2.out.below (Nat.lt_succ_self _) hb)
    have HB3 := Aside0.mk (HB2.out.trans (hb.mono (Nat.le_succ _)))
    clear hb hp a0 a1 a2 a3
    obtain ⟨a0, a1, a2, a3⟩ := HA3.out
    clear HBx hb0 hb1 hn0 hn1 HA2 HP2 HB2 HS
    go_wp2_with fail
    by_cases x0 : x < 0
    · refine (when_err _ _ 12000 B n x wi rt HP3.out (by decide) x0).mono ?_
      rintro e w4 ⟨rfl, hw⟩
      rw [← hw]
      clear hw
      go_wp2_with fail
      go_ret
      exact ⟨rfl, HB3.out⟩
    have nx0 : decide (x < 0) = false := decide_eq_false x0
    by_cases x1 : 12000 < x
    · refine (when_big _ _ 12000 B n x wi rt HP3.out (by decide) (by omega) w0 r0 x1).mono ?_
      rintro e w4 ⟨rfl, hw⟩
      rw [← hw]
      clear hw
      go_wp2_with fail
      go_ret
      exact ⟨rfl, HB3.out⟩
    have nx1 : decide (12000 < x) = false := decide_eq_false x1
    by_cases x2 : x ≤ B
    · refine (when_now _ _ 12000 B n x wi rt HP3.out (by decide) (by omega) w0 r0 (by omega) x2).mono ?_
      rintro e w4 ⟨rfl, hw⟩
      rw [← hw]
      clear hw
      go_wp2_with fail
      refine (budget_stay _ _ 12000 B n n wi rt HP3.out (by decide) n0 (Int.le_refl _) w0 r0).mono ?_
      rintro e w5 ⟨rfl, hb⟩
      have HA5 := Aside0.mk (HA3.out.belowS hb)
      have HB5 := Aside0.mk (HB3.out.trans (hb.mono HB3.out.size))
      clear hb a0 a1 a2 a3
      obtain ⟨a0, a1, a2, a3⟩ := HA5.out
      go_wp2_with fail
      go_ret
      exact ⟨rfl, HB5.out⟩
    by_cases x3 : wi = 0
    · subst x3
      refine (when_none _ _ 12000 B n x rt HP3.out (by decide) (by omega) r0 (by omega) (by omega)).mono ?_
      rintro e w4 ⟨rfl, hw⟩
      rw [← hw]
      clear hw
      go_wp2_with fail
      go_ret
      exact ⟨rfl, HB3.out⟩
    obtain ⟨wf, hwf⟩ : ∃ wf, wf = min wi 1073741824 := ⟨_, rfl⟩
    obtain ⟨rf, hrf⟩ : ∃ rf, rf = min (max rt 1) 1125899906842624 := ⟨_, rfl⟩
    have hc := when_later HD w3 (w.heap.size + 1) 12000 B n x wi rt wf rf HP3.out (by decide) (by omega) (by omega) hwf r0 hrf (by omega) (by omega) B0 (by omega) n0 n1
    obtain ⟨q, hq⟩ : ∃ q, q = ((x - B) * (4 * rf) + (5 * wf - 1)) / (5 * wf) := ⟨_, rfl⟩
    rw [← hq] at hc
    obtain ⟨f1, f2, f3⟩ := ceil_facts (x - B) (4 * rf) (5 * wf) q (by omega) (by omega) (by omega) hq
    obtain ⟨k, hk⟩ : ∃ k, min q 1152921504606846976 = k := ⟨_, rfl⟩
    rw [hk] at hc
    have k0 : 1 ≤ k := by omega
    have k1 : k ≤ 1152921504606846976 := by omega
    have HW := Aside0.mk (And.intro hwf hrf)
    have HQ := Aside0.mk hk
    clear hwf hrf hq hk
    have HF := Aside0.mk (And.intro f2 f3)
    clear f1 f2 f3
    refine hc.mono ?_
    rintro e w4 ⟨rfl, m, hw⟩
    rw [hw]
    clear hw hc
    have s1 : IntKind.i64.wrap (n + k - n) = k := by rw [IntKind.wrap_i64]; omega
    by_cases k2 : 1073741824 < k
    · go_wp2_with fail
      go_ret
      exact ⟨rfl, bdrew HB3.out⟩
    have nk2 : decide (1073741824 < k) = false := decide_eq_false k2
    have hkq : q = k := by have := HQ.out; omega
    have HF2 := Aside0.mk (show x - B ≤ k * (5 * wf) / (4 * rf) ∧ (k - 1) * (5 * wf) / (4 * rf) < x - B by have := HF.out; rw [hkq] at this; exact this)
    clear hkq
    go_wp2_with fail
    refine (bud_at HD (w.heap.size + 1) B n k wi rt wf rf n0 n1 (by omega) (by omega) B0 B1 w0 HW.out.1 r0 HW.out.2 _ (HP3.out.below (bdrew (Below.refl _ _)))).mono ?_
    obtain ⟨v, hv⟩ : ∃ v, B + min (k * (5 * wf) / (4 * rf)) (12000 - B) = v := ⟨_, rfl⟩
    have v0 : x ≤ v := by have := HF2.out.1; omega
    have v1 : v ≤ 12000 := by omega
    rw [hv]
    clear hv
    rintro e w5 ⟨rfl, hb⟩
    have HA5 := Aside0.mk ((HA3.out.belowS (bdrew (Below.refl _ _))).belowS hb)
    have HP5 := Aside0.mk ((HP3.out.below (bdrew (Below.refl _ _))).below hb)
    have HB5 := Aside0.mk ((bdrew HB3.out).trans (hb.mono (bdrew HB3.out).size))
    clear hb a0 a1 a2 a3
    obtain ⟨a0, a1, a2, a3⟩ := HA5.out
    have hc2 := bud_at HD (w.heap.size + 1) B n (k - 1) wi rt wf rf n0 n1 (by omega) (by omega) B0 B1 w0 HW.out.1 r0 HW.out.2 _ HP5.out
    obtain ⟨u, hu⟩ : ∃ u, B + min ((k - 1) * (5 * wf) / (4 * rf)) (12000 - B) = u := ⟨_, rfl⟩
    rw [hu, show n + (k - 1) = n + k - 1 by omega] at hc2
    have u0 : u < x := by have := HF2.out.2; omega
    have Hc2 := Aside0.mk hc2
    clear hu hc2
    go_wp2_with fail
    refine Hc2.out.mono ?_
    rintro e w6 ⟨rfl, hb⟩
    have HB6 := Aside0.mk (HB5.out.trans (hb.mono HB5.out.size))
    clear hb
    go_wp2_with fail
    go_ret
    exact ⟨rfl, HB6.out⟩
end Go.Proofs.Ytmkojmjjlcfohaa.Pc
