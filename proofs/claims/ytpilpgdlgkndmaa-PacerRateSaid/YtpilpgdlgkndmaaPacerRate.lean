/- PacerRate: the law's walk; no condition but the reach of its arguments. -/
import Derived.Test.YtpilpgdlgkndmaaPacer3
set_option linter.unusedVariables false
set_option linter.unusedSimpArgs false
namespace Go.Proofs.Ytpilpgdlgkndmaa.Pc
open Go.RowKit Go.Lib Go.Proofs.YtpilpgdlgkndmaaW.PrintWords
theorem and_low (a : Int) (k : Nat) (hk : k ≤ 62) (h0 : -9223372036854775808 ≤ a) (h1 : a ≤ 9223372036854775807) : Go.bits .and .i64 a ((2 ^ k - 1 : Nat) : Int) = a % ((2 ^ k : Nat) : Int) := by
  have hp : (2 : Nat) ^ k ≤ 2 ^ 62 := Nat.pow_le_pow_right (by decide) hk
  have hp0 : 0 < (2 : Nat) ^ k := Nat.pow_pos (by decide)
  have hp62 : (2 : Nat) ^ 62 = 4611686018427387904 := by decide +kernel
  have e : Go.bits .and .i64 a ((2 ^ k - 1 : Nat) : Int) = IntKind.i64.wrap ((BitVec.ofInt 64 a &&& BitVec.ofInt 64 ((2 ^ k - 1 : Nat) : Int) : BitVec 64).toNat : Int) := rfl
  rw [e, BitVec.ofInt_natCast, BitVec.toNat_and, BitVec.toNat_ofNat, BitVec.toNat_ofInt]
  have hp64 : (2 : Nat) ^ 64 = 18446744073709551616 := by decide +kernel
  have e2 : (2 ^ k - 1) % 2 ^ 64 = 2 ^ k - 1 := Nat.mod_eq_of_lt (by omega)
  rw [e2, Nat.and_two_pow_sub_one_eq_mod, IntKind.wrap_i64]
  have e4 : ((2 ^ 64 : Nat) : Int) = 18446744073709551616 := by decide +kernel
  rw [e4]
  have h3 : ((a % 18446744073709551616).toNat : Int) = a % 18446744073709551616 := Int.toNat_of_nonneg (by omega)
  rw [Int.natCast_emod, h3]
  have hd : ((2 ^ k : Nat) : Int) ∣ 18446744073709551616 := by
    rw [← e4]
    exact Int.natCast_dvd_natCast.2 (Nat.pow_dvd_pow 2 (by omega))
  rw [Int.emod_emod_of_dvd _ hd]
  have hlt := Int.emod_lt_of_pos a (show (0 : Int) < ((2 ^ k : Nat) : Int) by omega)
  have hge := Int.emod_nonneg a (show ((2 ^ k : Nat) : Int) ≠ 0 by omega)
  generalize a % ((2 ^ k : Nat) : Int) = q at *
  omega

theorem low16 (a : Int) (h0 : -9223372036854775808 ≤ a) (h1 : a ≤ 9223372036854775807) : Go.bits .and .i64 a 65535 = a % 65536 := by
  have := and_low a 16 (by decide) h0 h1
  have e5 : ((2 ^ 16 - 1 : Nat) : Int) = 65535 := by decide
  have e6 : ((2 ^ 16 : Nat) : Int) = 65536 := by decide
  rw [e5, e6] at this
  exact this
theorem ediv_add_le (a b c : Int) (hc : 0 < c) : a / c + b / c ≤ (a + b) / c := by
  apply Int.le_ediv_of_mul_le hc
  have h1 := Int.ediv_mul_le a (Int.ne_of_gt hc)
  have h2 := Int.ediv_mul_le b (Int.ne_of_gt hc)
  rw [Int.add_mul]
  omega
/-- What Budget tells behind d more, and that the whole stays below the rate. -/
theorem bud_any (p : Nat) (B N d S wi rt : Int) (hN : 0 ≤ N) (hN1 : N ≤ 1073741824) (hd : 0 ≤ d) (hd1 : d ≤ 65535) (hB : 0 ≤ B) (hB1 : B ≤ 12000) (h0 : 0 ≤ wi) (h1 : wi ≤ 1073741824) (h2 : 1 ≤ rt) (h3 : rt ≤ 1125899906842624)
    (hS : S + B ≤ 12000 + N * wi * 5 / (4 * rt)) :
    ∃ n : Int, 0 ≤ n ∧ n ≤ 12000 ∧ S + n ≤ 12000 + (N + d) * wi * 5 / (4 * rt) ∧ ∀ W : World, Pac W p 12000 B N → Calls Try.prog 33 #[.pointer (some ⟨p, 0, none⟩), .int .i64 (N + d), .int .i64 wi, .int .i64 rt] W fun e w' => e = .returned (.int .i64 n) ∧ Below W.heap.size W w' := by
  by_cases hz : d = 0
  · subst hz
    rw [Int.add_zero]
    exact ⟨B, hB, hB1, hS, fun W hP => budget_stay W p 12000 B N N wi rt hP (by decide) hN (Int.le_refl _) h0 (by omega)⟩
  · have q0 : 0 ≤ d * (5 * wi) / (4 * rt) := Int.ediv_nonneg (Int.mul_nonneg hd (by omega)) (by omega)
    have q1 := ediv_add_le (N * wi * 5) (d * (5 * wi)) (4 * rt) (by omega)
    have q2 : N * wi * 5 + d * (5 * wi) = (N + d) * wi * 5 := by
      rw [Int.add_mul, Int.add_mul, Int.mul_comm 5 wi, Int.mul_assoc d wi 5]
    rw [q2] at q1
    refine ⟨B + min (d * (5 * wi) / (4 * rt)) (12000 - B), by omega, by omega, by omega, fun W hP => ?_⟩
    have := budget_more W p 12000 B N (N + d) wi rt hP (by decide) hN (by omega) (by omega) (by omega) hB hB1 (by decide) h0 h1 h2 h3
    rw [show N + d - N = d by omega] at this
    exact this
def RRel (w : World) (len : Nat) (wi rt : Int) (now sent i : Value) (W : World) : Prop :=
  ∃ (j : Nat) (N S B : Int), j ≤ len ∧ j ≤ 500 ∧ i = .int .i64 j ∧ now = .int .i64 N ∧ sent = .int .i64 S ∧ (0 ≤ N ∧ N ≤ 65535 * j ∧ 0 ≤ S ∧ S ≤ 12000 * j ∧ 0 ≤ B ∧ B ≤ 12000 ∧ S + B ≤ 12000 + N * wi * 5 / (4 * rt)) ∧ Below w.heap.size w W ∧ Pac W w.heap.size 12000 B N
set_option maxRecDepth 100000 in
set_option maxHeartbeats 3200000 in
theorem rate_walk (a b : Int) (A : Option Addr) (len cap : Nat) (w : World) (ha : -9223372036854775808 ≤ a) (ha1 : a ≤ 9223372036854775807) (hb : -9223372036854775808 ≤ b) (hb1 : b ≤ 9223372036854775807) (hcap : len ≤ cap)
    (hrow : ∀ j : Nat, j < len → ∃ x v, A = some x ∧ w.cell? (x.add j) = some (.int .i64 v) ∧ -9223372036854775808 ≤ v ∧ v ≤ 9223372036854775807) :
    Calls Try.prog 10 #[.int .i64 a, .int .i64 b, .slice A len cap] w fun e w' => e = .returned (.bool true) ∧ Below w.heap.size w w' := by
  have a1 := low16 a ha ha1
  have b1 := low16 b hb hb1
  obtain ⟨ra, hra⟩ : ∃ r, a % 65536 = r := ⟨_, rfl⟩
  obtain ⟨rb, hrb⟩ : ∃ r, b % 65536 = r := ⟨_, rfl⟩
  have ra0 : 0 ≤ ra := by omega
  have ra1 : ra ≤ 65535 := by omega
  have rb0 : 0 ≤ rb := by omega
  have rb1 : rb ≤ 65535 := by omega
  rw [hra] at a1
  rw [hrb] at b1
  clear hra hrb ha ha1 hb hb1
  obtain ⟨wi, hwi⟩ : ∃ x, 1200 + ra = x := ⟨_, rfl⟩
  obtain ⟨rt, hrt⟩ : ∃ x, 1000 + rb = x := ⟨_, rfl⟩
  have wi0 : 1200 ≤ wi := by omega
  have wi1 : wi ≤ 66735 := by omega
  have rt0 : 1000 ≤ rt := by omega
  have rt1 : rt ≤ 66535 := by omega
  have f1 : IntKind.i64.wrap (1200 + ra) = wi := by rw [IntKind.wrap_i64]; omega
  have f2 : IntKind.i64.wrap (1000 + rb) = rt := by rw [IntKind.wrap_i64]; omega
  have HRow := Aside0.mk hrow
  have HL := Aside0.mk hcap
  clear hrow
  go_enter Try.func10, Try.ntmps10
  go_wp2_with (first
    | (go_at_call 32; refine (new_ok _ 1200 (by omega) (by omega)).mono ?_; rintro e w1 ⟨rfl, hb1, hp1⟩; have HB := Aside0.mk hb1; have HP := Aside0.mk (show Pac w1 w.heap.size 12000 12000 0 from hp1); clear hb1 hp1)
    | (go_at_call 33; refine (budget_stay _ _ 12000 12000 0 0 wi rt HP.out (by decide) (by decide) (by decide) (by omega) (by omega)).mono ?_; rintro e w2 ⟨rfl, hb2⟩; have HP2 := Aside0.mk (HP.out.below hb2); have HB2 := Aside0.mk (HB.out.trans (hb2.mono HB.out.size)); clear hb2))
  clear f1 f2 ra0 ra1 rb0 rb1 a1 b1 hwi hrt HP HB
  go_loopw [9, 10, 11] (fun now sent i W => RRel w len wi rt now sent i W) (fun _ _ i _ => 500 - (intOf i).toNat)
  case atStart =>
    exact ⟨0, 0, 0, 12000, by omega, by omega, rfl, rfl, rfl, by simp, HB2.out, HP2.out⟩
  case round =>
    obtain ⟨j, N, S, B, hj, hj5, rfl, rfl, rfl, hn, hB, hP⟩ := hrel
    obtain ⟨n0, n1, s0, s1, b0, b1, hle⟩ := hn
    have HB := Aside0.mk hB
    have HP := Aside0.mk hP
    have HLe := Aside0.mk hle
    have Hj := Aside0.mk hj
    clear hB hP hle HB2 HP2 hj
    have hn1 : IntKind.i64.wrap (-1) = -1 := by decide +kernel
    by_cases hlt : j < len ∧ j < 500
    · obtain ⟨k1, k2⟩ := hlt
      obtain ⟨x, v, rfl, hc, v0, v1⟩ := HRow.out j k1
      have c := (HB.out.cell (World.block_lt_of_cell? w _ hc)).trans hc
      have g1 := low16 v v0 v1
      obtain ⟨d, hd⟩ : ∃ d, v % 65536 = d := ⟨_, rfl⟩
      have d0 : 0 ≤ d := by omega
      have d1 : d ≤ 65535 := by omega
      rw [hd] at g1
      obtain ⟨n, m0, m1, hS, hcall⟩ := bud_any w.heap.size B N d S wi rt n0 (by omega) d0 d1 b0 b1 (by omega) (by omega) (by omega) (by omega) HLe.out
      have HS := Aside0.mk hS
      have HC := Aside0.mk hcall
      have k3 : (j : Int) < (len : Int) := by omega
      have k4 : (j : Int) < 500 := by omega
      clear hS hcall hc hd
      clear v0 v1
      obtain ⟨P, hP⟩ : ∃ P, (N + d) * wi = P := ⟨_, rfl⟩
      have p0 : 0 ≤ P := by rw [← hP]; exact Int.mul_nonneg (by omega) (by omega)
      have p1 : P ≤ 32833035 * 66735 := by rw [← hP]; exact Int.mul_le_mul (by omega) wi1 (by omega) (by omega)
      obtain ⟨q, hq⟩ : ∃ q, P * 5 / (4 * rt) = q := ⟨_, rfl⟩
      have q0 : 0 ≤ q := by rw [← hq]; exact Int.ediv_nonneg (by omega) (by omega)
      have q1 : q ≤ P * 5 := by rw [← hq]; exact Int.ediv_le_self _ (by omega)
      have q2 : (P * 5).tdiv (4 * rt) = q := by rw [← hq]; exact Int.tdiv_eq_ediv_of_nonneg (by omega)
      have HS' := Aside0.mk (show S + n ≤ 12000 + q by have := HS.out; rw [hP, hq] at this; exact this)
      have hs1 : S + n ≤ 12000 + q := HS'.out
      clear HS
      have HQ := Aside0.mk (And.intro hP hq)
      go_wp2_with fail
      refine (HC.out _ HP.out).mono ?_
      rintro e W1 ⟨rfl, hb1⟩
      have HP1 := Aside0.mk (HP.out.below hb1)
      have HB1 := Aside0.mk (HB.out.trans (hb1.mono HB.out.size))
      clear hb1
      go_wp2_with fail
      refine (sent_ok _ w.heap.size w.heap.size 12000 B N n (N + d) wi rt n 0 (Nat.le_refl _) HB1.out.size HP1.out (by decide) m0 (by omega) (by omega) (by omega) (by omega) (by omega) (HC.out _ HP1.out) (by omega) (by omega) (by rw [Int.sub_self]; rfl)).mono ?_
      rintro e W2 ⟨rfl, hb2, hp2⟩
      have HP2 := Aside0.mk hp2
      have HB2 := Aside0.mk (HB1.out.trans hb2)
      clear hb2 hp2
      go_wp2_with fail
      refine (budget_stay _ _ 12000 0 (N + d) (N + d) wi rt HP2.out (by decide) (by omega) (by omega) (by omega) (by omega)).mono ?_
      rintro e W3 ⟨rfl, hb3⟩
      have HP3 := Aside0.mk (HP2.out.below hb3)
      have HB3 := Aside0.mk (HB2.out.trans (hb3.mono HB2.out.size))
      clear hb3
      go_wp2_with fail
      go_roundw
      case rel => exact ⟨j + 1, N + d, S + n, 0, by omega, by omega, by simp, rfl, rfl, ⟨by omega, by omega, by omega, by omega, by omega, by omega, by have := HS'.out; rw [HQ.out.1, HQ.out.2]; omega⟩, HB3.out, HP3.out⟩
      case measure => simp [intOf]; omega
    · have k3 : ((j : Int) < (len : Int)) → decide ((j : Int) < 500) = false := fun h => decide_eq_false (by omega)
      by_cases k1 : j < len
      · have k4 := k3 (by omega)
        have k5 : (j : Int) < (len : Int) := by omega
        clear k3
        go_wp2_with fail
        refine (sent_bad _ _ 12000 B N (-1) _ _ _ HP.out (by decide) (by decide)).mono ?_
        rintro e W1 ⟨rfl, rfl⟩
        go_wp2_with fail
        go_ret
        exact ⟨rfl, HB.out⟩
      · have k5 : decide ((j : Int) < (len : Int)) = false := decide_eq_false (by omega)
        clear k3
        go_wp2_with fail
        refine (sent_bad _ _ 12000 B N (-1) _ _ _ HP.out (by decide) (by decide)).mono ?_
        rintro e W1 ⟨rfl, rfl⟩
        go_wp2_with fail
        go_ret
        exact ⟨rfl, HB.out⟩
/-- A slice of ints that came in. -/
def IsRow (k : IntKind) (w : World) (a : Option Addr) (len cap : Nat) (zs : List Int) : Prop :=
  (a = none ∧ len = 0 ∧ cap = 0 ∧ zs = []) ∨
  ∃ x, a = some x ∧ len ≤ cap ∧ cap ≤ maxLen ∧ zs.length = cap ∧ (∀ i, i < zs.length → w.cell? (x.add i) = some (.int k (zs.getD i 0))) ∧ ∀ n ∈ zs, (Lit.int k n).wf = true
theorem wf_i64 {a : Int} (h : (Lit.int .i64 a).wf = true) : -9223372036854775808 ≤ a ∧ a ≤ 9223372036854775807 := by
  have m0 : IntKind.i64.min = -9223372036854775808 := by decide +kernel
  have m1 : IntKind.i64.max = 9223372036854775807 := by decide +kernel
  simp [Lit.wf, m0, m1] at h
  exact h
theorem rate_row (a0 : Int) (w0 : (Lit.int .i64 a0).wf = true) (a1 : Int) (w1 : (Lit.int .i64 a1).wf = true) (a2 : Option Addr) (len2 cap2 : Nat) (z2 : List Int) (w : World) (w2 : IsRow .i64 w a2 len2 cap2 z2) :
    Calls Try.prog 10 #[.int .i64 a0, .int .i64 a1, .slice a2 len2 cap2] w fun e w' => e = .returned (.bool true) ∧ Below w.heap.size w w' := by
  obtain ⟨h0, h1⟩ := wf_i64 w0
  obtain ⟨h2, h3⟩ := wf_i64 w1
  rcases w2 with ⟨rfl, rfl, rfl, rfl⟩ | ⟨x, rfl, hl, hm, hz, hcell, hwz⟩
  · exact rate_walk a0 a1 none 0 0 w h0 h1 h2 h3 (by omega) (fun j hj => absurd hj (by omega))
  · refine rate_walk a0 a1 (some x) len2 cap2 w h0 h1 h2 h3 hl (fun j hj => ⟨x, z2.getD j 0, rfl, hcell j (by omega), ?_⟩)
    have hj2 : j < z2.length := by omega
    refine wf_i64 (hwz _ ?_)
    rw [List.getD_eq_getElem?_getD, List.getElem?_eq_getElem hj2]
    exact List.getElem_mem hj2
end Go.Proofs.Ytpilpgdlgkndmaa.Pc
