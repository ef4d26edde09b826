/- math/bits.Div64, every high word below the divisor. -/
import Derived.Test.YtmkojmjjlcfohaaPacer1
import Derived.Test.YtmkojmjjlcfohaaDivLaw
import Derived.LoopTactic
set_option linter.unusedVariables false
set_option linter.unusedSimpArgs false
namespace Go.Proofs.Ytmkojmjjlcfohaa.Pc
open Go.RowKit Go.Lib 
def DRel (Y y1 yz U u1 : Int) (w : World) (q r : Value) (W : World) : Prop := ∃ q' r' : Int, q = .int .u64 q' ∧ r = .int .u64 r' ∧ DInv Y y1 yz U u1 q' r' ∧ W = w
theorem wrap_id (a : Int) (h0 : 0 ≤ a) (h1 : a < 18446744073709551616) : IntKind.u64.wrap a = a := by rw [IntKind.wrap_u64]; omega
set_option maxHeartbeats 3200000 in
set_option maxRecDepth 100000 in
theorem div64_hi (hi lo y0 : Int) (hh : 1 ≤ hi) (hh1 : hi < y0) (hx : 0 ≤ lo) (hx1 : lo < 18446744073709551616) (hb1 : y0 < 18446744073709551616) (w : World) :
    Calls Try.prog 58 #[.int .u64 hi, .int .u64 lo, .int .u64 y0] w fun e w' => (∃ r : Int, e = .returned (.tuple #[.int .u64 ((hi * 18446744073709551616 + lo) / y0), .int .u64 r])) ∧ w' = w := by
  have d1 : decide (y0 ≤ hi) = false := decide_eq_false (by omega)
  have d2 : ¬ y0 = 0 := by omega
  have d4 : ¬ hi = 0 := by omega
  obtain ⟨s, t, hst, hs63, hs, hY0, hY1, hH1, hH0, hlt0, hor, hlo, hUY⟩ := norm_shift y0 hi lo hh hh1 hx hx1 hb1
  -- the whole answer
  have hans : (hi * 18446744073709551616 + lo) / y0 = ((hi * 2 ^ s + lo / 2 ^ t) * 18446744073709551616 + lo * 2 ^ s % 18446744073709551616) / (y0 * 2 ^ s) := by
    have hp : (0 : Int) < 2 ^ s := Int.pow_pos (by decide)
    rw [← Int.mul_ediv_mul_of_pos_left _ _ hp]
    congr 1
    rw [Int.add_mul, Int.mul_right_comm, Int.add_mul]
    omega
  have f1 : IntKind.u64.wrap (64 - (Lib.bitLen y0.toNat : Int)) = (s : Int) := by rw [← hs]; exact wrap_id _ (by omega) (by omega)
  have f2 : min s 64 = s := by omega
  have f3 : IntKind.u64.wrap (y0 * 2 ^ s) = y0 * 2 ^ s := wrap_id _ (by omega) hY1
  have f6 : IntKind.u64.wrap (64 - (s : Int)) = (t : Int) := by rw [wrap_id _ (by omega) (by omega)]; omega
  have f7 : min t 64 = t := by omega
  have f8 : IntKind.u64.wrap (hi * 2 ^ s) = hi * 2 ^ s := wrap_id _ hH0 hH1
  have f10 : IntKind.u64.wrap (lo * 2 ^ s) = lo * 2 ^ s % 18446744073709551616 := by rw [IntKind.wrap_u64]
  clear hlo hs63 hst hs
  obtain ⟨H, hH⟩ : ∃ H, hi * 2 ^ s = H := ⟨_, rfl⟩
  obtain ⟨G, hG⟩ : ∃ G, lo / 2 ^ t = G := ⟨_, rfl⟩
  obtain ⟨L, hL⟩ : ∃ L, lo * 2 ^ s % 18446744073709551616 = L := ⟨_, rfl⟩
  obtain ⟨Y, hY⟩ : ∃ Y, y0 * 2 ^ s = Y := ⟨_, rfl⟩
  have hL0 : 0 ≤ L := by rw [← hL]; exact Int.emod_nonneg _ (by decide)
  have hL1 : L < 18446744073709551616 := by rw [← hL]; exact Int.emod_lt_of_pos _ (by decide)
  rw [hH, hG, hL, hY] at hans
  rw [hH] at f8 hH0 hH1 hUY hor
  rw [hG] at hor hUY hlt0
  rw [hY] at f3 hY0 hY1 hUY
  rw [hL] at f10
  obtain ⟨U, hU⟩ : ∃ U, H + G = U := ⟨_, rfl⟩
  rw [hU] at hans hor hUY
  have hU0 : 0 ≤ U := by omega
  obtain ⟨y1, hy1⟩ : ∃ y1, Y / 4294967296 = y1 := ⟨_, rfl⟩
  obtain ⟨yz, hyz⟩ : ∃ yz, Y % 4294967296 = yz := ⟨_, rfl⟩
  have f5 : bits .and .u64 Y 4294967295 = yz := by
    obtain ⟨Y, rfl⟩ := Int.eq_ofNat_of_zero_le (show 0 ≤ Y by omega)
    rw [maskN Y (by omega)]; omega
  obtain ⟨u1, hu1⟩ : ∃ u1, L / 4294967296 = u1 := ⟨_, rfl⟩
  obtain ⟨u0, hu0⟩ : ∃ u0, L % 4294967296 = u0 := ⟨_, rfl⟩
  have f12 : bits .and .u64 L 4294967295 = u0 := by
    obtain ⟨L, rfl⟩ := Int.eq_ofNat_of_zero_le hL0
    rw [maskN L (by omega)]; omega
  have hb : DBase Y y1 yz U u1 := ⟨by omega, by omega, by omega, by omega, by omega, hU0, hUY, by omega, by omega⟩
  have hLu : L = u1 * 4294967296 + u0 := by omega
  have u00 : 0 ≤ u0 := by omega
  have u01 : u0 < 4294967296 := by omega
  have u10 := hb.v0
  have u11 := hb.v1
  have y10 := hb.y0
  have y12 := hb.y2
  have yz0 := hb.z0
  have yz1 := hb.z1
  have yne : ¬ y1 = 0 := by omega
  have df := digit_first hb
  obtain ⟨q, hq⟩ : ∃ q, U / y1 = q := ⟨_, rfl⟩
  have t1 : U.tdiv y1 = q := by rw [← hq]; exact Int.tdiv_eq_ediv_of_nonneg hU0
  rw [hq] at df
  obtain ⟨m, hm⟩ : ∃ m, q * y1 = m := ⟨_, rfl⟩
  rw [hm] at df
  have q0 := df.q0
  have q1 := df.q1
  have m0 := df.r0
  have m1 := df.r1
  have m2 : 0 ≤ m := by rw [← hm]; exact Int.mul_nonneg q0 (by omega)
  have f13 : IntKind.u64.wrap q = q := wrap_id _ (by omega) (by omega)
  have f14 : IntKind.u64.wrap m = m := wrap_id _ (by omega) (by omega)
  have f15 : IntKind.u64.wrap (U - m) = U - m := wrap_id _ (by omega) (by omega)
  have DF := Aside0.mk df
  have DB := Aside0.mk hb
  have DA := Aside0.mk hans
  have DL := Aside0.mk hLu
  have DY := Aside0.mk (And.intro hY0 hY1)
  clear df hb hans hLu hyz hu0 hL hU hH0 hH1 hlt0 hUY hY0 hY1 hL0 hL1 hU0
  clear m2
  go_enter Try.func58, Try.ntmps58
  go_wp2_with (first | (go_at_call 65; refine (bits_LeadingZeros64 y0 _ (by omega) (by omega)).mono ?_; rintro e w' ⟨rfl, hw⟩; rw [hw]; clear hw))
  clear hy1 hu1 hor hH hG hY f5 f12 hq t1 hm
  clear d1 d2 d4 f1 f2 f3 f6 f7 f8 f10 f13 f14 f15 q0 q1 m0 m1
  go_loopw [15, 16] (fun q r W => DRel Y y1 yz U u1 w q r W) (fun q _ _ => (RowKit.intOf q).toNat)
  case atStart => exact ⟨_, _, rfl, rfl, DF.out, rfl⟩
  case round =>
    obtain ⟨q, r, rfl, rfl, hd, hw⟩ := hrel
    have hw := hw.symm
    subst hw
    have r0 := hd.r0
    have r1 := hd.r1
    have q0 := hd.q0
    have q1 := hd.q1
    have HD := Aside0.mk hd
    clear hd
    by_cases c1 : 4294967296 ≤ q
    · obtain ⟨s1, s2, s3, s4⟩ := digit_step DB.out HD.out (.inl c1)
      have S := Aside0.mk (And.intro s3 s4)
      clear s3 s4
      by_cases c3 : 4294967296 ≤ r + y1
      · have HE := Aside0.mk (digit_break DB.out (by omega) s2 S.out.1 S.out.2 c3)
        have e0 : 0 ≤ (q - 1) := by rw [HE.out]; exact digit_nn DB.out
        have e1 : (q - 1) < 4294967296 := by rw [HE.out]; exact digit_lt DB.out
        obtain ⟨v0, v1⟩ := digit_left DB.out
        rw [← HE.out] at v0 v1
        obtain ⟨P, hP⟩ : ∃ P, (q - 1) * Y = P := ⟨_, rfl⟩
        rw [hP] at v0 v1
        obtain ⟨V, hV⟩ : ∃ V, U * 4294967296 + u1 - P = V := ⟨_, rfl⟩
        rw [hV] at v0 v1
        have HA2 := Aside0.mk (DA.out.trans (show (U * 18446744073709551616 + L) / Y = (q - 1) * 4294967296 + (V * 4294967296 + u0) / Y by
          rw [show U * 18446744073709551616 + L = (U * 4294967296 + u1) * 4294967296 + u0 by have := DL.out; omega]
          exact two_digits _ Y (q - 1) u0 V (DB.out.pos) (by rw [hP]; exact hV)))
        obtain ⟨A1, hA1⟩ : ∃ A, U * 4294967296 % 18446744073709551616 = A := ⟨_, rfl⟩
        obtain ⟨A2, hA2⟩ : ∃ A, (A1 + u1) % 18446744073709551616 = A := ⟨_, rfl⟩
        obtain ⟨A3, hA3⟩ : ∃ A, P % 18446744073709551616 = A := ⟨_, rfl⟩
        have g1 : IntKind.u64.wrap (U * 4294967296) = A1 := by rw [IntKind.wrap_u64, hA1]
        have g2 : IntKind.u64.wrap (A1 + u1) = A2 := by rw [IntKind.wrap_u64, hA2]
        have g3 : IntKind.u64.wrap P = A3 := by rw [IntKind.wrap_u64, hA3]
        have g4 : IntKind.u64.wrap (A2 - A3) = V := by have := DY.out; rw [IntKind.wrap_u64]; omega
        have hb2 : DBase Y y1 yz V u0 := ⟨DB.out.ey, DB.out.z0, DB.out.z1, DB.out.y0, DB.out.y2, v0, v1, u00, u01⟩
        have df2 := digit_first hb2
        have HB2 := Aside0.mk hb2
        obtain ⟨q2, hq2⟩ : ∃ q, V / y1 = q := ⟨_, rfl⟩
        have t2 : V.tdiv y1 = q2 := by rw [← hq2]; exact Int.tdiv_eq_ediv_of_nonneg v0
        rw [hq2] at df2
        obtain ⟨m2, hm2⟩ : ∃ m, q2 * y1 = m := ⟨_, rfl⟩
        rw [hm2] at df2
        have k0 := df2.q0
        have k1 := df2.q1
        have k2 := df2.r0
        have k3 := df2.r1
        have h13 : IntKind.u64.wrap q2 = q2 := wrap_id _ (by omega) (by omega)
        have h14 : IntKind.u64.wrap m2 = m2 := wrap_id _ (by have : 0 ≤ m2 := (by rw [← hm2]; exact Int.mul_nonneg k0 (by omega)); omega) (by have := DY.out; omega)
        have h15 : IntKind.u64.wrap (V - m2) = V - m2 := wrap_id _ (by omega) (by omega)
        have DF2 := Aside0.mk df2
        clear hb2 df2 hA1 hA2 hA3 hV v0 v1
        go_wp2_with fail
        clear g1 g2 g3 g4 t2 hq2 hm2 h13 h14 h15 hP k0 k1 k2 k3
        clear HE
        go_loopw [18, 16] (fun q r W => DRel Y y1 yz V u0 w q r W) (fun q _ _ => (RowKit.intOf q).toNat)
        case atStart => exact ⟨_, _, rfl, rfl, DF2.out, rfl⟩
        case round =>
          obtain ⟨q, r, rfl, rfl, hd, hw⟩ := hrel
          have hw := hw.symm
          subst hw
          have r0 := hd.r0
          have r1 := hd.r1
          have q0 := hd.q0
          have q1 := hd.q1
          have HD := Aside0.mk hd
          clear hd
          by_cases c1 : 4294967296 ≤ q
          · obtain ⟨s1, s2, s3, s4⟩ := digit_step HB2.out HD.out (.inl c1)
            have S := Aside0.mk (And.intro s3 s4)
            clear s3 s4
            by_cases c3 : 4294967296 ≤ r + y1
            · have HE := Aside0.mk (digit_break HB2.out (by omega) s2 S.out.1 S.out.2 c3)
              have g0 : 0 ≤ (q - 1) := by rw [HE.out]; exact digit_nn HB2.out
              have g1 : (q - 1) < 4294967296 := by rw [HE.out]; exact digit_lt HB2.out
              go_wp2_with fail
              go_ret2
              have HF := HA2.out
              rw [← HE.out] at HF
              rw [HF]
              exact ⟨⟨_, rfl⟩, rfl⟩
            · have c3' : decide (4294967296 ≤ r + y1) = false := decide_eq_false c3
              go_wp2_with fail
              go_roundw
              case rel => exact ⟨q - 1, r + y1, rfl, rfl, ⟨by omega, by omega, by omega, by omega, S.out.1, S.out.2⟩, rfl⟩
              case measure => simp [RowKit.intOf]; omega
          · obtain ⟨p, hp⟩ : ∃ p, q * yz = p := ⟨_, rfl⟩
            have p0 : 0 ≤ p := by rw [← hp]; exact Int.mul_nonneg q0 yz0
            have p1 : p ≤ 4294967296 * 4294967295 := by rw [← hp]; exact Int.mul_le_mul (by omega) (by omega) yz0 (by omega)
            have n1 : ¬ 4294967296 ≤ q := c1
            have c1' : decide (4294967296 ≤ q) = false := decide_eq_false c1
            by_cases c2 : 4294967296 * r + u0 < p
            · obtain ⟨s1, s2, s3, s4⟩ := digit_step HB2.out HD.out (.inr (by rw [hp]; exact c2))
              have S := Aside0.mk (And.intro s3 s4)
              clear s3 s4
              by_cases c3 : 4294967296 ≤ r + y1
              · have HE := Aside0.mk (digit_break HB2.out (by omega) s2 S.out.1 S.out.2 c3)
                have g0 : 0 ≤ (q - 1) := by rw [HE.out]; exact digit_nn HB2.out
                have g1 : (q - 1) < 4294967296 := by rw [HE.out]; exact digit_lt HB2.out
                go_wp2_with fail
                go_ret2
                have HF := HA2.out
                rw [← HE.out] at HF
                rw [HF]
                exact ⟨⟨_, rfl⟩, rfl⟩
              · have c3' : decide (4294967296 ≤ r + y1) = false := decide_eq_false c3
                go_wp2_with fail
                go_roundw
                case rel => exact ⟨q - 1, r + y1, rfl, rfl, ⟨by omega, by omega, by omega, by omega, S.out.1, S.out.2⟩, rfl⟩
                case measure => simp [RowKit.intOf]; omega
            · have c2' : decide (4294967296 * r + u0 < p) = false := decide_eq_false c2
              have HE := Aside0.mk (digit_done HB2.out HD.out.eq HD.out.le (by rw [hp]; omega))
              have g0 : 0 ≤ q := by rw [HE.out]; exact digit_nn HB2.out
              have g1 : q < 4294967296 := by rw [HE.out]; exact digit_lt HB2.out
              go_wp2_with fail
              go_ret2
              have HF := HA2.out
              rw [← HE.out] at HF
              rw [HF]
              exact ⟨⟨_, rfl⟩, rfl⟩
      · have c3' : decide (4294967296 ≤ r + y1) = false := decide_eq_false c3
        go_wp2_with fail
        go_roundw
        case rel => exact ⟨q - 1, r + y1, rfl, rfl, ⟨by omega, by omega, by omega, by omega, S.out.1, S.out.2⟩, rfl⟩
        case measure => simp [RowKit.intOf]; omega
    · obtain ⟨p, hp⟩ : ∃ p, q * yz = p := ⟨_, rfl⟩
      have p0 : 0 ≤ p := by rw [← hp]; exact Int.mul_nonneg q0 yz0
      have p1 : p ≤ 4294967296 * 4294967295 := by rw [← hp]; exact Int.mul_le_mul (by omega) (by omega) yz0 (by omega)
      have n1 : ¬ 4294967296 ≤ q := c1
      have c1' : decide (4294967296 ≤ q) = false := decide_eq_false c1
      by_cases c2 : 4294967296 * r + u1 < p
      · obtain ⟨s1, s2, s3, s4⟩ := digit_step DB.out HD.out (.inr (by rw [hp]; exact c2))
        have S := Aside0.mk (And.intro s3 s4)
        clear s3 s4
        by_cases c3 : 4294967296 ≤ r + y1
        · have HE := Aside0.mk (digit_break DB.out (by omega) s2 S.out.1 S.out.2 c3)
          have e0 : 0 ≤ (q - 1) := by rw [HE.out]; exact digit_nn DB.out
          have e1 : (q - 1) < 4294967296 := by rw [HE.out]; exact digit_lt DB.out
          obtain ⟨v0, v1⟩ := digit_left DB.out
          rw [← HE.out] at v0 v1
          obtain ⟨P, hP⟩ : ∃ P, (q - 1) * Y = P := ⟨_, rfl⟩
          rw [hP] at v0 v1
          obtain ⟨V, hV⟩ : ∃ V, U * 4294967296 + u1 - P = V := ⟨_, rfl⟩
          rw [hV] at v0 v1
          have HA2 := Aside0.mk (DA.out.trans (show (U * 18446744073709551616 + L) / Y = (q - 1) * 4294967296 + (V * 4294967296 + u0) / Y by
            rw [show U * 18446744073709551616 + L = (U * 4294967296 + u1) * 4294967296 + u0 by have := DL.out; omega]
            exact two_digits _ Y (q - 1) u0 V (DB.out.pos) (by rw [hP]; exact hV)))
          obtain ⟨A1, hA1⟩ : ∃ A, U * 4294967296 % 18446744073709551616 = A := ⟨_, rfl⟩
          obtain ⟨A2, hA2⟩ : ∃ A, (A1 + u1) % 18446744073709551616 = A := ⟨_, rfl⟩
          obtain ⟨A3, hA3⟩ : ∃ A, P % 18446744073709551616 = A := ⟨_, rfl⟩
          have g1 : IntKind.u64.wrap (U * 4294967296) = A1 := by rw [IntKind.wrap_u64, hA1]
          have g2 : IntKind.u64.wrap (A1 + u1) = A2 := by rw [IntKind.wrap_u64, hA2]
          have g3 : IntKind.u64.wrap P = A3 := by rw [IntKind.wrap_u64, hA3]
          have g4 : IntKind.u64.wrap (A2 - A3) = V := by have := DY.out; rw [IntKind.wrap_u64]; omega
          have hb2 : DBase Y y1 yz V u0 := ⟨DB.out.ey, DB.out.z0, DB.out.z1, DB.out.y0, DB.out.y2, v0, v1, u00, u01⟩
          have df2 := digit_first hb2
          have HB2 := Aside0.mk hb2
          obtain ⟨q2, hq2⟩ : ∃ q, V / y1 = q := ⟨_, rfl⟩
          have t2 : V.tdiv y1 = q2 := by rw [← hq2]; exact Int.tdiv_eq_ediv_of_nonneg v0
          rw [hq2] at df2
          obtain ⟨m2, hm2⟩ : ∃ m, q2 * y1 = m := ⟨_, rfl⟩
          rw [hm2] at df2
          have k0 := df2.q0
          have k1 := df2.q1
          have k2 := df2.r0
          have k3 := df2.r1
          have h13 : IntKind.u64.wrap q2 = q2 := wrap_id _ (by omega) (by omega)
          have h14 : IntKind.u64.wrap m2 = m2 := wrap_id _ (by have : 0 ≤ m2 := (by rw [← hm2]; exact Int.mul_nonneg k0 (by omega)); omega) (by have := DY.out; omega)
          have h15 : IntKind.u64.wrap (V - m2) = V - m2 := wrap_id _ (by omega) (by omega)
          have DF2 := Aside0.mk df2
          clear hb2 df2 hA1 hA2 hA3 hV v0 v1
          go_wp2_with fail
          clear g1 g2 g3 g4 t2 hq2 hm2 h13 h14 h15 hP k0 k1 k2 k3
          clear HE
          go_loopw [18, 16] (fun q r W => DRel Y y1 yz V u0 w q r W) (fun q _ _ => (RowKit.intOf q).toNat)
          case atStart => exact ⟨_, _, rfl, rfl, DF2.out, rfl⟩
          case round =>
            obtain ⟨q, r, rfl, rfl, hd, hw⟩ := hrel
            have hw := hw.symm
            subst hw
            have r0 := hd.r0
            have r1 := hd.r1
            have q0 := hd.q0
            have q1 := hd.q1
            have HD := Aside0.mk hd
            clear hd
            by_cases c1 : 4294967296 ≤ q
            · obtain ⟨s1, s2, s3, s4⟩ := digit_step HB2.out HD.out (.inl c1)
              have S := Aside0.mk (And.intro s3 s4)
              clear s3 s4
              by_cases c3 : 4294967296 ≤ r + y1
              · have HE := Aside0.mk (digit_break HB2.out (by omega) s2 S.out.1 S.out.2 c3)
                have g0 : 0 ≤ (q - 1) := by rw [HE.out]; exact digit_nn HB2.out
                have g1 : (q - 1) < 4294967296 := by rw [HE.out]; exact digit_lt HB2.out
                go_wp2_with fail
                go_ret2
                have HF := HA2.out
                rw [← HE.out] at HF
                rw [HF]
                exact ⟨⟨_, rfl⟩, rfl⟩
              · have c3' : decide (4294967296 ≤ r + y1) = false := decide_eq_false c3
                go_wp2_with fail
                go_roundw
                case rel => exact ⟨q - 1, r + y1, rfl, rfl, ⟨by omega, by omega, by omega, by omega, S.out.1, S.out.2⟩, rfl⟩
                case measure => simp [RowKit.intOf]; omega
            · obtain ⟨p, hp⟩ : ∃ p, q * yz = p := ⟨_, rfl⟩
              have p0 : 0 ≤ p := by rw [← hp]; exact Int.mul_nonneg q0 yz0
              have p1 : p ≤ 4294967296 * 4294967295 := by rw [← hp]; exact Int.mul_le_mul (by omega) (by omega) yz0 (by omega)
              have n1 : ¬ 4294967296 ≤ q := c1
              have c1' : decide (4294967296 ≤ q) = false := decide_eq_false c1
              by_cases c2 : 4294967296 * r + u0 < p
              · obtain ⟨s1, s2, s3, s4⟩ := digit_step HB2.out HD.out (.inr (by rw [hp]; exact c2))
                have S := Aside0.mk (And.intro s3 s4)
                clear s3 s4
                by_cases c3 : 4294967296 ≤ r + y1
                · have HE := Aside0.mk (digit_break HB2.out (by omega) s2 S.out.1 S.out.2 c3)
                  have g0 : 0 ≤ (q - 1) := by rw [HE.out]; exact digit_nn HB2.out
                  have g1 : (q - 1) < 4294967296 := by rw [HE.out]; exact digit_lt HB2.out
                  go_wp2_with fail
                  go_ret2
                  have HF := HA2.out
                  rw [← HE.out] at HF
                  rw [HF]
                  exact ⟨⟨_, rfl⟩, rfl⟩
                · have c3' : decide (4294967296 ≤ r + y1) = false := decide_eq_false c3
                  go_wp2_with fail
                  go_roundw
                  case rel => exact ⟨q - 1, r + y1, rfl, rfl, ⟨by omega, by omega, by omega, by omega, S.out.1, S.out.2⟩, rfl⟩
                  case measure => simp [RowKit.intOf]; omega
              · have c2' : decide (4294967296 * r + u0 < p) = false := decide_eq_false c2
                have HE := Aside0.mk (digit_done HB2.out HD.out.eq HD.out.le (by rw [hp]; omega))
                have g0 : 0 ≤ q := by rw [HE.out]; exact digit_nn HB2.out
                have g1 : q < 4294967296 := by rw [HE.out]; exact digit_lt HB2.out
                go_wp2_with fail
                go_ret2
                have HF := HA2.out
                rw [← HE.out] at HF
                rw [HF]
                exact ⟨⟨_, rfl⟩, rfl⟩
        · have c3' : decide (4294967296 ≤ r + y1) = false := decide_eq_false c3
          go_wp2_with fail
          go_roundw
          case rel => exact ⟨q - 1, r + y1, rfl, rfl, ⟨by omega, by omega, by omega, by omega, S.out.1, S.out.2⟩, rfl⟩
          case measure => simp [RowKit.intOf]; omega
      · have c2' : decide (4294967296 * r + u1 < p) = false := decide_eq_false c2
        have HE := Aside0.mk (digit_done DB.out HD.out.eq HD.out.le (by rw [hp]; omega))
        have e0 : 0 ≤ q := by rw [HE.out]; exact digit_nn DB.out
        have e1 : q < 4294967296 := by rw [HE.out]; exact digit_lt DB.out
        obtain ⟨v0, v1⟩ := digit_left DB.out
        rw [← HE.out] at v0 v1
        obtain ⟨P, hP⟩ : ∃ P, q * Y = P := ⟨_, rfl⟩
        rw [hP] at v0 v1
        obtain ⟨V, hV⟩ : ∃ V, U * 4294967296 + u1 - P = V := ⟨_, rfl⟩
        rw [hV] at v0 v1
        have HA2 := Aside0.mk (DA.out.trans (show (U * 18446744073709551616 + L) / Y = q * 4294967296 + (V * 4294967296 + u0) / Y by
          rw [show U * 18446744073709551616 + L = (U * 4294967296 + u1) * 4294967296 + u0 by have := DL.out; omega]
          exact two_digits _ Y q u0 V (DB.out.pos) (by rw [hP]; exact hV)))
        obtain ⟨A1, hA1⟩ : ∃ A, U * 4294967296 % 18446744073709551616 = A := ⟨_, rfl⟩
        obtain ⟨A2, hA2⟩ : ∃ A, (A1 + u1) % 18446744073709551616 = A := ⟨_, rfl⟩
        obtain ⟨A3, hA3⟩ : ∃ A, P % 18446744073709551616 = A := ⟨_, rfl⟩
        have g1 : IntKind.u64.wrap (U * 4294967296) = A1 := by rw [IntKind.wrap_u64, hA1]
        have g2 : IntKind.u64.wrap (A1 + u1) = A2 := by rw [IntKind.wrap_u64, hA2]
        have g3 : IntKind.u64.wrap P = A3 := by rw [IntKind.wrap_u64, hA3]
        have g4 : IntKind.u64.wrap (A2 - A3) = V := by have := DY.out; rw [IntKind.wrap_u64]; omega
        have hb2 : DBase Y y1 yz V u0 := ⟨DB.out.ey, DB.out.z0, DB.out.z1, DB.out.y0, DB.out.y2, v0, v1, u00, u01⟩
        have df2 := digit_first hb2
        have HB2 := Aside0.mk hb2
        obtain ⟨q2, hq2⟩ : ∃ q, V / y1 = q := ⟨_, rfl⟩
        have t2 : V.tdiv y1 = q2 := by rw [← hq2]; exact Int.tdiv_eq_ediv_of_nonneg v0
        rw [hq2] at df2
        obtain ⟨m2, hm2⟩ : ∃ m, q2 * y1 = m := ⟨_, rfl⟩
        rw [hm2] at df2
        have k0 := df2.q0
        have k1 := df2.q1
        have k2 := df2.r0
        have k3 := df2.r1
        have h13 : IntKind.u64.wrap q2 = q2 := wrap_id _ (by omega) (by omega)
        have h14 : IntKind.u64.wrap m2 = m2 := wrap_id _ (by have : 0 ≤ m2 := (by rw [← hm2]; exact Int.mul_nonneg k0 (by omega)); omega) (by have := DY.out; omega)
        have h15 : IntKind.u64.wrap (V - m2) = V - m2 := wrap_id _ (by omega) (by omega)
        have DF2 := Aside0.mk df2
        clear hb2 df2 hA1 hA2 hA3 hV v0 v1
        go_wp2_with fail
        clear g1 g2 g3 g4 t2 hq2 hm2 h13 h14 h15 hP k0 k1 k2 k3
        clear HE
        go_loopw [18, 16] (fun q r W => DRel Y y1 yz V u0 w q r W) (fun q _ _ => (RowKit.intOf q).toNat)
        case atStart => exact ⟨_, _, rfl, rfl, DF2.out, rfl⟩
        case round =>
          obtain ⟨q, r, rfl, rfl, hd, hw⟩ := hrel
          have hw := hw.symm
          subst hw
          have r0 := hd.r0
          have r1 := hd.r1
          have q0 := hd.q0
          have q1 := hd.q1
          have HD := Aside0.mk hd
          clear hd
          by_cases c1 : 4294967296 ≤ q
          · obtain ⟨s1, s2, s3, s4⟩ := digit_step HB2.out HD.out (.inl c1)
            have S := Aside0.mk (And.intro s3 s4)
            clear s3 s4
            by_cases c3 : 4294967296 ≤ r + y1
            · have HE := Aside0.mk (digit_break HB2.out (by omega) s2 S.out.1 S.out.2 c3)
              have g0 : 0 ≤ (q - 1) := by rw [HE.out]; exact digit_nn HB2.out
              have g1 : (q - 1) < 4294967296 := by rw [HE.out]; exact digit_lt HB2.out
              go_wp2_with fail
              go_ret2
              have HF := HA2.out
              rw [← HE.out] at HF
              rw [HF]
              exact ⟨⟨_, rfl⟩, rfl⟩
            · have c3' : decide (4294967296 ≤ r + y1) = false := decide_eq_false c3
              go_wp2_with fail
              go_roundw
              case rel => exact ⟨q - 1, r + y1, rfl, rfl, ⟨by omega, by omega, by omega, by omega, S.out.1, S.out.2⟩, rfl⟩
              case measure => simp [RowKit.intOf]; omega
          · obtain ⟨p, hp⟩ : ∃ p, q * yz = p := ⟨_, rfl⟩
            have p0 : 0 ≤ p := by rw [← hp]; exact Int.mul_nonneg q0 yz0
            have p1 : p ≤ 4294967296 * 4294967295 := by rw [← hp]; exact Int.mul_le_mul (by omega) (by omega) yz0 (by omega)
            have n1 : ¬ 4294967296 ≤ q := c1
            have c1' : decide (4294967296 ≤ q) = false := decide_eq_false c1
            by_cases c2 : 4294967296 * r + u0 < p
            · obtain ⟨s1, s2, s3, s4⟩ := digit_step HB2.out HD.out (.inr (by rw [hp]; exact c2))
              have S := Aside0.mk (And.intro s3 s4)
              clear s3 s4
              by_cases c3 : 4294967296 ≤ r + y1
              · have HE := Aside0.mk (digit_break HB2.out (by omega) s2 S.out.1 S.out.2 c3)
                have g0 : 0 ≤ (q - 1) := by rw [HE.out]; exact digit_nn HB2.out
                have g1 : (q - 1) < 4294967296 := by rw [HE.out]; exact digit_lt HB2.out
                go_wp2_with fail
                go_ret2
                have HF := HA2.out
                rw [← HE.out] at HF
                rw [HF]
                exact ⟨⟨_, rfl⟩, rfl⟩
              · have c3' : decide (4294967296 ≤ r + y1) = false := decide_eq_false c3
                go_wp2_with fail
                go_roundw
                case rel => exact ⟨q - 1, r + y1, rfl, rfl, ⟨by omega, by omega, by omega, by omega, S.out.1, S.out.2⟩, rfl⟩
                case measure => simp [RowKit.intOf]; omega
            · have c2' : decide (4294967296 * r + u0 < p) = false := decide_eq_false c2
              have HE := Aside0.mk (digit_done HB2.out HD.out.eq HD.out.le (by rw [hp]; omega))
              have g0 : 0 ≤ q := by rw [HE.out]; exact digit_nn HB2.out
              have g1 : q < 4294967296 := by rw [HE.out]; exact digit_lt HB2.out
              go_wp2_with fail
              go_ret2
              have HF := HA2.out
              rw [← HE.out] at HF
              rw [HF]
              exact ⟨⟨_, rfl⟩, rfl⟩
end Go.Proofs.Ytmkojmjjlcfohaa.Pc
