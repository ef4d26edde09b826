/- The pacer's arithmetic: math/bits.Mul64, Add64, Div64 (high word 0), rate, scaled. -/
import Derived.Test.YtmkojmjjlcfohaaChecked
import Derived.WalkKit
import Derived.Below
import Derived.Lib.Mul64
import Derived.Outline
import Derived.Laws.Bits64b
import Derived.Laws.Externs
import Derived.Deep.RegionHeld3
import Derived.StillTactics
import Derived.Deep.QuietTactic
import Derived.BigQuiet
set_option linter.unusedVariables false
set_option linter.unusedSimpArgs false
namespace Go.Proofs.Ytmkojmjjlcfohaa.Pc
open Go.RowKit Go.Lib
structure Aside0 (p : Prop) : Prop where mk :: (out : p)
theorem maskN (a : Nat) (ha : a < 18446744073709551616) : bits .and .u64 (a : Int) 4294967295 = ((a % 4294967296 : Nat) : Int) := by
  have h := bits_and_u64_nat a 4294967295 ha (by omega)
  have e : a &&& 4294967295 = a % 4294967296 := Nat.and_two_pow_sub_one_eq_mod a 32
  rw [e] at h
  exact h
theorem divN (a : Nat) : (a : Int) / 4294967296 = ((a / 4294967296 : Nat) : Int) := by omega
theorem mulN (a b : Nat) : (a : Int) * (b : Int) = ((a * b : Nat) : Int) := (Int.natCast_mul a b).symm
theorem addN (a b : Nat) : (a : Int) + (b : Int) = ((a + b : Nat) : Int) := (Int.natCast_add a b).symm
theorem wrapN (a : Nat) (ha : a < 18446744073709551616) : IntKind.u64.wrap (a : Int) = (a : Int) := by rw [IntKind.wrap_u64]; omega
theorem wrapM (a : Nat) : IntKind.u64.wrap (a : Int) = ((a % 18446744073709551616 : Nat) : Int) := by rw [IntKind.wrap_u64]; omega
set_option maxHeartbeats 1000000 in
theorem mul64_n (x y : Nat) (hx : x < 18446744073709551616) (hy : y < 18446744073709551616) (w : World) :
    Calls Try.prog 56 #[.int .u64 x, .int .u64 y] w fun e w' => e = .returned (.tuple #[.int .u64 ((x * y / 18446744073709551616 : Nat) : Int), .int .u64 ((x * y % 18446744073709551616 : Nat) : Int)]) ∧ w' = w := by
  obtain ⟨bd, bt, bw, hhi⟩ := Lib.mul64_hi x y hx hy
  have ba := Lib.half_mul_le (a := x / 4294967296) (b := y / 4294967296) (by omega) (by omega)
  have bb := Lib.half_mul_le (a := x / 4294967296) (b := y % 4294967296) (by omega) (by omega)
  have bc := Lib.half_mul_le (a := x % 4294967296) (b := y / 4294967296) (by omega) (by omega)
  have ba' : x / 4294967296 * (y / 4294967296) < 18446744073709551616 := by omega
  have bb' : x / 4294967296 * (y % 4294967296) < 18446744073709551616 := by omega
  have bc' : x % 4294967296 * (y / 4294967296) < 18446744073709551616 := by omega
  have bh1 : x / 4294967296 * (y / 4294967296) + (x / 4294967296 * (y % 4294967296) + x % 4294967296 * (y % 4294967296) / 4294967296) / 4294967296 < 18446744073709551616 := by omega
  have bh : x / 4294967296 * (y / 4294967296) + (x / 4294967296 * (y % 4294967296) + x % 4294967296 * (y % 4294967296) / 4294967296) / 4294967296 + ((x / 4294967296 * (y % 4294967296) + x % 4294967296 * (y % 4294967296) / 4294967296) % 4294967296 + x % 4294967296 * (y / 4294967296)) / 4294967296 < 18446744073709551616 := by omega
  go_enter Try.func56, Try.ntmps56
  go_wp2
  simp only [maskN x hx, maskN y hy, divN, mulN, addN, wrapN _ bd, wrapN _ bb', wrapN _ bt, maskN _ bt, wrapN _ bc', wrapN _ bw, wrapN _ ba', wrapN _ bh1, wrapN _ bh, wrapM (x * y)]
  rw [hhi]
  go_ret2
  exact ⟨rfl, rfl⟩
/-- A product below a word: its high half is nothing. -/
theorem mul64_small (x y z : Int) (hz : x * y = z) (hx : 0 ≤ x) (hy : 0 ≤ y) (hx1 : x < 18446744073709551616) (hy1 : y < 18446744073709551616) (hl : z < 18446744073709551616) (w : World) :
    Calls Try.prog 56 #[.int .u64 x, .int .u64 y] w fun e w' => e = .returned (.tuple #[.int .u64 0, .int .u64 z]) ∧ w' = w := by
  obtain ⟨x, rfl⟩ := Int.eq_ofNat_of_zero_le hx
  obtain ⟨y, rfl⟩ := Int.eq_ofNat_of_zero_le hy
  subst hz
  rw [mulN] at hl
  have h1 : x * y / 18446744073709551616 = 0 := by omega
  have h2 : x * y % 18446744073709551616 = x * y := by omega
  have h := mul64_n x y (by omega) (by omega) w
  rw [h1, h2] at h
  rw [mulN]
  exact h
theorem add64_0 (x : Int) (hx : 0 ≤ x) (hx1 : x < 18446744073709551616) (w : World) : (callFunc 57 #[.int .u64 x, .int .u64 0, .int .u64 0]).run Try.prog w =
    .ok (.value (.tuple #[.int .u64 x, .int .u64 0])) w := by
  rw [run_callFunc_extern Try.func57 (by kernel_rfl) (by kernel_rfl) (by kernel_rfl) (e := add64Entry) (by kernel_rfl), run_add64 x 0 0 hx (by omega) (by omega) (by omega)]
  simp only [Result.andThen]
  have e1 : (x + 0 + 0) % 18446744073709551616 = x := by omega
  have e2 : (x + 0 + 0) / 18446744073709551616 = 0 := by omega
  rw [e1, e2]
set_option maxHeartbeats 1000000 in
theorem div64_0 (x b : Int) (hx : 0 ≤ x) (hx1 : x < 18446744073709551616) (hb : 0 < b) (hb1 : b < 18446744073709551616) (w : World) :
    Calls Try.prog 58 #[.int .u64 0, .int .u64 x, .int .u64 b] w fun e w' => e = .returned (.tuple #[.int .u64 (x / b), .int .u64 (x % b)]) ∧ ∃ m, w' = w.drewN m := by
  have d0 : decide (b = 0) = false := decide_eq_false (by omega)
  have d1 : decide (b ≤ 0) = false := decide_eq_false (by omega)
  have d2 : ¬ b = 0 := by omega
  have d3 : ¬ b ≤ 0 := by omega
  go_enter Try.func58, Try.ntmps58
  go_wp2_with fail
  go_quiet (fail)
  go_wp2
  go_ret2
  exact ⟨rfl, _, rfl⟩
/-- rate, with its bounds. -/
theorem rate_any (wi rt wf rf : Int) (h0 : 0 ≤ wi) (hwf : wf = min wi 1073741824) (h2 : 0 ≤ rt) (hrf : rf = min (max rt 1) 1125899906842624) (w : World) :
    Calls Try.prog 38 #[.int .i64 wi, .int .i64 rt] w fun e w' => e = .returned (.tuple #[.int .u64 (5 * wf), .int .u64 (4 * rf)]) ∧ w' = w := by
  have b0 : 0 ≤ wf := by omega
  have b1 : wf ≤ 1073741824 := by omega
  have b2 : 1 ≤ rf := by omega
  have b3 : rf ≤ 1125899906842624 := by omega
  obtain ⟨x, hx⟩ : ∃ x, max rt 1 = x := ⟨_, rfl⟩
  rw [hx] at hrf
  have m1 : ∀ W : World, (Builtin.min_ #[3, 3] 3 #[.int .i64 wi, .int .i64 1073741824]).run Try.prog W = .ok (.int .i64 wf) W := by
    intro W
    have : (if 1073741824 < wi then 1073741824 else wi) = wf := by split <;> omega
    simp [Builtin.min_, Builtin.min2, go_sem, this]
  have m2 : ∀ W : World, (Builtin.max_ #[3, 3] 3 #[.int .i64 rt, .int .i64 1]).run Try.prog W = .ok (.int .i64 x) W := by
    intro W
    have : (if 1 > rt then 1 else rt) = x := by split <;> omega
    simp only [gt_iff_lt] at this
    simp [Builtin.max_, Builtin.max2, go_sem, this]
  have m3 : ∀ W : World, (Builtin.min_ #[3, 3] 3 #[.int .i64 x, .int .i64 1125899906842624]).run Try.prog W = .ok (.int .i64 rf) W := by
    intro W
    have : (if 1125899906842624 < x then 1125899906842624 else x) = rf := by split <;> omega
    simp [Builtin.min_, Builtin.min2, go_sem, this]
  clear hwf hrf hx
  go_enter Try.func38, Try.ntmps38
  go_wp2_with fail
  go_ret2
  exact ⟨rfl, rfl⟩
/-- scaled, where the product is below a word and nothing is carried. -/
theorem scaled_in (n a b g z : Int) (hz : n * a = z) (hn : 0 ≤ n) (ha : 0 ≤ a) (hn1 : n < 18446744073709551616) (ha1 : a < 18446744073709551616) (hz0 : 0 ≤ z) (hz1 : z < 18446744073709551616) (hb : 0 < b) (hb1 : b < 18446744073709551616) (hg : 0 ≤ g) (hg1 : g < 18446744073709551616) (w : World) :
    Calls Try.prog 39 #[.int .u64 n, .int .u64 a, .int .u64 b, .int .u64 0, .int .u64 g] w fun e w' => e = .returned (.int .u64 (min (z / b) g)) ∧ ∃ m, w' = w.drewN m := by
  have d0 : decide ((0 : Int) ≥ b) = false := decide_eq_false (by omega)
  have Hz := Aside0.mk (And.intro hz (And.intro hn1 ha1))
  clear hz
  go_enter Try.func39, Try.ntmps39
  go_wp2_with (first
    | (go_at_call 56; refine (mul64_small _ _ z Hz.out.1 (by omega) (by omega) Hz.out.2.1 Hz.out.2.2 (by omega) _).mono ?_; rintro e w' ⟨rfl, rfl⟩)
    | simp only [add64_0 z hz0 hz1]
    | (go_at_call 58; refine (div64_0 _ _ (by omega) (by omega) (by omega) (by omega) _).mono ?_; rintro e w' ⟨rfl, m, rfl⟩))
  · go_ret
    exact ⟨congrArg (fun x => Ending.returned (Value.int .u64 x)) (Int.min_eq_right (by omega)).symm, _, rfl⟩
  · go_ret
    exact ⟨congrArg (fun x => Ending.returned (Value.int .u64 x)) (Int.min_eq_left (by omega)).symm, _, rfl⟩
end Go.Proofs.Ytmkojmjjlcfohaa.Pc
