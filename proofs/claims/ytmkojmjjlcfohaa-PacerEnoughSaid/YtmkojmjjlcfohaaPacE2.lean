/- Div64 whole; scaled, whatever the product is. -/
import Derived.Test.YtmkojmjjlcfohaaPacer1
set_option linter.unusedVariables false
set_option linter.unusedSimpArgs false
namespace Go.Proofs.Ytmkojmjjlcfohaa.Pc
open Go.RowKit Go.Lib
structure DivOk : Prop where
  out : ∀ (hi lo y0 : Int) (hh : 0 ≤ hi) (hh1 : hi < y0) (hx : 0 ≤ lo) (hx1 : lo < 18446744073709551616) (hb1 : y0 < 18446744073709551616) (w : World),
    Calls Try.prog 58 #[.int .u64 hi, .int .u64 lo, .int .u64 y0] w fun e w' => (∃ r : Int, e = .returned (.tuple #[.int .u64 ((hi * 18446744073709551616 + lo) / y0), .int .u64 r])) ∧ ∃ m, w' = w.drewN m
theorem mul64_any (x y z : Int) (hz : x * y = z) (hx : 0 ≤ x) (hy : 0 ≤ y) (hx1 : x < 18446744073709551616) (hy1 : y < 18446744073709551616) (w : World) :
    Calls Try.prog 56 #[.int .u64 x, .int .u64 y] w fun e w' => e = .returned (.tuple #[.int .u64 (z / 18446744073709551616), .int .u64 (z % 18446744073709551616)]) ∧ w' = w := by
  obtain ⟨x, rfl⟩ := Int.eq_ofNat_of_zero_le hx
  obtain ⟨y, rfl⟩ := Int.eq_ofNat_of_zero_le hy
  subst hz
  have h := mul64_n x y (by omega) (by omega) w
  rw [mulN]
  rw [show ((x * y / 18446744073709551616 : Nat) : Int) = ((x * y : Nat) : Int) / 18446744073709551616 by omega, show ((x * y % 18446744073709551616 : Nat) : Int) = ((x * y : Nat) : Int) % 18446744073709551616 by omega] at h
  exact h
theorem add64_c (x c s o : Int) (hx : 0 ≤ x) (hx1 : x < 18446744073709551616) (hc : 0 ≤ c) (hc1 : c < 18446744073709551616) (hs : (x + c) % 18446744073709551616 = s) (ho : (x + c) / 18446744073709551616 = o) (w : World) : (callFunc 57 #[.int .u64 x, .int .u64 c, .int .u64 0]).run Try.prog w =
    .ok (.value (.tuple #[.int .u64 s, .int .u64 o])) w := by
  rw [run_callFunc_extern Try.func57 (by kernel_rfl) (by kernel_rfl) (by kernel_rfl) (e := add64Entry) (by kernel_rfl), run_add64 x c 0 hx hc (by omega) (by omega)]
  simp only [Result.andThen]
  rw [Int.add_zero, hs, ho]
/-- scaled, where the quotient is below a word. -/
theorem scaled_any (HD : DivOk) (n a b c g z : Int) (hz : n * a = z) (hn : 0 ≤ n) (ha : 0 ≤ a) (hn1 : n < 18446744073709551616) (ha1 : a < 18446744073709551616) (hz0 : 0 ≤ z) (hc : 0 ≤ c) (hc1 : c < 18446744073709551616) (hb : 0 < b) (hb1 : b < 18446744073709551616) (hq : (z + c) / 18446744073709551616 < b) (hg : 0 ≤ g) (hg1 : g < 18446744073709551616) (w : World) :
    Calls Try.prog 39 #[.int .u64 n, .int .u64 a, .int .u64 b, .int .u64 c, .int .u64 g] w fun e w' => e = .returned (.int .u64 (min ((z + c) / b) g)) ∧ ∃ m, w' = w.drewN m := by
  obtain ⟨h, hh⟩ : ∃ h, z / 18446744073709551616 = h := ⟨_, rfl⟩
  obtain ⟨l, hl⟩ : ∃ l, z % 18446744073709551616 = l := ⟨_, rfl⟩
  obtain ⟨s, hs⟩ : ∃ s, (l + c) % 18446744073709551616 = s := ⟨_, rfl⟩
  obtain ⟨o, ho⟩ : ∃ o, (l + c) / 18446744073709551616 = o := ⟨_, rfl⟩
  have l0 : 0 ≤ l := by omega
  have l1 : l < 18446744073709551616 := by omega
  have s0 : 0 ≤ s := by omega
  have s1 : s < 18446744073709551616 := by omega
  obtain ⟨H, hH⟩ : ∃ H, h + o = H := ⟨_, rfl⟩
  have H0 : 0 ≤ H := by omega
  have H1 : H < b := by omega
  have e1 : IntKind.u64.wrap (h + o) = H := by rw [hH, IntKind.wrap_u64]; omega
  have hzc : z + c = H * 18446744073709551616 + s := by omega
  have d0 : decide (H ≥ b) = false := decide_eq_false (by omega)
  have Hz := Aside0.mk (And.intro hz (And.intro hn1 ha1))
  have HM : ∀ W, Calls Try.prog 56 #[.int .u64 n, .int .u64 a] W fun e w' => e = .returned (.tuple #[.int .u64 h, .int .u64 l]) ∧ w' = W := by
    intro W
    have := mul64_any n a z hz hn ha hn1 ha1 W
    rw [hh, hl] at this
    exact this
  have HA := add64_c l c s o l0 l1 hc hc1 hs ho
  have HM := Aside0.mk HM
  rw [hzc]
  have HDv := Aside0.mk (HD.out H s b H0 H1 s0 s1 hb1)
  obtain ⟨q, hqq⟩ : ∃ q, (H * 18446744073709551616 + s) / b = q := ⟨_, rfl⟩
  rw [hqq] at HDv ⊢
  clear hqq hzc hH hh hl hs ho hz hz0 hq l0 l1 s0 s1
  go_enter Try.func39, Try.ntmps39
  go_wp2_with (first
    | (go_at_call 56; refine (HM.out _).mono ?_; rintro e w' ⟨rfl, rfl⟩)
    | simp only [HA]
    | (go_at_call 58; refine (HDv.out _).mono ?_; rintro e w' ⟨⟨r, rfl⟩, m, rfl⟩))
  all_goals
    go_ret
    exact ⟨congrArg (fun x => Ending.returned (Value.int .u64 x)) (by first | rfl | exact (Int.min_eq_right (by omega)).symm | exact (Int.min_eq_left (by omega)).symm), _, rfl⟩
end Go.Proofs.Ytmkojmjjlcfohaa.Pc
