/- Numbers for the wheel: xor of two times, shifts and masks of 64; no condition, no program in sight. -/
import Derived.Test.YtakmcbakogjeeaaWhPure
import Derived.Laws.BitsLemmas
set_option linter.unusedVariables false
set_option linter.unusedSimpArgs false
namespace Go.Proofs.Ytakmcbakogjeeaa.Wh
open Go
theorem and63 (x : Int) (h0 : 0 ≤ x) (h1 : x < 4611686018427387904) : bits .and .i64 x 63 = x % 64 := by
  have := bits_mask .i64 62 (by decide) (fun n h2 h3 => by rw [IntKind.wrap_i64]; have : (2 : Int) ^ 62 = 4611686018427387904 := (by decide); omega) 6 (by decide) x h0 (by have : (2 : Int) ^ 62 = 4611686018427387904 := (by decide); omega)
  simpa using this
theorem xor_lt (x y : Int) (h0 : 0 ≤ x) (h1 : x ≤ 1125899906842624) (h2 : 0 ≤ y) (h3 : y ≤ 1125899906842624) : 0 ≤ bits .xor .i64 x y ∧ bits .xor .i64 x y < 2251799813685248 := by
  have e : bits .xor .i64 x y = IntKind.i64.wrap ((BitVec.ofInt 64 x ^^^ BitVec.ofInt 64 y).toNat : Int) := rfl
  have hx : (BitVec.ofInt 64 x).toNat < 2 ^ 51 := by
    rw [BitVec.toNat_ofInt]; omega
  have hy : (BitVec.ofInt 64 y).toNat < 2 ^ 51 := by
    rw [BitVec.toNat_ofInt]; omega
  have h : (BitVec.ofInt 64 x ^^^ BitVec.ofInt 64 y).toNat < 2 ^ 51 := by
    rw [BitVec.toNat_xor]
    exact Nat.xor_lt_two_pow hx hy
  rw [e, IntKind.wrap_i64]
  omega
theorem pow64 (r : Nat) : (2 : Int) ^ (6 * (r : Int)).toNat = 64 ^ r := by
  rw [show (6 * (r : Int)).toNat = 6 * r by omega, Int.pow_mul]
  rfl
theorem pow_pos (r : Nat) : (1 : Int) ≤ 64 ^ r := by
  induction r with
  | zero => decide
  | succ r ih => rw [Int.pow_succ]; omega
/-- The place on a rim, as the program reckons it. -/
theorem spot_s (r : Nat) (a : Int) (h0 : 0 ≤ a) (h1 : a ≤ 1125899906842624) : ∃ s : Nat, bits .and .i64 (a / 2 ^ (6 * (r : Int)).toNat) 63 = s ∧ s < 64 ∧ spot r a = r * 64 + s := by
  have hp := pow_pos r
  have hd0 : 0 ≤ a / 64 ^ r := Int.ediv_nonneg h0 (by omega)
  have hd1 : a / 64 ^ r ≤ a := Int.ediv_le_self _ h0
  rw [pow64, and63 _ hd0 (by omega)]
  refine ⟨((a / 64 ^ r) % 64).toNat, by omega, by omega, by unfold spot; omega⟩
theorem sh_next {d : Int} {r : Nat} (hd : 0 ≤ d) (hb : d * 64 ^ r ≤ 35184372088831) : 0 ≤ d / 64 ∧ d / 64 * 64 ^ (r + 1) ≤ 35184372088831 := by
  have hp := pow_pos r
  refine ⟨by omega, ?_⟩
  have h1 : d / 64 * 64 ≤ d := by omega
  have h2 : d / 64 * 64 * 64 ^ r ≤ d * 64 ^ r := Int.mul_le_mul_of_nonneg_right h1 (by omega)
  rw [Int.pow_succ, Int.mul_comm (64 ^ r) 64, ← Int.mul_assoc]
  omega
theorem pow_mono {r q : Nat} (h : r ≤ q) : (64 : Int) ^ r ≤ 64 ^ q := by
  obtain ⟨k, rfl⟩ := Nat.exists_eq_add_of_le h
  rw [Int.pow_add]
  have h1 := pow_pos r
  have h2 := pow_pos k
  have := Int.mul_le_mul_of_nonneg_left h2 (show (0 : Int) ≤ 64 ^ r by omega)
  omega
theorem sh_lt {d : Int} {r : Nat} (hd : 0 < d) (hb : d * 64 ^ r ≤ 35184372088831) : r ≤ 7 := by
  refine Nat.le_of_not_lt (fun h => ?_)
  have h8 := pow_mono (show 8 ≤ r by omega)
  have h1 : (64 : Int) ^ 8 = 281474976710656 := by decide
  have h2 : 1 * 64 ^ r ≤ d * 64 ^ r := Int.mul_le_mul_of_nonneg_right (by omega) (by omega)
  omega
end Go.Proofs.Ytakmcbakogjeeaa.Wh
