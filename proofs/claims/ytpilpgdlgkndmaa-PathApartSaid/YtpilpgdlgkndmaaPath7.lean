/- PathApart: the law's walk. -/
import Derived.Test.YtpilpgdlgkndmaaPath6
set_option linter.unusedVariables false
set_option linter.unusedSimpArgs false
namespace Go.Proofs.Ytpilpgdlgkndmaa.Pm
open Go.RowKit Go.Maps
theorem and_low (a : Int) (k : Nat) (hk : k ≤ 62) (h0 : -9223372036854775808 ≤ a) (h1 : a ≤ 9223372036854775807) : Go.bits .and .i64 a ((2 ^ k - 1 : Nat) : Int) = a % ((2 ^ k : Nat) : Int) := by
  have hp : (2 : Nat) ^ k ≤ 2 ^ 62 := Nat.pow_le_pow_right (by decide) hk
  have hp0 : 0 < (2 : Nat) ^ k := Nat.pow_pos (by decide)
  have hp62 : (2 : Nat) ^ 62 = 4611686018427387904 := by decide +kernel
  have e : Go.bits .and .i64 a ((2 ^ k - 1 : Nat) : Int) = IntKind.i64.wrap ((BitVec.ofInt 64 a &&& BitVec.ofInt 64 ((2 ^ k - 1 : Nat) : Int) : BitVec 64).toNat : Int) := rfl
  rw [e, BitVec.ofInt_natCast, BitVec.toNat_and, BitVec.toNat_ofNat, BitVec.toNat_ofInt]
  have hp64 : (2 : Nat) ^ 64 = 18446744073709551616 := by decide +kernel
  have e2 : (2 ^ k - 1) % 2 ^ 64 = 2 ^ k - 1 := Nat.mod_eq_of_lt (by omega)
  rw [e2, Nat.and_two_pow_sub_one_eq_mod, IntKind.wrap_i64]
  have e4 : ((2 ^ 64 : Nat) : Int) = 18446744073709551616 := by decide +kernel
  rw [e4]
  have h3 : ((a % 18446744073709551616).toNat : Int) = a % 18446744073709551616 := Int.toNat_of_nonneg (by omega)
  rw [Int.natCast_emod, h3]
  have hd : ((2 ^ k : Nat) : Int) ∣ 18446744073709551616 := by
    rw [← e4]
    exact Int.natCast_dvd_natCast.2 (Nat.pow_dvd_pow 2 (by omega))
  rw [Int.emod_emod_of_dvd _ hd]
  have hlt := Int.emod_lt_of_pos a (show (0 : Int) < ((2 ^ k : Nat) : Int) by omega)
  have hge := Int.emod_nonneg a (show ((2 ^ k : Nat) : Int) ≠ 0 by omega)
  generalize a % ((2 ^ k : Nat) : Int) = q at *
  omega

theorem low16 (a : Int) (h0 : -9223372036854775808 ≤ a) (h1 : a ≤ 9223372036854775807) : Go.bits .and .i64 a 65535 = a % 65536 := by
  have := and_low a 16 (by decide) h0 h1
  have e5 : ((2 ^ 16 - 1 : Nat) : Int) = 65535 := by decide
  have e6 : ((2 ^ 16 : Nat) : Int) = 65536 := by decide
  rw [e5, e6] at this
  exact this
/-- From two paths to three. -/
theorem to_three {w W W1 : World} {p m g0 g1 : Nat} {x z : Int} (hp : Pth W p m 2 (D2 g0 g1)) (o0 : One W g0 true 0 0) (o1 : One W g1 false x 0) (n01 : g0 < g1) (b0 : w.heap.size ≤ g0) (bl : Below w.heap.size w W1)
    (q : Pth W1 p m 3 (D3 g0 g1 W.heap.size)) (o2 : One W1 W.heap.size false z 0) (hk : ∀ i, i < W.heap.size → i ≠ m → W1.heap[i]? = W.heap[i]?) : S3 w W1 p m g0 g1 W.heap.size x 0 z false :=
  ⟨q, o0.of_block (hk _ o0.lt (hp.ne_map o0)), o1.of_block (hk _ o1.lt (hp.ne_map o1)), o2, n01, o1.lt, b0, bl⟩
end Go.Proofs.Ytpilpgdlgkndmaa.Pm
