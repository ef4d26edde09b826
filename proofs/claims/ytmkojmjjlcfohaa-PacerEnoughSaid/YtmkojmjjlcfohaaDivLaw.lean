/- Knuth's digit, in plain Lean. -/
import Derived.Test.YtmkojmjjlcfohaaBits
import Derived.Lib.ItoaNum
import Derived.Laws.Bits64b
set_option linter.unusedVariables false
namespace Go.Proofs.Ytmkojmjjlcfohaa.Pc
open Go
/-- What the search of a digit keeps. -/
structure DInv (Y y1 yz U u1 q r : Int) : Prop where
  r0 : 0 ≤ r
  r1 : r < 4294967296
  q0 : 0 ≤ q
  q1 : q ≤ 4294967297
  eq : q * y1 + r = U
  le : (U * 4294967296 + u1) / Y ≤ q
/-- The divisor and the number, fixed. -/
structure DBase (Y y1 yz U u1 : Int) : Prop where
  ey : Y = y1 * 4294967296 + yz
  z0 : 0 ≤ yz
  z1 : yz < 4294967296
  y0 : 2147483648 ≤ y1
  y2 : y1 < 4294967296
  U0 : 0 ≤ U
  U1 : U < Y
  v0 : 0 ≤ u1
  v1 : u1 < 4294967296
variable {Y y1 yz U u1 q r : Int}
theorem DBase.pos (b : DBase Y y1 yz U u1) : 0 < Y := by have := b.ey; have := b.z0; have := b.y0; omega
theorem qY (b : DBase Y y1 yz U u1) (h : q * y1 + r = U) : q * Y = (U - r) * 4294967296 + q * yz := by
  have h1 : q * y1 = U - r := by omega
  rw [b.ey, Int.mul_add, ← Int.mul_assoc, h1]
theorem digit_done (b : DBase Y y1 yz U u1) (h : q * y1 + r = U) (hle : (U * 4294967296 + u1) / Y ≤ q) (hc : q * yz ≤ 4294967296 * r + u1) : q = (U * 4294967296 + u1) / Y := by
  have e := qY b h
  have : q ≤ (U * 4294967296 + u1) / Y := Int.le_ediv_of_mul_le b.pos (by rw [e, Int.sub_mul]; omega)
  omega
theorem digit_more (b : DBase Y y1 yz U u1) (h : q * y1 + r = U) (hc : 4294967296 * r + u1 < q * yz) : (U * 4294967296 + u1) / Y ≤ q - 1 := by
  have e := qY b h
  have : (U * 4294967296 + u1) / Y < q := Int.ediv_lt_of_lt_mul b.pos (by rw [e, Int.sub_mul]; omega)
  omega
theorem digit_lt (b : DBase Y y1 yz U u1) : (U * 4294967296 + u1) / Y < 4294967296 := by
  have := b.U1; have := b.v1
  exact Int.ediv_lt_of_lt_mul b.pos (by omega)
theorem digit_nn (b : DBase Y y1 yz U u1) : 0 ≤ (U * 4294967296 + u1) / Y := Int.ediv_nonneg (by have := b.U0; have := b.v0; omega) (Int.le_of_lt b.pos)
theorem digit_first (b : DBase Y y1 yz U u1) : DInv Y y1 yz U u1 (U / y1) (U - U / y1 * y1) := by
  have hy : 0 < y1 := by have := b.y0; omega
  have h1 := Int.ediv_mul_le U (Int.ne_of_gt hy)
  have h2 := Int.lt_ediv_add_one_mul_self U hy
  rw [Int.add_mul, Int.one_mul] at h2
  have hy2 := b.y2
  refine ⟨by omega, by omega, Int.ediv_nonneg b.U0 (by omega), ?_, by omega, ?_⟩
  · have : U / y1 < 4294967298 := Int.ediv_lt_of_lt_mul hy (by
      have := b.U1; have := b.ey; have := b.z1; have := b.y0; omega)
    omega
  · have hQ := Int.ediv_mul_le (U * 4294967296 + u1) (Int.ne_of_gt b.pos)
    have h0 := digit_nn b
    generalize (U * 4294967296 + u1) / Y = Q at *
    apply Int.le_ediv_of_mul_le hy
    have hz : 0 ≤ Q * yz := Int.mul_nonneg h0 b.z0
    rw [b.ey, Int.mul_add, ← Int.mul_assoc] at hQ
    have := b.v1
    omega
/-- One less, where the test holds. -/
theorem digit_step (b : DBase Y y1 yz U u1) (h : DInv Y y1 yz U u1 q r) (hc : 4294967296 ≤ q ∨ 4294967296 * r + u1 < q * yz) :
    1 ≤ q ∧ q - 1 ≤ 4294967296 ∧ (q - 1) * y1 + (r + y1) = U ∧ (U * 4294967296 + u1) / Y ≤ q - 1 := by
  have hl : (U * 4294967296 + u1) / Y ≤ q - 1 := by
    rcases hc with hc | hc
    · have := digit_lt b; omega
    · exact digit_more b h.eq hc
  have := digit_nn b
  have := h.q1
  refine ⟨by omega, by omega, ?_, hl⟩
  rw [Int.sub_mul, Int.one_mul]
  have := h.eq
  omega
theorem digit_break (b : DBase Y y1 yz U u1) (hq0 : 0 ≤ q) (hq : q ≤ 4294967296) (h : q * y1 + r = U) (hle : (U * 4294967296 + u1) / Y ≤ q) (hr : 4294967296 ≤ r) : q = (U * 4294967296 + u1) / Y := by
  refine digit_done b h hle ?_
  have h1 : q * yz ≤ 4294967296 * 4294967295 := Int.mul_le_mul hq (by have := b.z1; omega) b.z0 (by omega)
  have := b.v0
  omega
/-- What is left behind a digit. -/
theorem digit_left (b : DBase Y y1 yz U u1) : 0 ≤ U * 4294967296 + u1 - (U * 4294967296 + u1) / Y * Y ∧ U * 4294967296 + u1 - (U * 4294967296 + u1) / Y * Y < Y := by
  have h1 := Int.ediv_mul_le (U * 4294967296 + u1) (Int.ne_of_gt b.pos)
  have h2 := Int.lt_ediv_add_one_mul_self (U * 4294967296 + u1) b.pos
  rw [Int.add_mul, Int.one_mul] at h2
  omega
/-- The two digits are the quotient. -/
theorem two_digits (X Y Q : Int) (u0 V : Int) (hY : 0 < Y) (hV : X - Q * Y = V) : (X * 4294967296 + u0) / Y = Q * 4294967296 + (V * 4294967296 + u0) / Y := by
  have : X * 4294967296 + u0 = (V * 4294967296 + u0) + Q * 4294967296 * Y := by
    rw [Int.mul_assoc, Int.mul_comm 4294967296 Y, ← Int.mul_assoc, ← hV, Int.sub_mul]; omega
  rw [this, Int.add_mul_ediv_right _ _ (Int.ne_of_gt hY)]
  omega
/-- The shift that norms the divisor. -/
theorem norm_shift (y0 hi lo : Int) (hh : 1 ≤ hi) (hh1 : hi < y0) (hx : 0 ≤ lo) (hx1 : lo < 18446744073709551616) (hb1 : y0 < 18446744073709551616) :
    ∃ s t : Nat, s + t = 64 ∧ s ≤ 63 ∧ ((s : Nat) : Int) = 64 - (Lib.bitLen y0.toNat : Int) ∧
      9223372036854775808 ≤ y0 * 2 ^ s ∧ y0 * 2 ^ s < 18446744073709551616 ∧
      hi * 2 ^ s < 18446744073709551616 ∧ 0 ≤ hi * 2 ^ s ∧ 0 ≤ lo / 2 ^ t ∧
      bits .or .u64 (hi * 2 ^ s) (lo / 2 ^ t) = hi * 2 ^ s + lo / 2 ^ t ∧
      lo * 2 ^ s = lo / 2 ^ t * 18446744073709551616 + (lo * 2 ^ s) % 18446744073709551616 ∧
      hi * 2 ^ s + lo / 2 ^ t < y0 * 2 ^ s := by
  obtain ⟨y, rfl⟩ := Int.eq_ofNat_of_zero_le (show 0 ≤ y0 by omega)
  obtain ⟨h, rfl⟩ := Int.eq_ofNat_of_zero_le (show 0 ≤ hi by omega)
  obtain ⟨l, rfl⟩ := Int.eq_ofNat_of_zero_le hx
  have hl : l < 2 ^ 64 := by rw [show (2 : Nat) ^ 64 = 18446744073709551616 by decide +kernel]; omega
  have hy : y < 2 ^ 64 := by rw [show (2 : Nat) ^ 64 = 18446744073709551616 by decide +kernel]; omega
  obtain ⟨b1, b2, b3⟩ := Lib.bitLenAux_bounds 64 y hy (by omega)
  have b4 := Lib.bitLen_le y 64 (by omega) hy
  change 1 ≤ Lib.bitLen y at b1
  change 2 ^ (Lib.bitLen y - 1) ≤ y at b2
  change y < 2 ^ Lib.bitLen y at b3
  rw [Int.toNat_natCast]
  generalize Lib.bitLen y = L at *
  have p64 : (2 : Nat) ^ 64 = 18446744073709551616 := by decide +kernel
  have p63 : (2 : Nat) ^ 63 = 9223372036854775808 := by decide +kernel
  have e1 : (2 : Nat) ^ (L - 1) * 2 ^ (64 - L) = 2 ^ 63 := by rw [← Nat.pow_add]; congr 1; omega
  have e2 : (2 : Nat) ^ L * 2 ^ (64 - L) = 2 ^ 64 := by rw [← Nat.pow_add]; congr 1; omega
  have hp : 0 < 2 ^ (64 - L) := Nat.pow_pos (by decide)
  have hpL : 0 < 2 ^ L := Nat.pow_pos (by decide)
  have g1 : 2 ^ (L - 1) * 2 ^ (64 - L) ≤ y * 2 ^ (64 - L) := Nat.mul_le_mul_right _ b2
  have g2 : y * 2 ^ (64 - L) < 2 ^ L * 2 ^ (64 - L) := Nat.mul_lt_mul_of_pos_right b3 hp
  have hhy : h + 1 ≤ y := by omega
  have g3 : (h + 1) * 2 ^ (64 - L) ≤ y * 2 ^ (64 - L) := Nat.mul_le_mul_right _ hhy
  have g4 : l / 2 ^ L < 2 ^ (64 - L) := (Nat.div_lt_iff_lt_mul hpL).2 (by rw [Nat.mul_comm, e2]; exact hl)
  have g5 : l * 2 ^ (64 - L) = l / 2 ^ L * 2 ^ 64 + (l * 2 ^ (64 - L)) % 2 ^ 64 := by
    have : l / 2 ^ L = l * 2 ^ (64 - L) / 2 ^ 64 := by
      rw [← e2, Nat.mul_div_mul_right _ _ hp]
    rw [this, Nat.mul_comm (_ / _), Nat.div_add_mod]
  rw [Nat.add_mul, Nat.one_mul] at g3
  rw [e1, p63] at g1
  rw [e2, p64] at g2
  rw [p64] at g5
  have c1 : ((2 : Int) ^ (64 - L)) = ((2 ^ (64 - L) : Nat) : Int) := by simp
  have c2 : ((2 : Int) ^ L) = ((2 ^ L : Nat) : Int) := by simp
  refine ⟨64 - L, L, by omega, by omega, by omega, ?_⟩
  rw [c1, c2]
  have d1 : (h : Int) * ((2 ^ (64 - L) : Nat) : Int) = ((h * 2 ^ (64 - L) : Nat) : Int) := (Int.natCast_mul _ _).symm
  have d2 : (y : Int) * ((2 ^ (64 - L) : Nat) : Int) = ((y * 2 ^ (64 - L) : Nat) : Int) := (Int.natCast_mul _ _).symm
  have d3 : (l : Int) * ((2 ^ (64 - L) : Nat) : Int) = ((l * 2 ^ (64 - L) : Nat) : Int) := (Int.natCast_mul _ _).symm
  have d4 : (l : Int) / ((2 ^ L : Nat) : Int) = ((l / 2 ^ L : Nat) : Int) := (Int.natCast_ediv _ _).symm
  rw [d1, d2, d3, d4]
  have hor : (h * 2 ^ (64 - L)) ||| (l / 2 ^ L) = h * 2 ^ (64 - L) + l / 2 ^ L := by
    have := Nat.two_pow_add_eq_or_of_lt g4 h
    rw [Nat.mul_comm] at this
    exact this.symm
  refine ⟨by omega, by omega, by omega, by omega, by omega, ?_, by omega, by omega⟩
  rw [bits_or_u64_nat _ _ (by omega) (by omega), hor]
  omega
end Go.Proofs.Ytmkojmjjlcfohaa.Pc
