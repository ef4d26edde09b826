/- Plain facts on numbers and bits that the statements of layer 1 (octet) use. -/
import Derived.Test.YtpilpgdlgkndmaaQOctx2
set_option linter.unusedVariables false
namespace Go.Proofs.Ytpilpgdlgkndmaa.OctM
open Go.RowKit Go.Proofs.Ytpilpgdlgkndmaa.QOct Go.Proofs.YtpilpgdlgkndmaaW.PrintWords Go.Proofs.YtpilpgdlgkndmaaW.PrintLast Go.Proofs.YtpilpgdlgkndmaaW.PrintMore

theorem wrap64_id {n : Int} (h0 : -9223372036854775808 ≤ n) (h1 : n ≤ 9223372036854775807) : wrap64 n = n := by unfold wrap64; omega
theorem u64_wrap (n : Int) : IntKind.u64.wrap n = n % 18446744073709551616 := by simp [IntKind.wrap, IntKind.bits, IntKind.signed]
theorem bv_clear (x : BitVec 64) (i : Nat) (hi : i ≤ 63) : x &&& ~~~(BitVec.ofNat 64 (2^i-1)) = (x >>> i) <<< i := by
  apply BitVec.eq_of_getLsbD_eq
  intro j hj
  have e : (BitVec.ofNat 64 (2^i-1)).getLsbD j = decide (j < i) := by
    rw [BitVec.getLsbD_ofNat, Nat.testBit_two_pow_sub_one]; simp [hj]
  rw [BitVec.getLsbD_and, BitVec.getLsbD_not, e, BitVec.getLsbD_shiftLeft, BitVec.getLsbD_ushiftRight]
  by_cases h : j < i
  · simp [hj, h]
  · have : i + (j - i) = j := by omega
    simp [hj, h, this]
theorem bits_andNot_bv (x y : Int) : Go.bits .andNot .i64 x y = IntKind.i64.wrap ((BitVec.ofInt 64 x &&& ~~~(BitVec.ofInt 64 y) : BitVec 64).toNat : Int) := rfl
theorem bits_andNot (x : Int) (i : Nat) (hi : i ≤ 62) (h0 : 0 ≤ x) (h1 : x < 9223372036854775808) : Go.bits .andNot .i64 x (2^i - 1) = x - x % 2^i := by
  obtain ⟨a, rfl⟩ := Int.eq_ofNat_of_zero_le h0
  have hp : 0 < 2^i := Nat.two_pow_pos i
  have hc : ((2 : Int) ^ i - 1) = ((2 ^ i - 1 : Nat) : Int) := by rw [Int.natCast_sub hp]; simp
  have hd := Nat.div_add_mod a (2^i)
  have hm := Nat.mod_lt a hp
  have e : a / 2^i * 2^i = a - a % 2^i := by rw [Nat.mul_comm]; omega
  have ea : (a : Int) % 2^i = ((a % 2^i : Nat) : Int) := by simp
  rw [hc, bits_andNot_bv, BitVec.ofInt_natCast, BitVec.ofInt_natCast, bv_clear _ _ (by omega)]
  simp only [BitVec.toNat_shiftLeft, BitVec.toNat_ushiftRight, BitVec.toNat_ofNat, Nat.shiftRight_eq_div_pow, Nat.shiftLeft_eq]
  have ha : a % 2^64 = a := Nat.mod_eq_of_lt (by omega)
  rw [ha, e, Nat.mod_eq_of_lt (by omega), ea]
  rw [IntKind.wrap_i64]
  generalize 2^i = q at *
  omega
theorem bitLen_spec : ∀ (x : Nat), x < 2^64 → x < 2 ^ (Lib.bitLen x) ∧ (x ≠ 0 → 2 ^ (Lib.bitLen x) ≤ 2 * x) := by
  intro x
  induction x using Nat.strongRecOn with
  | _ x ih =>
  intro hx
  by_cases h0 : x = 0
  · subst h0; exact ⟨by decide, fun h => absurd rfl h⟩
  · obtain ⟨h1, h2⟩ := ih (x/2) (by omega) (by omega)
    rw [Lib.bitLen_half x h0 hx, Nat.pow_add]
    refine ⟨by omega, fun _ => ?_⟩
    by_cases h3 : x / 2 = 0
    · have : x = 1 := by omega
      subst this; decide
    · have := h2 h3; omega

theorem bits_orJoin (i : Nat) (hi : i ≤ 62) (x y : Int) (h0 : 0 ≤ x) (h1 : x < 9223372036854775808) (hx : x % 2 ^ i = 0) (hy0 : 0 ≤ y) (hy : y < 2 ^ i) : Go.bits .or .i64 x y = x + y := by
  have hp : (2 : Int) ^ i ≤ 2 ^ 62 := by exact_mod_cast Nat.pow_le_pow_right (by decide : 0 < 2) hi
  exact bits_join .i64 63 (by decide) (fun n a b => by rw [IntKind.wrap_i64]; omega) i x y h0 hx (by omega) hy0 hy (by omega)
theorem bits_maskU (i : Nat) (hi : i ≤ 64) (x : Int) (h0 : 0 ≤ x) (h1 : x < 18446744073709551616) : Go.bits .and .u64 x (2 ^ i - 1) = x % 2 ^ i :=
  bits_mask .u64 64 (by decide) (fun n a b => by rw [u64_wrap]; omega) i hi x h0 h1

/-- What Go's Whole tells: W is the window, want the number that is waited for. -/
def wsel (W low want : Int) : Int :=
  if want - want % W + low + W / 2 ≤ want ∧ want - want % W + low + W ≤ 4611686018427387903 then want - want % W + low + W
  else if (want - want % W + low - W / 2 > want ∧ want - want % W + low ≥ W) ∨ want - want % W + low > 4611686018427387903 then want - want % W + low - W
  else want - want % W + low

structure Win (n s W : Int) : Prop where
  n1 : 1 ≤ n
  n4 : n ≤ 4
  s8 : wrap64 (8 * n) = s
  s8u : IntKind.u64.wrap (wrap64 (8 * n)) = s
  s0 : 0 ≤ s
  sh : shl .i64 1 s = W
  shu : shl .u64 1 s = W
  half : Int.tdiv W 2 = W / 2
  even : W % 2 = 0
  w0 : 256 ≤ W
  w1 : W ≤ 4294967296
  shr0 : ∀ low, 0 ≤ low → low < 18446744073709551616 → (shr .u64 low s = 0 ↔ low < W)
  clr : ∀ x, 0 ≤ x → x < 9223372036854775808 → Go.bits .andNot .i64 x (W - 1) = x - x % W
  join : ∀ x y, 0 ≤ x → x < 9223372036854775808 → x % W = 0 → 0 ≤ y → y < W → Go.bits .or .i64 x y = x + y
  mask : ∀ x, 0 ≤ x → x < 18446744073709551616 → Go.bits .and .u64 x (W - 1) = x % W

theorem shr_u (low : Int) (i : Nat) (hi : i ≤ 62) (h0 : 0 ≤ low) (h1 : low < 18446744073709551616) : shr .u64 low (i : Int) = 0 ↔ low < 2 ^ i := by
  unfold shr
  have e : min (i : Int).toNat IntKind.u64.bits = i := by simp [IntKind.bits]; omega
  rw [e]
  have hp : (0 : Int) < 2 ^ i := Int.pow_pos (by decide)
  constructor
  · intro h
    have := Int.emod_add_mul_ediv low (2 ^ i)
    rw [h] at this
    have := Int.emod_lt_of_pos low hp
    omega
  · intro h; exact Int.ediv_eq_zero_of_lt h0 h

theorem win1 : Win 1 8 256 where
  n1 := by decide
  n4 := by decide
  s8 := by decide +kernel
  s8u := by decide +kernel
  s0 := by decide
  sh := by decide +kernel
  shu := by decide +kernel
  half := by decide
  even := by decide
  w0 := by decide
  w1 := by decide
  shr0 := fun low a b => shr_u low 8 (by decide) a b
  clr := fun x a b => bits_andNot x 8 (by decide) a b
  join := fun x y a b c d e => bits_orJoin 8 (by decide) x y a b c d e
  mask := fun x a b => bits_maskU 8 (by decide) x a b
theorem win2 : Win 2 16 65536 where
  n1 := by decide
  n4 := by decide
  s8 := by decide +kernel
  s8u := by decide +kernel
  s0 := by decide
  sh := by decide +kernel
  shu := by decide +kernel
  half := by decide
  even := by decide
  w0 := by decide
  w1 := by decide
  shr0 := fun low a b => shr_u low 16 (by decide) a b
  clr := fun x a b => bits_andNot x 16 (by decide) a b
  join := fun x y a b c d e => bits_orJoin 16 (by decide) x y a b c d e
  mask := fun x a b => bits_maskU 16 (by decide) x a b
theorem win3 : Win 3 24 16777216 where
  n1 := by decide
  n4 := by decide
  s8 := by decide +kernel
  s8u := by decide +kernel
  s0 := by decide
  sh := by decide +kernel
  shu := by decide +kernel
  half := by decide
  even := by decide
  w0 := by decide
  w1 := by decide
  shr0 := fun low a b => shr_u low 24 (by decide) a b
  clr := fun x a b => bits_andNot x 24 (by decide) a b
  join := fun x y a b c d e => bits_orJoin 24 (by decide) x y a b c d e
  mask := fun x a b => bits_maskU 24 (by decide) x a b
theorem win4 : Win 4 32 4294967296 where
  n1 := by decide
  n4 := by decide
  s8 := by decide +kernel
  s8u := by decide +kernel
  s0 := by decide
  sh := by decide +kernel
  shu := by decide +kernel
  half := by decide
  even := by decide
  w0 := by decide
  w1 := by decide
  shr0 := fun low a b => shr_u low 32 (by decide) a b
  clr := fun x a b => bits_andNot x 32 (by decide) a b
  join := fun x y a b c d e => bits_orJoin 32 (by decide) x y a b c d e
  mask := fun x a b => bits_maskU 32 (by decide) x a b
theorem win_of (n : Int) (h1 : 1 ≤ n) (h4 : n ≤ 4) : ∃ s W, Win n s W ∧ (n = 1 → W = 256) ∧ (n = 2 → W = 65536) ∧ (n = 3 → W = 16777216) ∧ (n = 4 → W = 4294967296) := by
  have : n = 1 ∨ n = 2 ∨ n = 3 ∨ n = 4 := by omega
  rcases this with rfl | rfl | rfl | rfl
  · exact ⟨_, _, win1, by omega, by omega, by omega, by omega⟩
  · exact ⟨_, _, win2, by omega, by omega, by omega, by omega⟩
  · exact ⟨_, _, win3, by omega, by omega, by omega, by omega⟩
  · exact ⟨_, _, win4, by omega, by omega, by omega, by omega⟩

theorem mod_facts (a W : Int) (hW : 0 < W) : 0 ≤ a % W ∧ a % W < W := ⟨Int.emod_nonneg _ (by omega), Int.emod_lt_of_pos _ hW⟩
theorem sub_mod_mod (a W : Int) : (a - a % W) % W = 0 := by
  have := Int.emod_add_mul_ediv a W
  have e : a - a % W = W * (a / W) := by omega
  rw [e]; exact Int.mul_emod_right _ _

theorem whole_ok {n s W : Int} (H : Win n s W) (k : Nat) (low g : Int) (hl : 0 ≤ low) (hlW : low < W) (hg : -1 ≤ g) (hg2 : g ≤ 4611686018427387903) :
    octet_Whole.f (k + 2) low n g = some (wsel W low (g + 1), 0) := by
  have hw := H.w0; have hw1 := H.w1; have hev := H.even
  have hm := mod_facts (g + 1) W (by omega)
  have e1 : wrap64 (g + 1) = g + 1 := wrap64_id (by omega) (by omega)
  have e2 : wrap64 (W - 1) = W - 1 := wrap64_id (by omega) (by omega)
  have e3 : wrap64 low = low := wrap64_id (by omega) (by omega)
  have hmle : (g + 1) % W ≤ g + 1 := by
    by_cases h : g + 1 < W
    · rw [Int.emod_eq_of_lt (by omega) h]; omega
    · omega
  have ec : Go.bits .andNot .i64 (g + 1) (W - 1) = g + 1 - (g + 1) % W := H.clr _ (by omega) (by omega)
  have ej : Go.bits .or .i64 (g + 1 - (g + 1) % W) low = g + 1 - (g + 1) % W + low := H.join _ _ (by omega) (by omega) (sub_mod_mod _ _) hl hlW
  generalize hx : g + 1 - (g + 1) % W + low = x at *
  have hx0 : 0 ≤ x := by omega
  have hx1 : x ≤ 4611686018427387904 + 4294967296 := by omega
  have e4 : wrap64 (x + W / 2) = x + W / 2 := wrap64_id (by omega) (by omega)
  have e5 : wrap64 (x + W) = x + W := wrap64_id (by omega) (by omega)
  have e6 : wrap64 (x - W / 2) = x - W / 2 := wrap64_id (by omega) (by omega)
  have e7 : wrap64 (x - W) = x - W := wrap64_id (by omega) (by omega)
  have e8 : wrap64 (W / 2) = W / 2 := wrap64_id (by omega) (by omega)
  have n1 := H.n1; have n4 := H.n4
  unfold wsel
  simp only [octet_Whole.f, octet_Whole.j0, octet_Whole.j1, H.s8, H.sh, H.half, e8, e1, e2, e3, ec, ej, hx, e4, e5, e6, e7]
  rw [if_neg (by omega), if_neg (by omega), if_pos H.s0, if_pos ((H.shr0 low hl (by omega)).2 hlW), if_neg (by omega)]
  rw [show decide (g > 4611686018427387903) = false from decide_eq_false (by omega)]
  simp only [Bool.false_eq_true, if_false]
  rw [if_pos H.s0]
  simp only [decide_eq_true_eq]
  (repeat' split) <;> first | rfl | (exfalso; omega)

/-- How many bytes a packet's number needs, d being how far it is ahead. -/
def ssel (d : Int) : Int := if d < 128 then 1 else if d < 32768 then 2 else if d < 8388608 then 3 else 4

theorem len_sel (d : Int) (h1 : 1 ≤ d) (h2 : d ≤ 4611686018427387904) : mn 4 (wrap64 ((wrap64 (Int.tdiv (Lib.bitLen d.toNat : Int) 8)) + 1)) = ssel d := by
  obtain ⟨a, rfl⟩ := Int.eq_ofNat_of_zero_le (show 0 ≤ d by omega)
  obtain ⟨g1, g2⟩ := bitLen_spec a (by omega)
  have g2 := g2 (by omega)
  have hL : Lib.bitLen a ≤ 64 := Lib.bitLen_le a 64 (by omega) (by omega)
  have e0 : ((a : Nat) : Int).toNat = a := by omega
  rw [e0]
  generalize Lib.bitLen a = L at *
  have et : Int.tdiv (L : Int) 8 = ((L / 8 : Nat) : Int) := by simp [Int.tdiv_eq_ediv_of_nonneg]
  have ew : wrap64 ((L / 8 : Nat) : Int) = ((L / 8 : Nat) : Int) := wrap64_id (by omega) (by omega)
  have ew2 : wrap64 (((L / 8 : Nat) : Int) + 1) = ((L / 8 : Nat) : Int) + 1 := wrap64_id (by omega) (by omega)
  rw [et, ew, ew2]
  have up : ∀ j, L ≤ j → 2 ^ L ≤ 2 ^ j := fun j h => Nat.pow_le_pow_right (by decide) h
  have dn : ∀ j, j ≤ L → 2 ^ j ≤ 2 ^ L := fun j h => Nat.pow_le_pow_right (by decide) h
  unfold ssel mn
  have c : L ≤ 7 ∨ (8 ≤ L ∧ L ≤ 15) ∨ (16 ≤ L ∧ L ≤ 23) ∨ 24 ≤ L := by omega
  rcases c with c | ⟨c, c'⟩ | ⟨c, c'⟩ | c
  · have := up 7 c
    (repeat' split) <;> omega
  · have := up 15 c'; have := dn 8 c
    (repeat' split) <;> omega
  · have := up 23 c'; have := dn 16 c
    (repeat' split) <;> omega
  · have := dn 24 c
    (repeat' split) <;> omega

theorem short_ok (number acked : Int) (h0 : 0 ≤ number) (h1 : number ≤ 4611686018427387903) (h2 : -1 ≤ acked) (h3 : acked < number) :
    octet_Short.f number acked = some (ssel (number - acked), 0) := by
  have e1 : wrap64 (number - acked) = number - acked := wrap64_id (by omega) (by omega)
  have e2 : IntKind.u64.wrap (number - acked) = number - acked := by rw [u64_wrap]; omega
  simp only [octet_Short.f, octet_lies.f, bits_Len.f, e1, e2]
  rw [if_pos h0, Option.bind_some, if_pos (by simpa using h1), if_neg (by omega), if_neg (by omega), if_pos (by omega), if_pos (by omega), Option.bind_some, len_sel _ (by omega) (by omega)]
theorem short_bad (number acked : Int) (h : ¬ (0 ≤ number ∧ number ≤ 4611686018427387903 ∧ -1 ≤ acked ∧ acked < number)) :
    octet_Short.f number acked = some (0, 2) := by
  simp only [octet_Short.f, octet_lies.f]
  by_cases h0 : number ≥ 0
  · rw [if_pos h0, Option.bind_some]
    by_cases h1 : number ≤ 4611686018427387903
    · rw [if_pos (by simpa using h1)]
      by_cases h2 : acked < -1
      · rw [if_pos h2]
      · rw [if_neg h2, if_pos (by omega)]
    · rw [if_neg (by simpa using h1)]
  · rw [if_neg h0, Option.bind_some, if_neg (by decide)]
theorem ssel_range (d : Int) : 1 ≤ ssel d ∧ ssel d ≤ 4 := by unfold ssel; (repeat' split) <;> omega

/-- A number ahead by less than half a window is told again. -/
theorem wsel_back (W number want : Int) (h256 : 256 ≤ W) (hW : W ≤ 4294967296) (hev : W % 2 = 0) (h0 : 0 ≤ want) (h1 : want ≤ number) (h2 : number < want + W / 2) (h3 : number ≤ 4611686018427387903) :
    wsel W (number % W) want = number := by
  have m1 := mod_facts number W (by omega)
  have m2 := mod_facts want W (by omega)
  have d1 := Int.emod_add_mul_ediv number W
  have d2 := Int.emod_add_mul_ediv want W
  have q : number / W = want / W ∨ number / W = want / W + 1 := by
    have a1 : want / W ≤ number / W := Int.ediv_le_ediv (by omega) h1
    have a2 : number / W ≤ (want + W * 1) / W := Int.ediv_le_ediv (by omega) (by omega)
    rw [Int.add_mul_ediv_left _ _ (by omega)] at a2
    omega
  unfold wsel
  generalize number % W = r at *
  generalize want % W = u at *
  generalize want / W = v at *
  rcases q with q | q
  · rw [q] at d1
    generalize W * v = z at *
    rw [if_neg (by omega), if_neg (by omega)]; omega
  · rw [q, Int.mul_add, Int.mul_one] at d1
    generalize W * v = z at *
    rw [if_pos (by omega)]; omega

end Go.Proofs.Ytpilpgdlgkndmaa.OctM
