/- Plain facts: the bytes of a number of variable length, the highest first, and what is read of them: a codec; no condition. -/
import Derived.Test.YtcidijmdndcdlaaDoorQOctx
import Derived.Test.YtcidijmdndcdlaaDoorPmPure
set_option linter.unusedVariables false
set_option linter.unusedSimpArgs false
namespace Go.Proofs.YtcidijmdndcdlaaDoor.OctM
open Go.RowKit Go.Proofs.YtcidijmdndcdlaaDoor.QOct Go.Proofs.YtcidijmdndcdlaaDoorW.PrintWords Go.Proofs.YtcidijmdndcdlaaDoorW.PrintLast Go.Proofs.YtcidijmdndcdlaaDoorW.PrintMore

theorem wrap64_id {n : Int} (h0 : -9223372036854775808 ≤ n) (h1 : n ≤ 9223372036854775807) : wrap64 n = n := by unfold wrap64; omega

/-- The n lowest bytes of a number, the highest first. -/
def layR (v : Int) : Nat → List Int
  | 0 => []
  | n + 1 => v / 256 ^ n % 256 :: layR v n
theorem layR_len (v : Int) : ∀ n, (layR v n).length = n
  | 0 => rfl
  | n + 1 => by rw [layR, List.length_cons, layR_len v n]
theorem layR_byte (v : Int) : ∀ n, ∀ x ∈ layR v n, 0 ≤ x ∧ x < 256
  | 0 => fun x hx => by cases hx
  | n + 1 => fun x hx => by
    rcases List.mem_cons.1 hx with rfl | hx
    · omega
    · exact layR_byte v n x hx
theorem pow256_pos (n : Nat) : (0 : Int) < 256 ^ n := Int.pow_pos (by decide)
theorem fold_cons : ∀ (r : List Int) (v : Int), r.foldl (fun v x => v * 256 + x) v = v * 256 ^ r.length + numB r := by
  intro r
  induction r with
  | nil => intro v; simp [numB]
  | cons x r ih =>
    intro v
    have e : numB (x :: r) = x * 256 ^ r.length + numB r := by
      show r.foldl _ (0 * 256 + x) = _
      rw [ih]; simp
    rw [List.foldl_cons, ih, e, List.length_cons, Int.pow_succ]
    rw [Int.add_mul, Int.mul_assoc, Int.mul_comm (256 ^ r.length) 256, Int.add_assoc]
theorem numB_cons' (x : Int) (r : List Int) : numB (x :: r) = x * 256 ^ r.length + numB r := by
  show r.foldl _ (0 * 256 + x) = _
  rw [fold_cons]; simp
theorem numB_layR (v : Int) : ∀ n, numB (layR v n) = v % 256 ^ n
  | 0 => by simp [layR, numB, Int.emod_one]
  | n + 1 => by
    rw [layR, numB_cons', layR_len, numB_layR v n, Int.pow_succ]
    have hp := pow256_pos n
    generalize (256 : Int) ^ n = p at *
    have h1 := Int.emod_add_mul_ediv v p
    have h2 := Int.emod_add_mul_ediv (v / p) 256
    have h3 := Int.emod_add_mul_ediv v (p * 256)
    have h4 : v / (p * 256) = v / p / 256 := by rw [Int.ediv_ediv_of_nonneg (by omega)]
    rw [h4] at h3
    have e : p * (v / p) = p * (v / p % 256) + p * 256 * (v / p / 256) := by
      rw [Int.mul_assoc, ← Int.mul_add, h2]
    rw [Int.mul_comm (v / p % 256) p]
    omega

theorem lay_loop (v : Int) (n : Nat) (hn : n ≤ 8) : ∀ (m k : Nat) (out : List Int), m ≤ n → out.length + m ≤ 140737488355327 →
    octet_lay.l0 (k + m + 1) v n out n ((n - m : Nat) : Int) = some (out ++ layR v m) := by
  intro m
  induction m with
  | zero =>
    intro k out _ _
    simp only [octet_lay.l0]
    rw [if_neg (by omega)]; simp [layR]
  | succ m ih =>
    intro k out hm ho
    have e1 : wrap64 ((n : Int) - 1) = (n : Int) - 1 := wrap64_id (by omega) (by omega)
    have e2 : wrap64 ((n : Int) - 1 - ((n - (m + 1) : Nat) : Int)) = (m : Int) := by rw [wrap64_id (by omega) (by omega)]; omega
    have e3 : wrap64 (8 * (m : Int)) = 8 * (m : Int) := wrap64_id (by omega) (by omega)
    have e4 : wrap64 (((n - (m + 1) : Nat) : Int) + 1) = ((n - m : Nat) : Int) := by rw [wrap64_id (by omega) (by omega)]; omega
    have e5 : shr .u64 v (8 * (m : Int)) = v / 256 ^ m := by
      unfold shr
      have : min (8 * (m : Int)).toNat IntKind.u64.bits = 8 * m := by simp [IntKind.bits]; omega
      rw [this, Int.pow_mul]; rfl
    have := ih k (out ++ [v / 256 ^ m % 256]) (by omega) (by rw [List.length_append]; simp; omega)
    rw [show k + (m + 1) + 1 = (k + m + 1) + 1 by omega, octet_lay.l0, e1, e2, e3, e4, e5]
    rw [if_pos (by omega), if_pos (by omega), if_pos (by omega), this, layR]
    simp
theorem lay_ok (k : Nat) (l : List Int) (v : Int) (n : Nat) (h1 : n ≤ 8) (hl : l.length ≤ 140737488351232) : octet_lay.f (k + n + 1) l v n = some (l ++ layR v n) := by
  unfold octet_lay.f slices_Clone_byte_byte.f
  rw [if_pos (by omega), Option.bind_some]
  have := lay_loop v n h1 n k l (Nat.le_refl _) (by omega)
  rw [Nat.sub_self] at this
  exact this

/-- A form: k its number, n its bytes, M where its numbers end. -/
structure Form (k n M : Int) (nn : Nat) (s : Int) : Prop where
  k0 : 0 ≤ k
  k3 : k ≤ 3
  sh : shl .i64 1 k = n
  nw : n = nn
  n8 : nn ≤ 8
  n1 : 1 ≤ nn
  s1 : wrap64 (8 * n) = 8 * n
  s2 : wrap64 (8 * n - 2) = s
  s0 : 0 ≤ s
  ku : IntKind.u64.wrap k = k
  top : shl .u64 k s = k * M
  m64 : 64 ≤ M
  mtop : M ≤ 4611686018427387904
  join : ∀ v, 0 ≤ v → v < M → Go.bits .or .u64 v (k * M) = v + k * M
  pw : (256 : Int) ^ nn = 4 * M
  div : ∀ v, 0 ≤ v → v < M → (v + k * M) / 256 ^ (nn - 1) % 256 / 64 = k
  byte : ∀ v, 0 ≤ v → v < M → 0 ≤ (v + k * M) ∧ v + k * M < 18446744073709551616

theorem or_comm_join (i : Nat) (hi : i ≤ 62) (v k : Int) (hv0 : 0 ≤ v) (hv : v < 2 ^ i) (hk0 : 0 ≤ k) (hk : k ≤ 3) : Go.bits .or .u64 v (k * 2 ^ i) = v + k * 2 ^ i := by
  have hp : (2 : Int) ^ i ≤ 2 ^ 62 := by
    have h := Int.ofNat_le.2 (Nat.pow_le_pow_right (by decide : 0 < 2) hi)
    rwa [Int.natCast_pow, Int.natCast_pow] at h
  have hp2 : (2 : Int) ^ 62 = 4611686018427387904 := by decide +kernel
  have hp64 : (2 : Int) ^ 64 = 18446744073709551616 := by decide +kernel
  rw [hp2] at hp
  have hkm : 0 ≤ k * 2 ^ i ∧ k * 2 ^ i ≤ 13835058055282163712 := by
    have hpos : (0 : Int) ≤ 2 ^ i := Int.le_of_lt (Int.pow_pos (by decide))
    generalize (2 : Int) ^ i = p at *
    have hc : k = 0 ∨ k = 1 ∨ k = 2 ∨ k = 3 := by omega
    rcases hc with rfl | rfl | rfl | rfl <;> omega
  have hc : Go.bits .or .u64 v (k * 2 ^ i) = Go.bits .or .u64 (k * 2 ^ i) v := by
    obtain ⟨a, rfl⟩ := Int.eq_ofNat_of_zero_le hv0
    obtain ⟨b, hb⟩ := Int.eq_ofNat_of_zero_le hkm.1
    rw [hb]
    have hk' : ∀ n : Int, 0 ≤ n → n < 2 ^ 64 → IntKind.u64.wrap n = n := fun n h0 h1 => by rw [wrap_u64_mod]; omega
    rw [(bits_nat .u64 64 (by decide) hk' a b (by omega) (by omega)).2, (bits_nat .u64 64 (by decide) hk' b a (by omega) (by omega)).2, Nat.or_comm]
  rw [hc, bits_join .u64 64 (by decide) (fun n a b => by rw [wrap_u64_mod]; omega) i (k * 2 ^ i) v hkm.1 (Int.mul_emod_left _ _) (by omega) hv0 hv (by omega)]
  omega

theorem form0 : Form 0 1 64 1 6 where
  k0 := by decide
  k3 := by decide
  sh := by decide +kernel
  nw := by decide
  n8 := by decide
  n1 := by decide
  s1 := by decide +kernel
  s2 := by decide +kernel
  s0 := by decide
  ku := by decide +kernel
  top := by decide +kernel
  m64 := by decide
  mtop := by decide
  join := fun v a b => or_comm_join 6 (by decide) v 0 a b (by decide) (by decide)
  pw := by decide +kernel
  div := fun v a b => by rw [show (256 : Int) ^ (1 - 1) = 1 from rfl]; omega
  byte := fun v a b => by omega
theorem form1 : Form 1 2 16384 2 14 where
  k0 := by decide
  k3 := by decide
  sh := by decide +kernel
  nw := by decide
  n8 := by decide
  n1 := by decide
  s1 := by decide +kernel
  s2 := by decide +kernel
  s0 := by decide
  ku := by decide +kernel
  top := by decide +kernel
  m64 := by decide
  mtop := by decide
  join := fun v a b => or_comm_join 14 (by decide) v 1 a b (by decide) (by decide)
  pw := by decide +kernel
  div := fun v a b => by rw [show (256 : Int) ^ (2 - 1) = 256 from rfl]; omega
  byte := fun v a b => by omega
theorem form2 : Form 2 4 1073741824 4 30 where
  k0 := by decide
  k3 := by decide
  sh := by decide +kernel
  nw := by decide
  n8 := by decide
  n1 := by decide
  s1 := by decide +kernel
  s2 := by decide +kernel
  s0 := by decide
  ku := by decide +kernel
  top := by decide +kernel
  m64 := by decide
  mtop := by decide
  join := fun v a b => or_comm_join 30 (by decide) v 2 a b (by decide) (by decide)
  pw := by decide +kernel
  div := fun v a b => by rw [show (256 : Int) ^ (4 - 1) = 16777216 from by decide +kernel]; omega
  byte := fun v a b => by omega
theorem form3 : Form 3 8 4611686018427387904 8 62 where
  k0 := by decide
  k3 := by decide
  sh := by decide +kernel
  nw := by decide
  n8 := by decide
  n1 := by decide
  s1 := by decide +kernel
  s2 := by decide +kernel
  s0 := by decide
  ku := by decide +kernel
  top := by decide +kernel
  m64 := by decide
  mtop := by decide
  join := fun v a b => or_comm_join 62 (by decide) v 3 a b (by decide) (by decide)
  pw := by decide +kernel
  div := fun v a b => by rw [show (256 : Int) ^ (8 - 1) = 72057594037927936 from by decide +kernel]; omega
  byte := fun v a b => by omega
theorem form_of (v : Int) (h0 : 0 ≤ v) (h1 : v < 4611686018427387904) : ∃ n M nn s, Form (formF v) n M nn s ∧ v < M := by
  unfold formF
  by_cases c0 : v < 64
  · rw [if_pos c0]; exact ⟨_, _, _, _, form0, c0⟩
  · rw [if_neg c0]
    by_cases c1 : v < 16384
    · rw [if_pos c1]; exact ⟨_, _, _, _, form1, c1⟩
    · rw [if_neg c1]
      by_cases c2 : v < 1073741824
      · rw [if_pos c2]; exact ⟨_, _, _, _, form2, c2⟩
      · rw [if_neg c2]; exact ⟨_, _, _, _, form3, h1⟩

/-- The bytes of a number in a form. -/
theorem wide_ok {k n M s : Int} {nn : Nat} (H : Form k n M nn s) (j : Nat) (l : List Int) (v : Int) (h0 : 0 ≤ v) (h1 : v < M) (hl : l.length ≤ 140737488351232) :
    octet_wide.f (j + nn + 1) l v k = some (l ++ layR (v + k * M) nn) := by
  have hm := H.mtop
  have e1 : IntKind.u64.wrap v = v := by rw [wrap_u64_mod]; omega
  unfold octet_wide.f
  rw [H.sh, H.s1, H.s2, H.ku, H.top, e1, H.join v h0 h1, if_pos H.k0, if_pos H.s0, H.nw, lay_ok j l _ nn H.n8 hl, Option.bind_some]
theorem wide_okf {k n M s : Int} {nn : Nat} (H : Form k n M nn s) (f : Nat) (hf : nn + 1 ≤ f) (l : List Int) (v : Int) (h0 : 0 ≤ v) (h1 : v < M) (hl : l.length ≤ 140737488351232) :
    octet_wide.f f l v k = some (l ++ layR (v + k * M) nn) := by
  obtain ⟨j, rfl⟩ : ∃ j, f = j + nn + 1 := ⟨f - (nn + 1), by omega⟩
  exact wide_ok H j l v h0 h1 hl
theorem and_mask62 (a : Int) (h0 : -9223372036854775808 ≤ a) (h1 : a ≤ 9223372036854775807) : Go.bits .and .i64 a 4611686018427387903 = a % 4611686018427387904 := by
  have e : Go.bits .and .i64 a 4611686018427387903 = IntKind.i64.wrap ((BitVec.ofInt 64 a &&& BitVec.ofNat 64 (2 ^ 62 - 1) : BitVec 64).toNat : Int) := rfl
  rw [e, BitVec.toNat_and, BitVec.toNat_ofNat, BitVec.toNat_ofInt]
  have e2 : (2 ^ 62 - 1) % 2 ^ 64 = 2 ^ 62 - 1 := by decide +kernel
  rw [e2, Nat.and_two_pow_sub_one_eq_mod, IntKind.wrap_i64]
  have e3 : (2 : Nat) ^ 62 = 4611686018427387904 := by decide +kernel
  have e4 : ((2 ^ 64 : Nat) : Int) = 18446744073709551616 := by decide +kernel
  rw [e3, e4]
  have : ((a % 18446744073709551616).toNat : Int) = a % 18446744073709551616 := Int.toNat_of_nonneg (by omega)
  omega
theorem lies_ok (v : Int) (h0 : 0 ≤ v) (h1 : v < 4611686018427387904) : octet_lies.f v = some true := by
  unfold octet_lies.f; rw [if_pos (by omega)]; simp; omega
theorem putVar_ok {k n M s : Int} {nn : Nat} (v : Int) (h0 : 0 ≤ v) (h1 : v < M) (hk : formF v = k) (H : Form k n M nn s) (f : Nat) (hf : 9 ≤ f) (l : List Int) (hl : l.length ≤ 140737488351232) :
    octet_PutVar.f f l v = some (l ++ layR (v + k * M) nn, 0) := by
  have := H.mtop; have := H.n8
  unfold octet_PutVar.f octet_form.f
  rw [lies_ok v h0 (by omega), Option.bind_some, if_pos rfl, if_pos h0, Option.bind_some, hk, wide_okf H f (by omega) l v h0 h1 hl, Option.bind_some]
/-- .. are read again. -/
theorem var_back {k n M s : Int} {nn : Nat} (H : Form k n M nn s) (l rest : List Int) (v : Int) (h0 : 0 ≤ v) (h1 : v < M) :
    varF (l ++ layR (v + k * M) nn ++ rest) l.length = (v, l.length + n, 0) := by
  have hn1 := H.n1
  have hlen := layR_len (v + k * M) nn
  have hd : (l ++ layR (v + k * M) nn ++ rest).drop ((l.length : Int)).toNat = layR (v + k * M) nn ++ rest := by rw [Int.toNat_natCast]; simp
  have hne : ¬ (layR (v + k * M) nn ++ rest = []) := fun e => by
    have := congrArg List.length e
    rw [List.length_append, hlen] at this; simp at this; omega
  have hfirst : rd (l ++ layR (v + k * M) nn ++ rest) (l.length : Int) / 64 = k := by
    obtain ⟨m, rfl⟩ : ∃ m, nn = m + 1 := ⟨nn - 1, by omega⟩
    have : rd (l ++ layR (v + k * M) (m + 1) ++ rest) (l.length : Int) = (v + k * M) / 256 ^ m % 256 := by
      unfold rd; rw [Int.toNat_natCast, layR]; simp [List.getD_eq_getElem?_getD]
    rw [this]
    have := H.div v h0 h1
    simpa using this
  have hv : vone (layR (v + k * M) nn ++ rest) (l.length : Int) nn M = (v, l.length + n, 0) := by
    unfold vone
    rw [List.length_append, hlen, if_neg (by omega), List.take_append_of_le_length (by omega), List.take_of_length_le (by omega), numB_layR, H.pw, H.nw]
    have : (v + k * M) % (4 * M) % M = v := by
      rw [Int.emod_emod_of_dvd _ ⟨4, by omega⟩, Int.add_mul_emod_self_right, Int.emod_eq_of_lt h0 h1]
    rw [this]
  unfold varF
  rw [if_neg (by rw [List.length_append, List.length_append]; omega), hd, if_neg hne, hfirst]
  have hk0 := H.k0; have hk3 := H.k3
  have hc : k = 0 ∨ k = 1 ∨ k = 2 ∨ k = 3 := by omega
  have hpw := H.pw
  have hsh := H.sh
  have hnn := H.nw
  rcases hc with rfl | rfl | rfl | rfl
  · have e : n = 1 := by rw [← hsh]; decide +kernel
    obtain rfl : nn = 1 := by omega
    obtain rfl : M = 64 := by have : (256 : Int) ^ 1 = 256 := by decide +kernel
                              omega
    rw [if_pos rfl]; exact hv
  · have e : n = 2 := by rw [← hsh]; decide +kernel
    obtain rfl : nn = 2 := by omega
    obtain rfl : M = 16384 := by have : (256 : Int) ^ 2 = 65536 := by decide +kernel
                                 omega
    rw [if_neg (by decide), if_pos rfl]; exact hv
  · have e : n = 4 := by rw [← hsh]; decide +kernel
    obtain rfl : nn = 4 := by omega
    obtain rfl : M = 1073741824 := by have : (256 : Int) ^ 4 = 4294967296 := by decide +kernel
                                      omega
    rw [if_neg (by decide), if_neg (by decide), if_pos rfl]; exact hv
  · have e : n = 8 := by rw [← hsh]; decide +kernel
    obtain rfl : nn = 8 := by omega
    obtain rfl : M = 4611686018427387904 := by have : (256 : Int) ^ 8 = 18446744073709551616 := by decide +kernel
                                               omega
    rw [if_neg (by decide), if_neg (by decide), if_neg (by decide)]; exact hv
theorem all_bytes {l : List Int} (h : ∀ x ∈ l, (Lit.int .u8 x).wf = true) : List.all l (fun x => decide (0 ≤ x ∧ x < 256)) = true := by
  rw [List.all_eq_true]
  intro x hx
  have := h x hx
  have m0 : IntKind.u8.min = 0 := by decide +kernel
  have m1 : IntKind.u8.max = 255 := by decide +kernel
  simp [Lit.wf] at this
  simp
  omega
theorem wf_i64 {a : Int} (h : (Lit.int .i64 a).wf = true) : -9223372036854775808 ≤ a ∧ a ≤ 9223372036854775807 := by
  have m0 : IntKind.i64.min = -9223372036854775808 := by decide +kernel
  have m1 : IntKind.i64.max = 9223372036854775807 := by decide +kernel
  simp [Lit.wf] at h
  omega

/-- The bytes of a number of variable length. -/
def encV (v : Int) : List Int := if v < 64 then layR v 1 else if v < 16384 then layR (v + 16384) 2 else if v < 1073741824 then layR (v + 2147483648) 4 else layR (v + 13835058055282163712) 8
theorem encV_form (v : Int) (h0 : 0 ≤ v) (h1 : v ≤ Pm.top) : ∃ k n M nn s, Form k n M nn s ∧ formF v = k ∧ v < M ∧ encV v = layR (v + k * M) nn := by
  unfold Pm.top at h1
  unfold encV formF
  by_cases c0 : v < 64
  · exact ⟨0, 1, 64, 1, 6, form0, by rw [if_pos c0], c0, by rw [if_pos c0, Int.zero_mul, Int.add_zero]⟩
  by_cases c1 : v < 16384
  · exact ⟨1, 2, 16384, 2, 14, form1, by rw [if_neg c0, if_pos c1], c1, by rw [if_neg c0, if_pos c1, Int.one_mul]⟩
  by_cases c2 : v < 1073741824
  · exact ⟨2, 4, 1073741824, 4, 30, form2, by rw [if_neg c0, if_neg c1, if_pos c2], c2, by rw [if_neg c0, if_neg c1, if_pos c2]; rfl⟩
  · exact ⟨3, 8, 4611686018427387904, 8, 62, form3, by rw [if_neg c0, if_neg c1, if_neg c2], by omega, by rw [if_neg c0, if_neg c1, if_neg c2]; rfl⟩
/-- PutVar, at a number that may be. -/
theorem putVar_f (l : List Int) (v : Int) (h0 : 0 ≤ v) (h1 : v ≤ Pm.top) (hl : l.length ≤ 140737488351232) : octet_PutVar.f 12 l v = some (l ++ encV v, 0) := by
  obtain ⟨k, n, M, nn, s, H, hk, hM, he⟩ := encV_form v h0 h1
  rw [putVar_ok v h0 hM hk H 12 (by omega) l hl, he]
theorem vone_ok {r : List Int} {p : Int} {n : Nat} {m v q : Int} (hm0 : 0 < m) (hm : m ≤ 4611686018427387904) (h : vone r p n m = (v, q, 0)) : 0 ≤ v ∧ v ≤ Pm.top ∧ q = p + n ∧ n ≤ r.length := by
  unfold vone at h
  by_cases c : r.length < n
  · rw [if_pos c] at h; simp at h
  · rw [if_neg c] at h
    simp only [Prod.mk.injEq, and_true] at h
    obtain ⟨rfl, rfl⟩ := h
    have a := Int.emod_nonneg (numB (r.take n)) (by omega : m ≠ 0)
    have b := Int.emod_lt_of_pos (numB (r.take n)) hm0
    refine ⟨a, by unfold Pm.top; omega, rfl, by omega⟩
theorem codec : Pm.Codec encV varF where
  back := fun l rest v h0 h1 => by
    obtain ⟨k, n, M, nn, s, H, hk, hM, he⟩ := encV_form v h0 h1
    rw [he, var_back H l rest v h0 hM, layR_len, H.nw]
  ok := fun l p v q hb h => by
    unfold varF at h
    by_cases c : p < 0 ∨ p > l.length
    · rw [if_pos c] at h; simp at h
    rw [if_neg c] at h
    by_cases c1 : l.drop p.toNat = []
    · rw [if_pos c1] at h; simp at h
    rw [if_neg c1] at h
    have hdl : (l.drop p.toNat).length = l.length - p.toNat := List.length_drop
    have key : ∀ (n : Nat) (m : Int), 1 ≤ n → 0 < m → m ≤ 4611686018427387904 → vone (l.drop p.toNat) p n m = (v, q, 0) → 0 ≤ p ∧ 0 ≤ v ∧ v ≤ Pm.top ∧ p < q ∧ q ≤ l.length := by
      intro n m hn hm0 hm hv
      obtain ⟨a, b, c, d⟩ := vone_ok hm0 hm hv
      refine ⟨by omega, a, b, by omega, by omega⟩
    split at h
    · exact key 1 64 (by decide) (by decide) (by decide) h
    split at h
    · exact key 2 16384 (by decide) (by decide) (by decide) h
    split at h
    · exact key 4 1073741824 (by decide) (by decide) (by decide) h
    · exact key 8 4611686018427387904 (by decide) (by decide) (by decide) h
  len := fun v h0 h1 => by
    obtain ⟨k, n, M, nn, s, H, hk, hM, he⟩ := encV_form v h0 h1
    rw [he, layR_len]; exact ⟨H.n1, H.n8⟩
  byte := fun v h0 h1 => by
    obtain ⟨k, n, M, nn, s, H, hk, hM, he⟩ := encV_form v h0 h1
    rw [he]; exact layR_byte _ _
  small := fun v h0 h1 => by
    unfold encV
    rw [if_pos h1]
    show [v / 256 ^ 0 % 256] = [v]
    rw [show (256 : Int) ^ 0 = 1 from rfl]
    congr 1; omega
end Go.Proofs.YtcidijmdndcdlaaDoor.OctM
