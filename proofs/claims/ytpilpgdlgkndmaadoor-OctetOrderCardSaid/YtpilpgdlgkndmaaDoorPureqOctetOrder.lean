/- The statement OctetOrder (layer 1) over numbers alone: numbers in eight bytes stand in the order of their bytes, and a shorter form is never longer than a greater number's; no condition. -/
import Derived.Test.YtpilpgdlgkndmaaDoorQOctx2
import Derived.Test.YtpilpgdlgkndmaaDoorOctM
set_option linter.unusedVariables false
set_option linter.unusedSimpArgs false
namespace Go.Proofs.YtpilpgdlgkndmaaDoor.Pure
open Go.RowKit Go.Proofs.YtpilpgdlgkndmaaDoor.QOct Go.Proofs.YtpilpgdlgkndmaaDoorW.PrintWords Go.Proofs.YtpilpgdlgkndmaaDoorW.PrintLast Go.Proofs.YtpilpgdlgkndmaaDoorW.PrintMore Go.Proofs.YtpilpgdlgkndmaaDoor.OctM

def b8 (x : Int) : UInt8 := UInt8.ofNat x.toNat
theorem b8_lt (x y : Int) (hx : 0 ≤ x ∧ x < 256) (hy : 0 ≤ y ∧ y < 256) : (b8 x < b8 y) ↔ x < y := by
  unfold b8
  rw [UInt8.lt_iff_toNat_lt, UInt8.toNat_ofNat', UInt8.toNat_ofNat']
  rw [Nat.mod_eq_of_lt (by omega), Nat.mod_eq_of_lt (by omega)]
  omega
theorem b8_eq (x y : Int) (hx : 0 ≤ x ∧ x < 256) (hy : 0 ≤ y ∧ y < 256) : (b8 x = b8 y) ↔ x = y := by
  constructor
  · intro h
    have := congrArg UInt8.toNat h
    unfold b8 at this
    rw [UInt8.toNat_ofNat', UInt8.toNat_ofNat', Nat.mod_eq_of_lt (by omega), Nat.mod_eq_of_lt (by omega)] at this
    omega
  · rintro rfl; rfl
theorem less_layR (u w : Int) : ∀ n, Op.bytesLess ((layR u n).map b8) ((layR w n).map b8) = decide (u % 256 ^ n < w % 256 ^ n)
  | 0 => by
    have e1 : u % 256 ^ 0 = 0 := by rw [Int.pow_zero, Int.emod_one]
    have e2 : w % 256 ^ 0 = 0 := by rw [Int.pow_zero, Int.emod_one]
    rw [e1, e2]; rfl
  | n + 1 => by
    have e : Op.bytesLess ((layR u (n + 1)).map b8) ((layR w (n + 1)).map b8) = (decide (b8 (u / 256 ^ n % 256) < b8 (w / 256 ^ n % 256)) || (b8 (u / 256 ^ n % 256) == b8 (w / 256 ^ n % 256) && Op.bytesLess ((layR u n).map b8) ((layR w n).map b8))) := rfl
    rw [e, less_layR u w n]
    have hu := numB_layR u (n + 1)
    have hw := numB_layR w (n + 1)
    rw [layR, numB_cons', layR_len, numB_layR] at hu hw
    rw [← hu, ← hw]
    have hp := pow256_pos n
    have m1 : 0 ≤ u % 256 ^ n ∧ u % 256 ^ n < 256 ^ n := ⟨Int.emod_nonneg _ (by omega), Int.emod_lt_of_pos _ hp⟩
    have m2 : 0 ≤ w % 256 ^ n ∧ w % 256 ^ n < 256 ^ n := ⟨Int.emod_nonneg _ (by omega), Int.emod_lt_of_pos _ hp⟩
    have x1 : 0 ≤ u / 256 ^ n % 256 ∧ u / 256 ^ n % 256 < 256 := by omega
    have x2 : 0 ≤ w / 256 ^ n % 256 ∧ w / 256 ^ n % 256 < 256 := by omega
    clear e hu hw
    generalize u / 256 ^ n % 256 = x at *
    generalize w / 256 ^ n % 256 = y at *
    generalize u % 256 ^ n = r at *
    generalize w % 256 ^ n = s at *
    generalize (256 : Int) ^ n = p at *
    rw [Bool.eq_iff_iff]
    simp only [Bool.or_eq_true, Bool.and_eq_true, decide_eq_true_eq, beq_iff_eq, b8_lt x y x1 x2, b8_eq x y x1 x2]
    constructor
    · rintro (h | ⟨rfl, h⟩)
      · have : (x + 1) * p ≤ y * p := Int.mul_le_mul_of_nonneg_right (by omega) (by omega)
        rw [Int.add_mul, Int.one_mul] at this
        omega
      · omega
    · intro h
      by_cases c : x < y
      · exact .inl c
      · by_cases c2 : x = y
        · subst c2; exact .inr ⟨rfl, by omega⟩
        · have : (y + 1) * p ≤ x * p := Int.mul_le_mul_of_nonneg_right (by omega) (by omega)
          rw [Int.add_mul, Int.one_mul] at this
          omega
theorem loop_eq (bs : ByteArray) : ∀ (m i : Nat) (r : List UInt8), bs.size - i = m → ByteArray.toList.loop bs i r = r.reverse ++ bs.data.toList.drop i := by
  intro m
  induction m with
  | zero =>
    intro i r h
    rw [ByteArray.toList.loop, if_neg (by omega), List.drop_of_length_le]
    · simp
    · show bs.data.toList.length ≤ i
      have : bs.size = bs.data.toList.length := rfl
      omega
  | succ m ih =>
    intro i r h
    have hi : i < bs.size := by omega
    have hi' : i < bs.data.toList.length := hi
    rw [ByteArray.toList.loop, if_pos hi, ih (i + 1) _ (by omega), List.drop_eq_getElem_cons hi']
    have hg : bs.get! i = bs.data.toList[i] := by
      show bs.data[i]! = _
      rw [getElem!_pos bs.data i hi]; rfl
    rw [hg]
    simp
theorem toList_data (bs : ByteArray) : bs.toList = bs.data.toList := by
  have := loop_eq bs _ 0 [] rfl
  simpa [ByteArray.toList] using this
theorem toList_str (l : List Int) : (strOfNums l).toList = l.map b8 := by
  rw [toList_data]
  simp [strOfNums]
  intro a _
  rfl

theorem OctetOrder : caravellaw01_OctetOrder.Pure := by
  intro a b w0 w1
  obtain ⟨a0, a1⟩ := wf_i64 w0
  obtain ⟨b0, b1⟩ := wf_i64 w1
  have ev := and_mask62 a a0 a1
  have ew := and_mask62 b b0 b1
  have hv0 : 0 ≤ a % 4611686018427387904 := by omega
  have hv1 : a % 4611686018427387904 < 4611686018427387904 := by omega
  have hw0 : 0 ≤ b % 4611686018427387904 := by omega
  have hw1 : b % 4611686018427387904 < 4611686018427387904 := by omega
  refine ⟨12, ?_⟩
  unfold caravellaw01_OctetOrder.f
  rw [ev, ew]
  generalize a % 4611686018427387904 = v at *
  generalize b % 4611686018427387904 = w at *
  obtain ⟨n, M, nn, s, H, hM⟩ := form_of v hv0 hv1
  obtain ⟨n', M', nn', s', H', hM'⟩ := form_of w hw0 hw1
  have p1 := putWide8_ok v hv0 hv1 12 (by omega) [] (by simp)
  have p2 := putWide8_ok w hw0 hw1 12 (by omega) [] (by simp)
  have p3 := size_ok v hv0 hM rfl H
  have p4 := size_ok w hw0 hM' rfl H'
  rw [List.nil_append] at p1 p2
  have hlen := layR_len (v + 3 * 4611686018427387904) 8
  have hless := less_layR (v + 3 * 4611686018427387904) (w + 3 * 4611686018427387904) 8
  have e8 : (256 : Int) ^ 8 = 18446744073709551616 := by decide +kernel
  rw [e8] at hless
  have hdec : decide ((v + 3 * 4611686018427387904) % 18446744073709551616 < (w + 3 * 4611686018427387904) % 18446744073709551616) = decide (v < w) := by
    rw [decide_eq_decide]; omega
  rw [hdec] at hless
  rw [← toList_str, ← toList_str] at hless
  have hsz : ¬ v > w → n ≤ n' := by
    intro h
    have s1 := H.sh
    have s2 := H'.sh
    have q0 : shl .i64 1 0 = 1 := by decide +kernel
    have q1 : shl .i64 1 1 = 2 := by decide +kernel
    have q2 : shl .i64 1 2 = 4 := by decide +kernel
    have q3 : shl .i64 1 3 = 8 := by decide +kernel
    unfold formF at s1 s2
    (repeat' split at s1) <;> (repeat' split at s2) <;> omega
  generalize layR (v + 3 * 4611686018427387904) 8 = X at *
  generalize layR (w + 3 * 4611686018427387904) 8 = Y at *
  simp only [p1, p2, p3, p4, Option.bind_some, if_true, hlen, hless]
  by_cases hc : v > w
  · simp [hc]
  · have := hsz hc
    simp [hc, this]
#print axioms OctetOrder
end Go.Proofs.YtpilpgdlgkndmaaDoor.Pure
