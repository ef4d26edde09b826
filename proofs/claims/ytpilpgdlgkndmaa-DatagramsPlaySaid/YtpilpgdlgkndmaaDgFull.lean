/- DatagramsFull: the law's walk; no condition but the reach of its argument. -/
import Derived.Test.YtpilpgdlgkndmaaDg
import Derived.LoopTactic
set_option linter.unusedVariables false
set_option linter.unusedSimpArgs false
namespace Go.Proofs.Ytpilpgdlgkndmaa.Dg
open Go.RowKit Go.Proofs.YtpilpgdlgkndmaaW.PrintWords Go.Proofs.YtpilpgdlgkndmaaW.PrintLast Go.Proofs.YtpilpgdlgkndmaaW.PrintMore Go.Proofs.Ytpilpgdlgkndmaa.Rw
theorem and_low (a : Int) (k : Nat) (hk : k ≤ 62) (h0 : -9223372036854775808 ≤ a) (h1 : a ≤ 9223372036854775807) : Go.bits .and .i64 a ((2 ^ k - 1 : Nat) : Int) = a % ((2 ^ k : Nat) : Int) := by
  have hp : (2 : Nat) ^ k ≤ 2 ^ 62 := Nat.pow_le_pow_right (by decide) hk
  have hp0 : 0 < (2 : Nat) ^ k := Nat.pow_pos (by decide)
  have hp62 : (2 : Nat) ^ 62 = 4611686018427387904 := by decide +kernel
  have e : Go.bits .and .i64 a ((2 ^ k - 1 : Nat) : Int) = IntKind.i64.wrap ((BitVec.ofInt 64 a &&& BitVec.ofInt 64 ((2 ^ k - 1 : Nat) : Int) : BitVec 64).toNat : Int) := rfl
  rw [e, BitVec.ofInt_natCast, BitVec.toNat_and, BitVec.toNat_ofNat, BitVec.toNat_ofInt]
  have hp64 : (2 : Nat) ^ 64 = 18446744073709551616 := by decide +kernel
  have e2 : (2 ^ k - 1) % 2 ^ 64 = 2 ^ k - 1 := Nat.mod_eq_of_lt (by omega)
  rw [e2, Nat.and_two_pow_sub_one_eq_mod, IntKind.wrap_i64]
  have e4 : ((2 ^ 64 : Nat) : Int) = 18446744073709551616 := by decide +kernel
  rw [e4]
  have h3 : ((a % 18446744073709551616).toNat : Int) = a % 18446744073709551616 := Int.toNat_of_nonneg (by omega)
  rw [Int.natCast_emod, h3]
  have hd : ((2 ^ k : Nat) : Int) ∣ 18446744073709551616 := by
    rw [← e4]
    exact Int.natCast_dvd_natCast.2 (Nat.pow_dvd_pow 2 (by omega))
  rw [Int.emod_emod_of_dvd _ hd]
  have hlt := Int.emod_lt_of_pos a (show (0 : Int) < ((2 ^ k : Nat) : Int) by omega)
  have hge := Int.emod_nonneg a (show ((2 ^ k : Nat) : Int) ≠ 0 by omega)
  generalize a % ((2 ^ k : Nat) : Int) = q at *
  omega
def FRel (w : World) (r : Nat) (l : List Int) (i : Value) (W : World) : Prop :=
  ∃ j : Nat, j ≤ r ∧ i = .int .i64 j ∧ Below w.heap.size w W ∧ ∃ A c its, Que W w.heap.size w.heap.size 65535 r A c its ∧ its.length = j ∧ ∀ it ∈ its, it.2 = l
set_option maxRecDepth 100000 in
set_option maxHeartbeats 3200000 in
theorem full_walk (room : Int) (A0 : Option Addr) (l : List Int) (c0 : Nat) (w : World) (hr : Kd.C (Kd.int .u8) w A0 l.length l) (hc : l.length ≤ c0) (hl : l.length ≤ 140737488355328) (hw0 : -9223372036854775808 ≤ room) (hw1 : room ≤ 9223372036854775807) :
    Calls Try.prog 3 #[.int .i64 room, .slice A0 l.length c0] w fun e w' => e = .returned (.bool true) ∧ Below w.heap.size w w' := by
  by_cases hlen : 65535 < l.length
  · clear hr hc
    go_enter Try.func3, Try.ntmps3
    go_wp2_with fail
    go_ret
    exact ⟨rfl, Below.refl _ _⟩
  obtain ⟨r, hr1, hr2, hand⟩ : ∃ r : Nat, 1 ≤ r ∧ r ≤ 32 ∧ Go.bits .and .i64 room 31 = (r : Int) - 1 := by
    have := and_low room 5 (by decide) hw0 hw1
    have e5 : ((2 ^ 5 - 1 : Nat) : Int) = 31 := by decide
    have e6 : ((2 ^ 5 : Nat) : Int) = 32 := by decide
    rw [e5, e6] at this
    exact ⟨(room % 32 + 1).toNat, by omega, by omega, by rw [this]; omega⟩
  have hd19 : decide ((65535 : Int) < (l.length : Int)) = false := decide_eq_false (by omega)
  have hrr : (1 : Int) + ((r : Int) - 1) = (r : Int) := by omega
  have HR := Aside0.mk hr
  have HC := Aside0.mk (And.intro hc hl)
  have HL := Aside0.mk hlen
  have hl0 : (l.length : Int) ≤ 65535 := by omega
  have hr2' : (r : Int) ≤ 32 := by omega
  have hr1' : (1 : Int) ≤ (r : Int) := by omega
  have HRn := Aside0.mk (And.intro hr1 hr2)
  clear hr hc hl hlen hr1 hr2 hw0 hw1
  go_enter Try.func3, Try.ntmps3
  go_wp2_with (first
    | (go_at_call 11; refine (new_good _ _ _ (by omega) (by omega) (by omega) (by omega)).mono ?_; rintro e w1 ⟨rfl, rfl⟩))
  go_loopw [7] (fun i W => FRel w r l i W) (fun i _ => r - (intOf i).toNat)
  case atStart => exact ⟨0, by omega, rfl, by repeat (first | exact Below.refl _ _ | apply below_alloc), none, 0, [], new_que _ _ w (by omega) (by omega), rfl, fun it h => by cases h⟩
  case round =>
    obtain ⟨j, hj, rfl, hB, A, c, its, hq, hlen, hall⟩ := hrel
    have HQ := Aside0.mk hq
    have HB := Aside0.mk hB
    have HA := Aside0.mk (And.intro hlen hall)
    clear hq hB hlen hall
    by_cases hlt : j < r
    · go_wp2_with (first
        | (go_at_call 12; refine (put_good HQ.out HB.out.size A0 l c0 (Kd.C_below HR.out HB.out) HC.out.1 HC.out.2 (by have := HL.out; omega) (by have := HA.out.1; omega)).mono ?_; rintro e W1 ⟨rfl, ht⟩; have HT := Aside0.mk ht; clear ht))
      go_roundw
      case rel =>
        obtain ⟨A', c', v', h1, h2, h3, h4⟩ := HT.out
        exact ⟨j + 1, by omega, by go_num, HB.out.trans h2, A', c', _, h1, by simp [HA.out.1], fun it hi => by
          rcases List.mem_append.1 hi with hi | hi
          · exact HA.out.2 it hi
          · rw [List.mem_singleton.1 hi]⟩
      case measure => simp [intOf]; omega
    · obtain rfl : j = r := by omega
      match its, HA, HQ with
      | [], HA, HQ => exact absurd HA.out.1 (by have := HRn.out.1; simp; omega)
      | it :: rest, HA, HQ =>
      have hit : it.2 = l := HA.out.2 it List.mem_cons_self
      obtain ⟨v, l'⟩ := it
      obtain rfl : l' = l := hit
      have hrl : rest.length + 1 = j := by have := HA.out.1; simpa using this
      have HRL := Aside0.mk hrl
      obtain ⟨Av, cv, ev⟩ := Kd.R_slice (HQ.out.own (v, l') List.mem_cons_self)
      simp only at ev
      subst ev
      have htold : ((((Value.slice Av l'.length cv, l') :: rest).length : Nat) : Int) = (j : Int) := by rw [List.length_cons, hrl]
      have hfirst : (((((Value.slice Av l'.length cv, l') :: rest).map (·.2.length)).headD 0 : Nat) : Int) = (l'.length : Int) := rfl
      clear hrl
      go_wp2_with (first
        | (go_at_call 12; refine (put_bad HQ.out A0 l'.length c0 (.inr (by rw [htold]; omega))).mono ?_; rw [if_neg (by have := HL.out; omega)]; rintro e W1 ⟨rfl, ⟨n1, rfl⟩⟩))
      refine (next_long (HQ.out.drewN _) _ (by simp only; omega)).mono ?_
      rintro e W2 ⟨rfl, rfl⟩
      go_wp2_with fail
      refine (told_q (HQ.out.drewN _)).mono ?_
      rw [htold, hfirst]
      rintro e W3 ⟨rfl, ⟨n3, rfl⟩⟩
      go_wp2_with fail
      refine (next_pop (HQ.out.drewN _) _ (by simp only; omega)).mono ?_
      rintro e W4 ⟨rfl, hp⟩
      have HP := Aside0.mk (Left.of_drewN (popd_left (HQ.out.drewN _) hp))
      have HV := Aside0.mk (R_tch (HQ.out.own (.slice Av l'.length cv, l') List.mem_cons_self) (by obtain ⟨_, _, _, _, hk⟩ := HP.out; exact hk))
      clear hp htold hfirst
      obtain ⟨A4, c4, hq4, hb4, hk4⟩ := HP.out
      have HQ4 := Aside0.mk hq4
      have HB4 := Aside0.mk (HB.out.trans hb4)
      clear hq4 hb4 hk4
      have hcv1 := Kd.C_string (P := Try.prog) (A := Av) (c := cv) Try.underlying22 Try.underlying5 Try.underlying9 (Kd.R_reads' HV.out).2.2
      have hcv2 := Kd.C_string (P := Try.prog) (A := A0) (c := c0) Try.underlying22 Try.underlying5 Try.underlying9 (Kd.C_below HR.out HB4.out)
      go_wp2_with fail
      refine (put_good HQ4.out HB4.out.size none [] 0 (Kd.C_nil _ _) (by simp) (by simp) (by simp) (by have := HRL.out; omega)).mono ?_
      rintro e W5 ⟨rfl, ht⟩
      obtain ⟨A5, c5, v5, hq5, hb5, _, _⟩ := ht
      have HQ5 := Aside0.mk hq5
      have HB5 := Aside0.mk (HB4.out.trans hb5)
      clear hq5 hb5 hcv1 hcv2
      go_wp2_with fail
      refine (put_bad HQ5.out none 0 0 (.inr (by have := HRL.out; simp; omega))).mono ?_
      rw [if_neg (by omega)]
      rintro e W6 ⟨rfl, ⟨n6, rfl⟩⟩
      go_wp2_with fail
      go_ret
      exact ⟨rfl, pw_below_drewN HB5.out _⟩
/-- A slice of bytes that came in. -/
def IsRow (k : IntKind) (w : World) (a : Option Addr) (len cap : Nat) (zs : List Int) : Prop :=
  (a = none ∧ len = 0 ∧ cap = 0 ∧ zs = []) ∨
  ∃ x, a = some x ∧ len ≤ cap ∧ cap ≤ maxLen ∧ zs.length = cap ∧ (∀ i, i < zs.length → w.cell? (x.add i) = some (.int k (zs.getD i 0))) ∧ ∀ n ∈ zs, (Lit.int k n).wf = true
theorem wf_i64 {a : Int} (h : (Lit.int .i64 a).wf = true) : -9223372036854775808 ≤ a ∧ a ≤ 9223372036854775807 := by
  have m0 : IntKind.i64.min = -9223372036854775808 := by decide +kernel
  have m1 : IntKind.i64.max = 9223372036854775807 := by decide +kernel
  simp [Lit.wf, m0, m1] at h
  exact h
theorem full_row (a0 : Int) (w0 : (Lit.int .i64 a0).wf = true) (a1 : Option Addr) (len1 cap1 : Nat) (z1 : List Int) (w : World) (w1 : IsRow .u8 w a1 len1 cap1 z1) (y1 : len1 * 1 ≤ 140737488351232) :
    Calls Try.prog 3 #[.int .i64 a0, .slice a1 len1 cap1] w fun e w' => e = .returned (.bool true) ∧ Below w.heap.size w w' := by
  obtain ⟨l0, rfl, hr0, hm0, hw0, hc0⟩ := ReadsInt.ofRowC w1
  exact full_walk a0 a1 l0 cap1 w (Kd.C_of_reads (d := (0 : Int)) (h1 := fun _ => rfl) hr0) hc0 (by omega) (wf_i64 w0).1 (wf_i64 w0).2
end Go.Proofs.Ytpilpgdlgkndmaa.Dg
