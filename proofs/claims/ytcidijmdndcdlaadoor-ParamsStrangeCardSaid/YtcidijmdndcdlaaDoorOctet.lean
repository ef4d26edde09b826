/- The walks of octet.form, octet.read and octet.Var, which read the package-level table of widths; conditions: the table holds 6, 14, 30, 62. -/
import Derived.Test.YtcidijmdndcdlaaDoorChecked
import Derived.Test.YtcidijmdndcdlaaDoorWMore
import Derived.Laws.BitsLemmas
set_option linter.unusedVariables false
set_option linter.unusedSimpArgs false
namespace Go.Proofs.YtcidijmdndcdlaaDoor
open Go.RowKit Go.Proofs.YtcidijmdndcdlaaDoorW.PrintWords Go.Proofs.YtcidijmdndcdlaaDoorW.PrintLast Go.Proofs.YtcidijmdndcdlaaDoorW.PrintMore

/-- What the package-level variable caravel/octet.widths holds. -/
structure GL (w : World) : Prop where
  c0 : w.cell? ⟨0, 0, none⟩ = some (.int .i64 6)
  c1 : w.cell? ⟨0, 1, none⟩ = some (.int .i64 14)
  c2 : w.cell? ⟨0, 2, none⟩ = some (.int .i64 30)
  c3 : w.cell? ⟨0, 3, none⟩ = some (.int .i64 62)
theorem GL.of_below {w w' : World} (h : GL w) (hb : Below w.heap.size w w') : GL w' :=
  ⟨pw_cell_below hb h.c0, pw_cell_below hb h.c1, pw_cell_below hb h.c2, pw_cell_below hb h.c3⟩
theorem GL.alloc {w : World} (h : GL w) (o : Obj) : GL (w.alloc o) := h.of_below ((Below.refl _ _).alloc (Nat.le_refl _) o)
theorem GL.drew {w : World} (h : GL w) : GL w.drew := h.of_below (below_drew (Below.refl _ _))
theorem GL.drewN {w : World} (h : GL w) (n : Nat) : GL (w.drewN n) := h.of_below (pw_below_drewN (Below.refl _ _) n)

/-- The least form into which a number fits. -/
def formF (v : Int) : Int := if v < 64 then 0 else if v < 16384 then 1 else if v < 1073741824 then 2 else 3

theorem form_calls (a0 : Int) (w : World) (hG : GL w) (h0 : 0 ≤ a0) :
    Calls Tryd.prog 39 #[.int .i64 a0] w fun e w' => e = .returned (.int .i64 (formF a0)) ∧ w = w' := by
  obtain ⟨c0, c1, c2, c3⟩ := hG
  go_enter Tryd.func39, Tryd.ntmps39
  go_wp2
  go_loop [3, 4] (fun x i => ∃ k : Nat, k ≤ 3 ∧ i = .int .i64 k ∧ (1 ≤ k → 64 ≤ a0) ∧ (2 ≤ k → 16384 ≤ a0) ∧ (3 ≤ k → 1073741824 ≤ a0)) (fun _ i => 3 - (intOf i).toNat)
  case atStart => exact ⟨0, by omega, rfl, by omega, by omega, by omega⟩
  case round =>
    obtain ⟨k, hk, rfl, g1, g2, g3⟩ := hrel
    have c : k = 0 ∨ k = 1 ∨ k = 2 ∨ k = 3 := by omega
    rcases c with rfl | rfl | rfl | rfl
    · clear g1 g2 g3
      by_cases h : a0 < 64
      · have hb : (a0 / 64 == 0) = true := by rw [beq_iff_eq]; omega
        go_wp2
        go_ret
        have hf : formF a0 = 0 := by unfold formF; rw [if_pos h]
        exact ⟨by rw [hf]; rfl, rfl⟩
      · have hb : (a0 / 64 == 0) = false := by rw [beq_eq_false_iff_ne]; omega
        go_wp2
        go_round
        case rel => exact ⟨1, by omega, by go_num, by omega, by omega, by omega⟩
        case measure => simp [intOf]
    · have g1 := g1 (by omega)
      clear g2 g3
      by_cases h : a0 < 16384
      · have hb : (a0 / 16384 == 0) = true := by rw [beq_iff_eq]; omega
        go_wp2
        go_ret
        have hf : formF a0 = 1 := by unfold formF; rw [if_neg (by omega), if_pos h]
        exact ⟨by rw [hf]; rfl, rfl⟩
      · have hb : (a0 / 16384 == 0) = false := by rw [beq_eq_false_iff_ne]; omega
        go_wp2
        go_round
        case rel => exact ⟨2, by omega, by go_num, by omega, by omega, by omega⟩
        case measure => simp [intOf]
    · have g1 := g1 (by omega)
      have g2 := g2 (by omega)
      clear g3
      by_cases h : a0 < 1073741824
      · have hb : (a0 / 1073741824 == 0) = true := by rw [beq_iff_eq]; omega
        go_wp2
        go_ret
        have hf : formF a0 = 2 := by unfold formF; rw [if_neg (by omega), if_neg (by omega), if_pos h]
        exact ⟨by rw [hf]; rfl, rfl⟩
      · have hb : (a0 / 1073741824 == 0) = false := by rw [beq_eq_false_iff_ne]; omega
        go_wp2
        go_round
        case rel => exact ⟨3, by omega, by go_num, by omega, by omega, by omega⟩
        case measure => simp [intOf]
    · have g3 := g3 (by omega)
      clear g1 g2
      go_wp2
      go_ret
      have hf : formF a0 = 3 := by unfold formF; rw [if_neg (by omega), if_neg (by omega), if_neg (by omega)]
      exact ⟨by rw [hf]; rfl, rfl⟩

/-- The number of bytes, the highest first. -/
def numB (l : List Int) : Int := l.foldl (fun v x => v * 256 + x) 0
theorem numB_snoc (l : List Int) (x : Int) : numB (l ++ [x]) = numB l * 256 + x := by simp [numB, List.foldl_append]
theorem wrap_u64_mod (n : Int) : IntKind.u64.wrap n = n % 18446744073709551616 := by simp [IntKind.wrap, IntKind.bits, IntKind.signed]
theorem or_u64 (v x : Int) (h0 : 0 ≤ v) (h1 : v < 72057594037927936) (x0 : 0 ≤ x) (x1 : x < 256) : bits .or .u64 (v * 256) x = v * 256 + x :=
  bits_join .u64 64 (by decide) (fun n a b => by rw [wrap_u64_mod]; omega) 8 (v * 256) x (by omega) (by omega) (by omega) x0 (by omega) (by omega)

theorem foldB_bound : ∀ (l : List Int) (v : Int) (n : Nat), (∀ x ∈ l, 0 ≤ x ∧ x < 256) → 0 ≤ v → v < 256 ^ n → 0 ≤ l.foldl (fun v x => v * 256 + x) v ∧ l.foldl (fun v x => v * 256 + x) v < 256 ^ (n + l.length) := by
  intro l
  induction l with
  | nil => intro v n _ h0 h1; exact ⟨h0, h1⟩
  | cons x l ih =>
    intro v n h h0 h1
    obtain ⟨c, d⟩ := h x List.mem_cons_self
    have := ih (v * 256 + x) (n + 1) (fun y hy => h y (List.mem_cons_of_mem _ hy)) (by omega) (by rw [Int.pow_succ]; omega)
    rw [List.length_cons, show n + (l.length + 1) = n + 1 + l.length by omega]
    exact this
theorem numB_bound (l : List Int) (h : ∀ x ∈ l, 0 ≤ x ∧ x < 256) : 0 ≤ numB l ∧ numB l < 256 ^ l.length := by
  have := foldB_bound l 0 0 h (by decide) (by decide)
  rwa [Nat.zero_add] at this
theorem numB_take_lt (l : List Int) (h : ∀ x ∈ l, 0 ≤ x ∧ x < 256) (k : Nat) (hk : k ≤ 7) : 0 ≤ numB (l.take k) ∧ numB (l.take k) < 72057594037927936 := by
  obtain ⟨a, b⟩ := numB_bound (l.take k) (fun x hx => h x (List.mem_of_mem_take hx))
  have h2 : (256 : Int) ^ (l.take k).length ≤ 256 ^ 7 := by
    have h7 : (l.take k).length ≤ 7 := by rw [List.length_take]; omega
    have hp : (256 : Nat) ^ (l.take k).length ≤ 256 ^ 7 := Nat.pow_le_pow_right (by decide) h7
    have e := Int.ofNat_le.2 hp
    rwa [Int.natCast_pow, Int.natCast_pow] at e
  have h3 : (256 : Int) ^ 7 = 72057594037927936 := by decide +kernel
  rw [h3] at h2
  exact ⟨a, Int.lt_of_lt_of_le b h2⟩

set_option maxHeartbeats 1000000 in
theorem read_calls (A0 : Option Addr) (c0 : Nat) (l0 : List Int) (w : World) (hr0 : Kd.C (Kd.int .u8) w A0 l0.length l0) (hc0 : l0.length ≤ c0) (h8 : l0.length ≤ 8) (hw : ∀ x ∈ l0, 0 ≤ x ∧ x < 256) :
    Calls Tryd.prog 54 #[.slice A0 l0.length c0] w fun e w' => e = .returned (.int .u64 (numB l0)) ∧ w = w' := by
  have HR := Aside0.mk hr0
  have HW := Aside0.mk hw
  clear hr0 hw
  go_enter Tryd.func54, Tryd.ntmps54
  go_wp2
  go_loop [2, 7] (fun v i => ∃ k : Nat, k ≤ l0.length ∧ i = .int .i64 k ∧ v = .int .u64 (numB (l0.take k))) (fun _ i => l0.length - (intOf i).toNat)
  case atStart => exact ⟨0, by omega, rfl, rfl⟩
  case round =>
    obtain ⟨k, hk, rfl, rfl⟩ := hrel
    by_cases hlt : k < l0.length
    · obtain ⟨b0, b1⟩ := numB_take_lt l0 HW.out k (by omega)
      obtain ⟨ad, rfl, hcell⟩ := Kd.at_int HR.out (k : Int) (by omega) (by omega)
      rw [Int.toNat_natCast] at hcell
      have hx := HW.out (l0[k]) (List.getElem_mem hlt)
      have hrd : rd l0 k = l0[k] := by simp [rd, List.getD_eq_getElem?_getD, List.getElem?_eq_getElem hlt]
      rw [hrd] at hcell
      clear hrd
      have hts : numB (l0.take (k + 1)) = numB (l0.take k) * 256 + l0[k] := by
        rw [List.take_succ_eq_append_getElem hlt, numB_snoc]
      have HTS := Aside0.mk hts
      clear hts
      generalize l0[k] = x at *
      generalize numB (l0.take k) = v at *
      obtain ⟨x0, x1⟩ := hx
      have hor := or_u64 v x b0 b1 x0 x1
      go_wp2
      go_round
      case rel => exact ⟨k + 1, by omega, by go_num, by rw [HTS.out]⟩
      case measure => simp [intOf]; omega
    · have hke : l0.take k = l0 := List.take_of_length_le (by omega)
      go_wp2
      go_ret
      exact ⟨by rw [← hke]; rfl, rfl⟩

/-- What Var tells: the number, the place behind it, the error. -/
def vone (r : List Int) (p : Int) (n : Nat) (m : Int) : Int × Int × Int := if r.length < n then (0, 0, 10) else (numB (r.take n) % m, p + n, 0)
def varF (l : List Int) (p : Int) : Int × Int × Int :=
  if p < 0 ∨ p > l.length then (0, 0, 2)
  else if l.drop p.toNat = [] then (0, 0, 10)
  else if rd l p / 64 = 0 then vone (l.drop p.toNat) p 1 64
  else if rd l p / 64 = 1 then vone (l.drop p.toNat) p 2 16384
  else if rd l p / 64 = 2 then vone (l.drop p.toNat) p 4 1073741824
  else vone (l.drop p.toNat) p 8 4611686018427387904

theorem read_callsN (A0 : Option Addr) (c0 n : Nat) (l0 : List Int) (w : World) (hn : l0.length = n) (hr0 : Kd.C (Kd.int .u8) w A0 n l0) (hc0 : n ≤ c0) (h8 : n ≤ 8) (hw : ∀ x ∈ l0, 0 ≤ x ∧ x < 256) :
    Calls Tryd.prog 54 #[.slice A0 n c0] w fun e w' => e = .returned (.int .u64 (numB l0)) ∧ w = w' := by
  subst hn
  exact read_calls A0 c0 l0 w hr0 hc0 h8 hw
theorem C_drop {w : World} {ad : Addr} {l : List Int} {k n : Nat} (h : Kd.C (Kd.int .u8) w (some ad) l.length l) (hk : k + n ≤ l.length) : Kd.C (Kd.int .u8) w (some (ad.add k)) n ((l.drop k).take n) := by
  refine Kd.C_of_reads (d := (0 : Int)) (h1 := fun _ => rfl) ⟨by rw [List.length_take, List.length_drop]; omega, ?_, fun hn => ⟨_, rfl, fun j hj => ?_⟩⟩
  · have := h.2.1; omega
  · obtain ⟨ad', e, hc⟩ := Kd.at_int h ((k + j : Nat) : Int) (by omega) (by omega)
    obtain rfl := Option.some.inj e
    have e1 : (ad.add k).add j = ad.add (k + j) := by simp [Addr.add]; split <;> split <;> simp_all <;> omega
    rw [Int.toNat_natCast] at hc
    rw [e1, hc]
    have e2 : ((k : Int) + (j : Int)).toNat = k + j := by omega
    simp [rd, List.getD_eq_getElem?_getD, List.getElem?_take, hj, List.getElem?_drop, e2]
theorem and_u64 (i : Nat) (hi : i ≤ 64) (x : Int) (h0 : 0 ≤ x) (h1 : x < 18446744073709551616) : bits .and .u64 x (2 ^ i - 1) = x % 2 ^ i :=
  bits_mask .u64 64 (by decide) (fun n a b => by rw [wrap_u64_mod]; omega) i hi x h0 h1
theorem numB_lt8 (l : List Int) (h : ∀ x ∈ l, 0 ≤ x ∧ x < 256) (hk : l.length ≤ 8) : 0 ≤ numB l ∧ numB l < 18446744073709551616 := by
  obtain ⟨a, b⟩ := numB_bound l h
  have h2 : (256 : Int) ^ l.length ≤ 256 ^ 8 := by
    have hp : (256 : Nat) ^ l.length ≤ 256 ^ 8 := Nat.pow_le_pow_right (by decide) hk
    have e := Int.ofNat_le.2 hp
    rwa [Int.natCast_pow, Int.natCast_pow] at e
  have h3 : (256 : Int) ^ 8 = 18446744073709551616 := by decide +kernel
  rw [h3] at h2
  exact ⟨a, Int.lt_of_lt_of_le b h2⟩

theorem var_arg (A0 : Option Addr) (c0 : Nat) (l0 : List Int) (a1 : Int) (w : World) (hc0 : l0.length ≤ c0) (hl : l0.length ≤ 140737488355328) (h : a1 < 0 ∨ a1 > l0.length) :
    Calls Tryd.prog 50 #[.slice A0 l0.length c0, .int .i64 a1] w fun e w' => e = .returned (.tuple #[.int .i64 0, .int .i64 0, .int .i64 2]) ∧ w = w' := by
  by_cases h0 : a1 < 0
  · have d1 : decide (a1 < 0) = true := by simpa using h0
    go_enter Tryd.func50, Tryd.ntmps50
    go_wp2
    go_ret3
    exact ⟨rfl, rfl⟩
  · have d1 : decide (a1 < 0) = false := by simpa using h0
    have d2 : decide ((l0.length : Int) < a1) = true := by simp; omega
    go_enter Tryd.func50, Tryd.ntmps50
    go_wp2
    go_ret3
    exact ⟨rfl, rfl⟩
theorem var_end (A0 : Option Addr) (c0 : Nat) (l0 : List Int) (a1 : Int) (w : World) (hc0 : l0.length ≤ c0) (hl : l0.length ≤ 140737488355328) (h : a1 = l0.length) :
    Calls Tryd.prog 50 #[.slice A0 l0.length c0, .int .i64 a1] w fun e w' => e = .returned (.tuple #[.int .i64 0, .int .i64 0, .int .i64 10]) ∧ w = w' := by
  subst h
  have d1 : decide ((l0.length : Int) < 0) = false := by simp
  have d2 : decide ((l0.length : Int) < (l0.length : Int)) = false := by simp
  have d3 : l0.length - l0.length = 0 := by omega
  go_enter Tryd.func50, Tryd.ntmps50
  go_wp2
  all_goals
    go_ret3
    exact ⟨rfl, rfl⟩

set_option maxHeartbeats 2000000 in
theorem var_0 (ad : Addr) (c0 : Nat) (l0 : List Int) (k : Nat) (w : World) (hG : GL w) (hr0 : Kd.C (Kd.int .u8) w (some ad) l0.length l0) (hc0 : l0.length ≤ c0) (hw : ∀ x ∈ l0, 0 ≤ x ∧ x < 256) (hl : l0.length ≤ 140737488355328) (hk : k < l0.length) (hx : rd l0 k / 64 = 0) :
    Calls Tryd.prog 50 #[.slice (some ad) l0.length c0, .int .i64 k] w fun e w' => e = .returned (.tuple #[.int .i64 (vone (l0.drop k) k 1 64).1, .int .i64 (vone (l0.drop k) k 1 64).2.1, .int .i64 (vone (l0.drop k) k 1 64).2.2]) ∧ Drawn0 w w' := by
  obtain ⟨g0, g1, g2, g3⟩ := hG
  have HR := Aside0.mk hr0
  have HW := Aside0.mk hw
  have hwk : ∀ x ∈ (l0.drop k).take 1, 0 ≤ x ∧ x < 256 := fun x hx => hw x (List.mem_of_mem_drop (List.mem_of_mem_take hx))
  have HWK := Aside0.mk hwk
  obtain ⟨ad', e, hcell⟩ := Kd.at_int hr0 (k : Int) (by omega) (by omega)
  obtain rfl := Option.some.inj e
  rw [Int.toNat_natCast] at hcell
  have hrng : 0 ≤ rd l0 k ∧ rd l0 k < 256 := by
    have : rd l0 k = l0[k] := by simp [rd, List.getD_eq_getElem?_getD, List.getElem?_eq_getElem hk]
    rw [this]; exact hw _ (List.getElem_mem hk)
  clear hr0 hw hwk e
  generalize rd l0 k = x at *
  obtain ⟨x0, x1⟩ := hrng
  have d1 : decide ((k : Int) < 0) = false := by simp
  have d2 : decide ((l0.length : Int) < (k : Int)) = false := by simp; omega
  have d2n : decide (l0.length < k) = false := by simp; omega
  have d3 : (((l0.length - k : Nat) : Int) == 0) = false := by rw [beq_eq_false_iff_ne]; omega
  have hlk : ¬ (l0.length - k = 0) := by omega
  by_cases hn : l0.length - k < 1
  · exact absurd hn (by omega)
  · have hv : vone (l0.drop k) k 1 64 = (numB ((l0.drop k).take 1) % 64, (k : Int) + 1, 0) := by unfold vone; rw [List.length_drop, if_neg hn]; rfl
    have HV := Aside0.mk hv
    clear hv
    have d4 : decide (((l0.length - k : Nat) : Int) < 1) = false := by simp; omega
    have hn2 : 1 ≤ l0.length - k := by omega
    have hlen : ((l0.drop k).take 1).length = 1 := by rw [List.length_take, List.length_drop]; omega
    have HLEN := Aside0.mk hlen
    have hcr := C_drop (n := 1) HR.out (k := k) (by omega)
    have HCR := Aside0.mk hcr
    obtain ⟨b0, b1⟩ := numB_lt8 _ HWK.out (by omega)
    have hand := and_u64 6 (by decide) (numB ((l0.drop k).take 1)) b0 b1
    have hp : (2 : Int) ^ 6 = 64 := by decide +kernel
    have hp1 : (2 : Int) ^ 6 - 1 = 63 := by decide +kernel
    rw [hp1, hp] at hand
    have hmod : 0 ≤ numB ((l0.drop k).take 1) % 64 ∧ numB ((l0.drop k).take 1) % 64 < 64 := ⟨Int.emod_nonneg _ (by decide), Int.emod_lt_of_pos _ (by decide)⟩
    obtain ⟨m0, m1⟩ := hmod
    have hand2 : wrap64 (bits .and .u64 (numB ((l0.drop k).take 1)) 63) = numB ((l0.drop k).take 1) % 64 := by
      rw [hand]; unfold wrap64; omega
    have HAND := Aside0.mk hand2
    have hsum : wrap64 ((k : Int) + 1) = (k : Int) + 1 := by unfold wrap64; omega
    have HSUM := Aside0.mk hsum
    clear hp hp1 hlen hcr hand hand2 hsum m0 m1 b0 b1
    go_enter Tryd.func50, Tryd.ntmps50
    go_wp2_with (go_at_call 54; refine (read_callsN _ _ 1 _ _ HLEN.out HCR.out (by omega) (by omega) HWK.out).mono ?_; rintro e w' ⟨rfl, rfl⟩)
    go_quiet ((go_at_call 54; refine (read_callsN _ _ 1 _ _ HLEN.out (Kd.C_below HCR.out (pw_below_drewN (Below.refl _ _) _)) (by omega) (by omega) HWK.out).mono ?_; rintro e w' ⟨rfl, rfl⟩; exact ⟨rfl, _, rfl⟩))
    go_wp2
    go_ret3
    refine ⟨?_, ⟨⟨nq, rfl⟩⟩⟩
    rw [HV.out]
    show Ending.returned (.tuple #[.int .i64 (wrap64 (bits .and .u64 (numB ((l0.drop k).take 1)) 63)), .int .i64 ((k : Int) + 1), .int .i64 0]) = _
    rw [HAND.out]

set_option maxHeartbeats 2000000 in
theorem var_1 (ad : Addr) (c0 : Nat) (l0 : List Int) (k : Nat) (w : World) (hG : GL w) (hr0 : Kd.C (Kd.int .u8) w (some ad) l0.length l0) (hc0 : l0.length ≤ c0) (hw : ∀ x ∈ l0, 0 ≤ x ∧ x < 256) (hl : l0.length ≤ 140737488355328) (hk : k < l0.length) (hx : rd l0 k / 64 = 1) :
    Calls Tryd.prog 50 #[.slice (some ad) l0.length c0, .int .i64 k] w fun e w' => e = .returned (.tuple #[.int .i64 (vone (l0.drop k) k 2 16384).1, .int .i64 (vone (l0.drop k) k 2 16384).2.1, .int .i64 (vone (l0.drop k) k 2 16384).2.2]) ∧ Drawn0 w w' := by
  obtain ⟨g0, g1, g2, g3⟩ := hG
  have HR := Aside0.mk hr0
  have HW := Aside0.mk hw
  have hwk : ∀ x ∈ (l0.drop k).take 2, 0 ≤ x ∧ x < 256 := fun x hx => hw x (List.mem_of_mem_drop (List.mem_of_mem_take hx))
  have HWK := Aside0.mk hwk
  obtain ⟨ad', e, hcell⟩ := Kd.at_int hr0 (k : Int) (by omega) (by omega)
  obtain rfl := Option.some.inj e
  rw [Int.toNat_natCast] at hcell
  have hrng : 0 ≤ rd l0 k ∧ rd l0 k < 256 := by
    have : rd l0 k = l0[k] := by simp [rd, List.getD_eq_getElem?_getD, List.getElem?_eq_getElem hk]
    rw [this]; exact hw _ (List.getElem_mem hk)
  clear hr0 hw hwk e
  generalize rd l0 k = x at *
  obtain ⟨x0, x1⟩ := hrng
  have d1 : decide ((k : Int) < 0) = false := by simp
  have d2 : decide ((l0.length : Int) < (k : Int)) = false := by simp; omega
  have d2n : decide (l0.length < k) = false := by simp; omega
  have d3 : (((l0.length - k : Nat) : Int) == 0) = false := by rw [beq_eq_false_iff_ne]; omega
  have hlk : ¬ (l0.length - k = 0) := by omega
  by_cases hn : l0.length - k < 2
  · have hv : vone (l0.drop k) k 2 16384 = (0, 0, 10) := by unfold vone; rw [List.length_drop, if_pos hn]
    have HV := Aside0.mk hv
    clear hv
    have d4 : decide (((l0.length - k : Nat) : Int) < 2) = true := by simp; omega
    go_enter Tryd.func50, Tryd.ntmps50
    go_wp2
    go_ret3
    exact ⟨by rw [HV.out]; rfl, Drawn0.refl _⟩
  · have hv : vone (l0.drop k) k 2 16384 = (numB ((l0.drop k).take 2) % 16384, (k : Int) + 2, 0) := by unfold vone; rw [List.length_drop, if_neg hn]; rfl
    have HV := Aside0.mk hv
    clear hv
    have d4 : decide (((l0.length - k : Nat) : Int) < 2) = false := by simp; omega
    have hn2 : 2 ≤ l0.length - k := by omega
    have hlen : ((l0.drop k).take 2).length = 2 := by rw [List.length_take, List.length_drop]; omega
    have HLEN := Aside0.mk hlen
    have hcr := C_drop (n := 2) HR.out (k := k) (by omega)
    have HCR := Aside0.mk hcr
    obtain ⟨b0, b1⟩ := numB_lt8 _ HWK.out (by omega)
    have hand := and_u64 14 (by decide) (numB ((l0.drop k).take 2)) b0 b1
    have hp : (2 : Int) ^ 14 = 16384 := by decide +kernel
    have hp1 : (2 : Int) ^ 14 - 1 = 16383 := by decide +kernel
    rw [hp1, hp] at hand
    have hmod : 0 ≤ numB ((l0.drop k).take 2) % 16384 ∧ numB ((l0.drop k).take 2) % 16384 < 16384 := ⟨Int.emod_nonneg _ (by decide), Int.emod_lt_of_pos _ (by decide)⟩
    obtain ⟨m0, m1⟩ := hmod
    have hand2 : wrap64 (bits .and .u64 (numB ((l0.drop k).take 2)) 16383) = numB ((l0.drop k).take 2) % 16384 := by
      rw [hand]; unfold wrap64; omega
    have HAND := Aside0.mk hand2
    have hsum : wrap64 ((k : Int) + 2) = (k : Int) + 2 := by unfold wrap64; omega
    have HSUM := Aside0.mk hsum
    clear hp hp1 hlen hcr hand hand2 hsum m0 m1 b0 b1
    go_enter Tryd.func50, Tryd.ntmps50
    go_wp2_with (go_at_call 54; refine (read_callsN _ _ 2 _ _ HLEN.out HCR.out (by omega) (by omega) HWK.out).mono ?_; rintro e w' ⟨rfl, rfl⟩)
    go_quiet ((go_at_call 54; refine (read_callsN _ _ 2 _ _ HLEN.out (Kd.C_below HCR.out (pw_below_drewN (Below.refl _ _) _)) (by omega) (by omega) HWK.out).mono ?_; rintro e w' ⟨rfl, rfl⟩; exact ⟨rfl, _, rfl⟩))
    go_wp2
    go_ret3
    refine ⟨?_, ⟨⟨nq, rfl⟩⟩⟩
    rw [HV.out]
    show Ending.returned (.tuple #[.int .i64 (wrap64 (bits .and .u64 (numB ((l0.drop k).take 2)) 16383)), .int .i64 ((k : Int) + 2), .int .i64 0]) = _
    rw [HAND.out]

set_option maxHeartbeats 2000000 in
theorem var_2 (ad : Addr) (c0 : Nat) (l0 : List Int) (k : Nat) (w : World) (hG : GL w) (hr0 : Kd.C (Kd.int .u8) w (some ad) l0.length l0) (hc0 : l0.length ≤ c0) (hw : ∀ x ∈ l0, 0 ≤ x ∧ x < 256) (hl : l0.length ≤ 140737488355328) (hk : k < l0.length) (hx : rd l0 k / 64 = 2) :
    Calls Tryd.prog 50 #[.slice (some ad) l0.length c0, .int .i64 k] w fun e w' => e = .returned (.tuple #[.int .i64 (vone (l0.drop k) k 4 1073741824).1, .int .i64 (vone (l0.drop k) k 4 1073741824).2.1, .int .i64 (vone (l0.drop k) k 4 1073741824).2.2]) ∧ Drawn0 w w' := by
  obtain ⟨g0, g1, g2, g3⟩ := hG
  have HR := Aside0.mk hr0
  have HW := Aside0.mk hw
  have hwk : ∀ x ∈ (l0.drop k).take 4, 0 ≤ x ∧ x < 256 := fun x hx => hw x (List.mem_of_mem_drop (List.mem_of_mem_take hx))
  have HWK := Aside0.mk hwk
  obtain ⟨ad', e, hcell⟩ := Kd.at_int hr0 (k : Int) (by omega) (by omega)
  obtain rfl := Option.some.inj e
  rw [Int.toNat_natCast] at hcell
  have hrng : 0 ≤ rd l0 k ∧ rd l0 k < 256 := by
    have : rd l0 k = l0[k] := by simp [rd, List.getD_eq_getElem?_getD, List.getElem?_eq_getElem hk]
    rw [this]; exact hw _ (List.getElem_mem hk)
  clear hr0 hw hwk e
  generalize rd l0 k = x at *
  obtain ⟨x0, x1⟩ := hrng
  have d1 : decide ((k : Int) < 0) = false := by simp
  have d2 : decide ((l0.length : Int) < (k : Int)) = false := by simp; omega
  have d2n : decide (l0.length < k) = false := by simp; omega
  have d3 : (((l0.length - k : Nat) : Int) == 0) = false := by rw [beq_eq_false_iff_ne]; omega
  have hlk : ¬ (l0.length - k = 0) := by omega
  by_cases hn : l0.length - k < 4
  · have hv : vone (l0.drop k) k 4 1073741824 = (0, 0, 10) := by unfold vone; rw [List.length_drop, if_pos hn]
    have HV := Aside0.mk hv
    clear hv
    have d4 : decide (((l0.length - k : Nat) : Int) < 4) = true := by simp; omega
    go_enter Tryd.func50, Tryd.ntmps50
    go_wp2
    go_ret3
    exact ⟨by rw [HV.out]; rfl, Drawn0.refl _⟩
  · have hv : vone (l0.drop k) k 4 1073741824 = (numB ((l0.drop k).take 4) % 1073741824, (k : Int) + 4, 0) := by unfold vone; rw [List.length_drop, if_neg hn]; rfl
    have HV := Aside0.mk hv
    clear hv
    have d4 : decide (((l0.length - k : Nat) : Int) < 4) = false := by simp; omega
    have hn2 : 4 ≤ l0.length - k := by omega
    have hlen : ((l0.drop k).take 4).length = 4 := by rw [List.length_take, List.length_drop]; omega
    have HLEN := Aside0.mk hlen
    have hcr := C_drop (n := 4) HR.out (k := k) (by omega)
    have HCR := Aside0.mk hcr
    obtain ⟨b0, b1⟩ := numB_lt8 _ HWK.out (by omega)
    have hand := and_u64 30 (by decide) (numB ((l0.drop k).take 4)) b0 b1
    have hp : (2 : Int) ^ 30 = 1073741824 := by decide +kernel
    have hp1 : (2 : Int) ^ 30 - 1 = 1073741823 := by decide +kernel
    rw [hp1, hp] at hand
    have hmod : 0 ≤ numB ((l0.drop k).take 4) % 1073741824 ∧ numB ((l0.drop k).take 4) % 1073741824 < 1073741824 := ⟨Int.emod_nonneg _ (by decide), Int.emod_lt_of_pos _ (by decide)⟩
    obtain ⟨m0, m1⟩ := hmod
    have hand2 : wrap64 (bits .and .u64 (numB ((l0.drop k).take 4)) 1073741823) = numB ((l0.drop k).take 4) % 1073741824 := by
      rw [hand]; unfold wrap64; omega
    have HAND := Aside0.mk hand2
    have hsum : wrap64 ((k : Int) + 4) = (k : Int) + 4 := by unfold wrap64; omega
    have HSUM := Aside0.mk hsum
    clear hp hp1 hlen hcr hand hand2 hsum m0 m1 b0 b1
    go_enter Tryd.func50, Tryd.ntmps50
    go_wp2_with (go_at_call 54; refine (read_callsN _ _ 4 _ _ HLEN.out HCR.out (by omega) (by omega) HWK.out).mono ?_; rintro e w' ⟨rfl, rfl⟩)
    go_quiet ((go_at_call 54; refine (read_callsN _ _ 4 _ _ HLEN.out (Kd.C_below HCR.out (pw_below_drewN (Below.refl _ _) _)) (by omega) (by omega) HWK.out).mono ?_; rintro e w' ⟨rfl, rfl⟩; exact ⟨rfl, _, rfl⟩))
    go_wp2
    go_ret3
    refine ⟨?_, ⟨⟨nq, rfl⟩⟩⟩
    rw [HV.out]
    show Ending.returned (.tuple #[.int .i64 (wrap64 (bits .and .u64 (numB ((l0.drop k).take 4)) 1073741823)), .int .i64 ((k : Int) + 4), .int .i64 0]) = _
    rw [HAND.out]

set_option maxHeartbeats 2000000 in
theorem var_3 (ad : Addr) (c0 : Nat) (l0 : List Int) (k : Nat) (w : World) (hG : GL w) (hr0 : Kd.C (Kd.int .u8) w (some ad) l0.length l0) (hc0 : l0.length ≤ c0) (hw : ∀ x ∈ l0, 0 ≤ x ∧ x < 256) (hl : l0.length ≤ 140737488355328) (hk : k < l0.length) (hx : rd l0 k / 64 = 3) :
    Calls Tryd.prog 50 #[.slice (some ad) l0.length c0, .int .i64 k] w fun e w' => e = .returned (.tuple #[.int .i64 (vone (l0.drop k) k 8 4611686018427387904).1, .int .i64 (vone (l0.drop k) k 8 4611686018427387904).2.1, .int .i64 (vone (l0.drop k) k 8 4611686018427387904).2.2]) ∧ Drawn0 w w' := by
  obtain ⟨g0, g1, g2, g3⟩ := hG
  have HR := Aside0.mk hr0
  have HW := Aside0.mk hw
  have hwk : ∀ x ∈ (l0.drop k).take 8, 0 ≤ x ∧ x < 256 := fun x hx => hw x (List.mem_of_mem_drop (List.mem_of_mem_take hx))
  have HWK := Aside0.mk hwk
  obtain ⟨ad', e, hcell⟩ := Kd.at_int hr0 (k : Int) (by omega) (by omega)
  obtain rfl := Option.some.inj e
  rw [Int.toNat_natCast] at hcell
  have hrng : 0 ≤ rd l0 k ∧ rd l0 k < 256 := by
    have : rd l0 k = l0[k] := by simp [rd, List.getD_eq_getElem?_getD, List.getElem?_eq_getElem hk]
    rw [this]; exact hw _ (List.getElem_mem hk)
  clear hr0 hw hwk e
  generalize rd l0 k = x at *
  obtain ⟨x0, x1⟩ := hrng
  have d1 : decide ((k : Int) < 0) = false := by simp
  have d2 : decide ((l0.length : Int) < (k : Int)) = false := by simp; omega
  have d2n : decide (l0.length < k) = false := by simp; omega
  have d3 : (((l0.length - k : Nat) : Int) == 0) = false := by rw [beq_eq_false_iff_ne]; omega
  have hlk : ¬ (l0.length - k = 0) := by omega
  by_cases hn : l0.length - k < 8
  · have hv : vone (l0.drop k) k 8 4611686018427387904 = (0, 0, 10) := by unfold vone; rw [List.length_drop, if_pos hn]
    have HV := Aside0.mk hv
    clear hv
    have d4 : decide (((l0.length - k : Nat) : Int) < 8) = true := by simp; omega
    go_enter Tryd.func50, Tryd.ntmps50
    go_wp2
    go_ret3
    exact ⟨by rw [HV.out]; rfl, Drawn0.refl _⟩
  · have hv : vone (l0.drop k) k 8 4611686018427387904 = (numB ((l0.drop k).take 8) % 4611686018427387904, (k : Int) + 8, 0) := by unfold vone; rw [List.length_drop, if_neg hn]; rfl
    have HV := Aside0.mk hv
    clear hv
    have d4 : decide (((l0.length - k : Nat) : Int) < 8) = false := by simp; omega
    have hn2 : 8 ≤ l0.length - k := by omega
    have hlen : ((l0.drop k).take 8).length = 8 := by rw [List.length_take, List.length_drop]; omega
    have HLEN := Aside0.mk hlen
    have hcr := C_drop (n := 8) HR.out (k := k) (by omega)
    have HCR := Aside0.mk hcr
    obtain ⟨b0, b1⟩ := numB_lt8 _ HWK.out (by omega)
    have hand := and_u64 62 (by decide) (numB ((l0.drop k).take 8)) b0 b1
    have hp : (2 : Int) ^ 62 = 4611686018427387904 := by decide +kernel
    have hp1 : (2 : Int) ^ 62 - 1 = 4611686018427387903 := by decide +kernel
    rw [hp1, hp] at hand
    have hmod : 0 ≤ numB ((l0.drop k).take 8) % 4611686018427387904 ∧ numB ((l0.drop k).take 8) % 4611686018427387904 < 4611686018427387904 := ⟨Int.emod_nonneg _ (by decide), Int.emod_lt_of_pos _ (by decide)⟩
    obtain ⟨m0, m1⟩ := hmod
    have hand2 : wrap64 (bits .and .u64 (numB ((l0.drop k).take 8)) 4611686018427387903) = numB ((l0.drop k).take 8) % 4611686018427387904 := by
      rw [hand]; unfold wrap64; omega
    have HAND := Aside0.mk hand2
    have hsum : wrap64 ((k : Int) + 8) = (k : Int) + 8 := by unfold wrap64; omega
    have HSUM := Aside0.mk hsum
    clear hp hp1 hlen hcr hand hand2 hsum m0 m1 b0 b1
    go_enter Tryd.func50, Tryd.ntmps50
    go_wp2_with (go_at_call 54; refine (read_callsN _ _ 8 _ _ HLEN.out HCR.out (by omega) (by omega) HWK.out).mono ?_; rintro e w' ⟨rfl, rfl⟩)
    go_quiet ((go_at_call 54; refine (read_callsN _ _ 8 _ _ HLEN.out (Kd.C_below HCR.out (pw_below_drewN (Below.refl _ _) _)) (by omega) (by omega) HWK.out).mono ?_; rintro e w' ⟨rfl, rfl⟩; exact ⟨rfl, _, rfl⟩))
    go_wp2
    go_ret3
    refine ⟨?_, ⟨⟨nq, rfl⟩⟩⟩
    rw [HV.out]
    show Ending.returned (.tuple #[.int .i64 (wrap64 (bits .and .u64 (numB ((l0.drop k).take 8)) 4611686018427387903)), .int .i64 ((k : Int) + 8), .int .i64 0]) = _
    rw [HAND.out]

theorem var_calls (A0 : Option Addr) (c0 : Nat) (l0 : List Int) (a1 : Int) (w : World) (hG : GL w) (hr0 : Kd.C (Kd.int .u8) w A0 l0.length l0) (hc0 : l0.length ≤ c0) (hw : ∀ x ∈ l0, 0 ≤ x ∧ x < 256) (hl : l0.length ≤ 140737488355328) :
    Calls Tryd.prog 50 #[.slice A0 l0.length c0, .int .i64 a1] w fun e w' => e = .returned (.tuple #[.int .i64 (varF l0 a1).1, .int .i64 (varF l0 a1).2.1, .int .i64 (varF l0 a1).2.2]) ∧ Drawn0 w w' := by
  by_cases h : a1 < 0 ∨ a1 > l0.length
  · have e : varF l0 a1 = (0, 0, 2) := by unfold varF; rw [if_pos h]
    rw [e]
    exact (var_arg A0 c0 l0 a1 w hc0 hl h).mono (fun _ _ ⟨a, b⟩ => ⟨a, b ▸ Drawn0.refl _⟩)
  · by_cases he : a1 = l0.length
    · have e : varF l0 a1 = (0, 0, 10) := by
        unfold varF; rw [if_neg h, if_pos]; rw [he]; simp
      rw [e]
      exact (var_end A0 c0 l0 a1 w hc0 hl he).mono (fun _ _ ⟨a, b⟩ => ⟨a, b ▸ Drawn0.refl _⟩)
    · obtain ⟨k, rfl⟩ := Int.eq_ofNat_of_zero_le (show 0 ≤ a1 by omega)
      have hk : k < l0.length := by omega
      obtain ⟨ad, rfl, _⟩ := Kd.at_int hr0 (k : Int) (by omega) (by omega)
      have hd : ¬ (l0.drop (k : Int).toNat = []) := by simp; omega
      have hrng : 0 ≤ rd l0 k ∧ rd l0 k < 256 := by
        have : rd l0 k = l0[k] := by simp [rd, List.getD_eq_getElem?_getD, List.getElem?_eq_getElem hk]
        rw [this]; exact hw _ (List.getElem_mem hk)
      have hc : rd l0 k / 64 = 0 ∨ rd l0 k / 64 = 1 ∨ rd l0 k / 64 = 2 ∨ rd l0 k / 64 = 3 := by omega
      have e : (k : Int).toNat = k := by omega
      unfold varF
      rw [if_neg h, if_neg hd, e]
      rcases hc with hx | hx | hx | hx
      · rw [if_pos hx]; exact var_0 ad c0 l0 k w hG hr0 hc0 hw hl hk hx
      · rw [if_neg (by omega), if_pos hx]; exact var_1 ad c0 l0 k w hG hr0 hc0 hw hl hk hx
      · rw [if_neg (by omega), if_neg (by omega), if_pos hx]; exact var_2 ad c0 l0 k w hG hr0 hc0 hw hl hk hx
      · rw [if_neg (by omega), if_neg (by omega), if_neg (by omega)]; exact var_3 ad c0 l0 k w hG hr0 hc0 hw hl hk hx
end Go.Proofs.YtcidijmdndcdlaaDoor
