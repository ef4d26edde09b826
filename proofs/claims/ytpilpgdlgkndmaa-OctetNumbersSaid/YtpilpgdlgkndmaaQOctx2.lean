/- Written by a program of this session: walks of the functions that a statement reaches, in the form of the kit's print; no condition. -/
import Derived.Test.YtpilpgdlgkndmaaQOctx0
import Derived.Test.YtpilpgdlgkndmaaQOctx1
namespace Go.Proofs.Ytpilpgdlgkndmaa.QOct
open Go.RowKit Go.Proofs.YtpilpgdlgkndmaaW.PrintWords Go.Proofs.YtpilpgdlgkndmaaW.PrintLast Go.Proofs.YtpilpgdlgkndmaaW.PrintMore
attribute [local go_sem] max2_int min2_int max_two min_two max_three min_three max_four min_four   -- for this text's walks alone
set_option linter.unusedVariables false
set_option linter.unusedSimpArgs false

/-! ### caravelref01_Whole: function 18 -/
mutual
def caravelref01_Whole.j0 : Nat → Int → Int → Int → Bool → Option (Int × Int)
  | 0, _, _, _, _ => none
  | k + 1, x0, x1, x2, x37 => if x37 = true then (some (0, 2)) else (if 0 ≤ (IntKind.u64.wrap (wrap64 (8 * x1))) then (if (shl .i64 1 (IntKind.u64.wrap (wrap64 (8 * x1)))) = 0 then (none) else (caravelref01_Whole.l0 k (shl .i64 1 (IntKind.u64.wrap (wrap64 (8 * x1)))) (wrap64 (x2 + 1)) (wrap64 ((wrap64 ((wrap64 (Int.tdiv (wrap64 (x2 + 1)) (shl .i64 1 (IntKind.u64.wrap (wrap64 (8 * x1)))))) * (shl .i64 1 (IntKind.u64.wrap (wrap64 (8 * x1)))))) + (wrap64 (x0)))) (-1) 0 (-1))) else (none))
def caravelref01_Whole.l0 : Nat → Int → Int → Int → Int → Int → Int → Option (Int × Int)
  | 0, _, _, _, _, _, _ => none
  | k + 1, x8, x9, x10, x11, x12, x13 => if x13 ≤ 1 then (if (wrap64 (x10 + (wrap64 (x13 * x8)))) < 0 then (caravelref01_Whole.j2 k x8 x9 x10 x11 x12 x13 (wrap64 (x10 + (wrap64 (x13 * x8)))) true) else (caravelref01_Whole.j2 k x8 x9 x10 x11 x12 x13 (wrap64 (x10 + (wrap64 (x13 * x8)))) (decide ((wrap64 (x10 + (wrap64 (x13 * x8)))) > 4611686018427387903)))) else (some (x11, 0))
def caravelref01_Whole.j2 : Nat → Int → Int → Int → Int → Int → Int → Int → Bool → Option (Int × Int)
  | 0, _, _, _, _, _, _, _, _ => none
  | k + 1, x8, x9, x10, x11, x12, x13, x14, x66 => if x66 = true then (caravelref01_Whole.l0 k x8 x9 x10 x11 x12 (wrap64 (x13 + 1))) else (if (wrap64 (x14 - x9)) < 0 then (if x11 < 0 then (caravelref01_Whole.l0 k x8 x9 x10 x14 (wrap64 (-(wrap64 (x14 - x9)))) (wrap64 (x13 + 1))) else (if (wrap64 (-(wrap64 (x14 - x9)))) ≤ x12 then (caravelref01_Whole.l0 k x8 x9 x10 x14 (wrap64 (-(wrap64 (x14 - x9)))) (wrap64 (x13 + 1))) else (caravelref01_Whole.l0 k x8 x9 x10 x11 x12 (wrap64 (x13 + 1))))) else (if x11 < 0 then (caravelref01_Whole.l0 k x8 x9 x10 x14 (wrap64 (x14 - x9)) (wrap64 (x13 + 1))) else (if (wrap64 (x14 - x9)) ≤ x12 then (caravelref01_Whole.l0 k x8 x9 x10 x14 (wrap64 (x14 - x9)) (wrap64 (x13 + 1))) else (caravelref01_Whole.l0 k x8 x9 x10 x11 x12 (wrap64 (x13 + 1))))))
end
def caravelref01_Whole.f (k : Nat) (a0 : Int) (a1 : Int) (a2 : Int) : Option (Int × Int) := if a1 < 1 then (caravelref01_Whole.j0 k a0 a1 a2 true) else (if a1 > 4 then (caravelref01_Whole.j0 k a0 a1 a2 true) else (if 0 ≤ (IntKind.u64.wrap (wrap64 (8 * a1))) then (if a0 ≥ (shl .u64 1 (IntKind.u64.wrap (wrap64 (8 * a1)))) then (caravelref01_Whole.j0 k a0 a1 a2 true) else (if a2 < (-1) then (caravelref01_Whole.j0 k a0 a1 a2 true) else (caravelref01_Whole.j0 k a0 a1 a2 (decide (a2 > 4611686018427387903))))) else (none)))
theorem caravelref01_Whole.mono_l : ∀ k, (∀ y0 y1 y2 y3, LeO (caravelref01_Whole.j0 k y0 y1 y2 y3) (caravelref01_Whole.j0 (k + 1) y0 y1 y2 y3)) ∧ (∀ y0 y1 y2 y3 y4 y5, LeO (caravelref01_Whole.l0 k y0 y1 y2 y3 y4 y5) (caravelref01_Whole.l0 (k + 1) y0 y1 y2 y3 y4 y5)) ∧ (∀ y0 y1 y2 y3 y4 y5 y6 y7, LeO (caravelref01_Whole.j2 k y0 y1 y2 y3 y4 y5 y6 y7) (caravelref01_Whole.j2 (k + 1) y0 y1 y2 y3 y4 y5 y6 y7))
  | 0 => ⟨fun _ _ _ _ r h => by simp [caravelref01_Whole.j0] at h, fun _ _ _ _ _ _ r h => by simp [caravelref01_Whole.l0] at h, fun _ _ _ _ _ _ _ _ r h => by simp [caravelref01_Whole.j2] at h⟩
  | k + 1 => by
    obtain ⟨ih0, ih1, ih2⟩ := caravelref01_Whole.mono_l k
    refine ⟨?_, ?_, ?_⟩
    · intro y0 y1 y2 y3
      unfold caravelref01_Whole.j0
      repeat' first
      | (with_reducible exact ih0 _ _ _ _)
      | (with_reducible exact ih1 _ _ _ _ _ _)
      | (with_reducible exact ih2 _ _ _ _ _ _ _ _)
      | (with_reducible exact LeO.refl _)
      | (with_reducible exact LeO.none _)
      | (with_reducible refine LeO.ite ?_ ?_)
      | (with_reducible refine LeO.bind ?_ (fun _ => ?_))
      | exact ih0 _ _ _ _
      | exact ih1 _ _ _ _ _ _
      | exact ih2 _ _ _ _ _ _ _ _
      | exact LeO.none _
      | refine LeO.ite ?_ ?_
      | refine LeO.bind ?_ (fun _ => ?_)
    · intro y0 y1 y2 y3 y4 y5
      unfold caravelref01_Whole.l0
      repeat' first
      | (with_reducible exact ih0 _ _ _ _)
      | (with_reducible exact ih1 _ _ _ _ _ _)
      | (with_reducible exact ih2 _ _ _ _ _ _ _ _)
      | (with_reducible exact LeO.refl _)
      | (with_reducible exact LeO.none _)
      | (with_reducible refine LeO.ite ?_ ?_)
      | (with_reducible refine LeO.bind ?_ (fun _ => ?_))
      | exact ih0 _ _ _ _
      | exact ih1 _ _ _ _ _ _
      | exact ih2 _ _ _ _ _ _ _ _
      | exact LeO.none _
      | refine LeO.ite ?_ ?_
      | refine LeO.bind ?_ (fun _ => ?_)
    · intro y0 y1 y2 y3 y4 y5 y6 y7
      unfold caravelref01_Whole.j2
      repeat' first
      | (with_reducible exact ih0 _ _ _ _)
      | (with_reducible exact ih1 _ _ _ _ _ _)
      | (with_reducible exact ih2 _ _ _ _ _ _ _ _)
      | (with_reducible exact LeO.refl _)
      | (with_reducible exact LeO.none _)
      | (with_reducible refine LeO.ite ?_ ?_)
      | (with_reducible refine LeO.bind ?_ (fun _ => ?_))
      | exact ih0 _ _ _ _
      | exact ih1 _ _ _ _ _ _
      | exact ih2 _ _ _ _ _ _ _ _
      | exact LeO.none _
      | refine LeO.ite ?_ ?_
      | refine LeO.bind ?_ (fun _ => ?_)
theorem caravelref01_Whole.mono : ∀ a0 a1 a2 k, LeO (caravelref01_Whole.f k a0 a1 a2) (caravelref01_Whole.f (k + 1) a0 a1 a2) := by
  intro a0 a1 a2 k
  obtain ⟨ih0, ih1, ih2⟩ := caravelref01_Whole.mono_l k
  unfold caravelref01_Whole.f
  repeat' first
      | (with_reducible exact ih0 _ _ _ _)
      | (with_reducible exact ih1 _ _ _ _ _ _)
      | (with_reducible exact ih2 _ _ _ _ _ _ _ _)
      | (with_reducible exact LeO.refl _)
      | (with_reducible exact LeO.none _)
      | (with_reducible refine LeO.ite ?_ ?_)
      | (with_reducible refine LeO.bind ?_ (fun _ => ?_))
      | exact ih0 _ _ _ _
      | exact ih1 _ _ _ _ _ _
      | exact ih2 _ _ _ _ _ _ _ _
      | exact LeO.none _
      | refine LeO.ite ?_ ?_
      | refine LeO.bind ?_ (fun _ => ?_)
set_option maxHeartbeats 8000000 in
set_option maxRecDepth 100000 in
theorem caravelref01_Whole.calls (k : Nat) (a0 : Int) (a1 : Int) (a2 : Int) (r1 : Int) (r2 : Int) (w : World) (h : caravelref01_Whole.f k a0 a1 a2 = some (r1, r2)) :
    Calls Try.prog 18 #[.int .u64 a0, .int .i64 a1, .int .i64 a2] w fun e w' => e = .returned (.tuple #[.int .i64 r1, .int .i64 r2]) ∧ Drawn0 w w' := by
  have H : (if a1 < 1 then (caravelref01_Whole.j0 k a0 a1 a2 true) else (if a1 > 4 then (caravelref01_Whole.j0 k a0 a1 a2 true) else (if 0 ≤ (IntKind.u64.wrap (wrap64 (8 * a1))) then (if a0 ≥ (shl .u64 1 (IntKind.u64.wrap (wrap64 (8 * a1)))) then (caravelref01_Whole.j0 k a0 a1 a2 true) else (if a2 < (-1) then (caravelref01_Whole.j0 k a0 a1 a2 true) else (caravelref01_Whole.j0 k a0 a1 a2 (decide (a2 > 4611686018427387903))))) else (none)))) = some (r1, r2) := h
  clear h
  have HC4 := Aside0.mk H
  clear H
  go_enter Try.func18, Try.ntmps18
  go_upto_region 1 with (fail)
  go_cut [37] (fun v37 wc => ∃ (kq : Nat) (x37_3 : Bool), v37 = .bool x37_3 ∧ Aside0 (caravelref01_Whole.j0 kq a0 a1 a2 x37_3 = some (r1, r2)) ∧ Aside0 (kq ≤ k) ∧ Drawn0 w wc)
  case first =>
    have H := HC4.out
    clear HC4
    by_cases c5 : a1 < 1
    · rw [if_pos c5] at H
      have c5b0 : decide (a1 < 1) = true := decide_eq_true c5
      clear c5
      (first | rw [c5b0] | (simp only [i64_w, i32_w]; rw [c5b0]) | skip)
      have H' := Aside0.mk H
      clear H
      go_wp2
      go_meet
      case rel => exact ⟨_, (true), (by first | rfl | (simp; done) | (simp [*]; done)), H', ⟨by first | omega | exact Nat.le_refl _⟩, by repeat (first | exact Drawn0.refl _ | apply Drawn0.step)⟩
    · rw [if_neg c5] at H
      have c5b0 : decide (a1 < 1) = false := decide_eq_false c5
      clear c5
      (first | rw [c5b0] | (simp only [i64_w, i32_w]; rw [c5b0]) | skip)
      by_cases c6 : a1 > 4
      · rw [if_pos c6] at H
        have c6b0 : decide (4 < a1) = true := decide_eq_true c6
        clear c6
        have H' := Aside0.mk H
        clear H
        go_wp2
        go_meet
        case rel => exact ⟨_, (true), (by first | rfl | (simp; done) | (simp [*]; done)), H', ⟨by first | omega | exact Nat.le_refl _⟩, by repeat (first | exact Drawn0.refl _ | apply Drawn0.step)⟩
      · rw [if_neg c6] at H
        have c6b0 : decide (4 < a1) = false := decide_eq_false c6
        clear c6
        obtain ⟨ji7, hji7⟩ : ∃ j_ : Int, (IntKind.u64.wrap (wrap64 (8 * a1))) = j_ := ⟨_, rfl⟩
        replace H : (if 0 ≤ (ji7) then (if a0 ≥ (shl .u64 1 (ji7)) then (caravelref01_Whole.j0 k a0 a1 a2 true) else (if a2 < (-1) then (caravelref01_Whole.j0 k a0 a1 a2 true) else (caravelref01_Whole.j0 k a0 a1 a2 (decide (a2 > 4611686018427387903))))) else (none)) = some (r1, r2) := by first | (rw [hji7] at H; exact H) | (simp only [hji7] at H ⊢; exact H)
        by_cases c8 : 0 ≤ (ji7)
        · rw [if_pos c8] at H
          have c8b0 := eq_true c8
          have c8b1 : decide (0 ≤ (ji7)) = true := decide_eq_true c8
          clear c8
          obtain ⟨ji9, hji9⟩ : ∃ j_ : Int, (shl .u64 1 (ji7)) = j_ := ⟨_, rfl⟩
          replace H : (if a0 ≥ (ji9) then (caravelref01_Whole.j0 k a0 a1 a2 true) else (if a2 < (-1) then (caravelref01_Whole.j0 k a0 a1 a2 true) else (caravelref01_Whole.j0 k a0 a1 a2 (decide (a2 > 4611686018427387903))))) = some (r1, r2) := by first | (rw [hji9] at H; exact H) | (simp only [hji9] at H ⊢; exact H)
          have hji9_ : (IntKind.u64.wrap (1 * 2 ^ min (ji7).toNat 64)) = ji9 := hji9
          have hji9z : (ji7) ≤ 64 → (IntKind.u64.wrap (1 * 2 ^ (ji7).toNat)) = ji9 := shl_small hji9
          have hji9u : (IntKind.u64.wrap (2 ^ min (ji7).toNat 64)) = ji9 := by have h_ := hji9_; rw [Int.one_mul] at h_; exact h_
          have hji9v : (ji7) ≤ 64 → (IntKind.u64.wrap (2 ^ (ji7).toNat)) = ji9 := fun hle_ => by have h_ := hji9z hle_; rw [Int.one_mul] at h_; exact h_
          by_cases c10 : a0 ≥ (ji9)
          · rw [if_pos c10] at H
            have c10b0 : decide ((ji9) ≤ a0) = true := decide_eq_true c10
            clear c10
            have H' := Aside0.mk H
            clear H
            go_wp2
            go_meet
            case rel => exact ⟨_, (true), (by first | rfl | (simp; done) | (simp [*]; done)), H', ⟨by first | omega | exact Nat.le_refl _⟩, by repeat (first | exact Drawn0.refl _ | apply Drawn0.step)⟩
          · rw [if_neg c10] at H
            have c10b0 : decide ((ji9) ≤ a0) = false := decide_eq_false c10
            clear c10
            by_cases c11 : a2 < (-1)
            · rw [if_pos c11] at H
              have c11b0 : decide (a2 < (-1)) = true := decide_eq_true c11
              clear c11
              have H' := Aside0.mk H
              clear H
              go_wp2
              go_meet
              case rel => exact ⟨_, (true), (by first | rfl | (simp; done) | (simp [*]; done)), H', ⟨by first | omega | exact Nat.le_refl _⟩, by repeat (first | exact Drawn0.refl _ | apply Drawn0.step)⟩
            · rw [if_neg c11] at H
              have c11b0 : decide (a2 < (-1)) = false := decide_eq_false c11
              clear c11
              have H' := Aside0.mk H
              clear H
              go_wp2
              go_meet
              case rel => exact ⟨_, (decide (a2 > 4611686018427387903)), (by first | rfl | (simp; done) | (simp [*]; done)), H', ⟨by first | omega | exact Nat.le_refl _⟩, by repeat (first | exact Drawn0.refl _ | apply Drawn0.step)⟩
        · rw [if_neg c8] at H
          exact absurd H (by simp)
  case rest =>
    clear HC4
    try clear c1
    try clear p2
    try clear c5
    try clear c5b0
    try clear c6
    try clear c6b0
    try clear p6
    try clear c8
    try clear c8b0
    try clear c8b1
    try clear c10
    try clear c10b0
    try clear c11
    try clear c11b0
    obtain ⟨kq, x37_3, rfl, HA, HJ3, ⟨mc3, rfl⟩⟩ := hcut
    cases kq with
    | zero => exact absurd HA.out (by simp [caravelref01_Whole.j0])
    | succ kj3 =>
      have H := HA.out
      clear HA
      simp only [caravelref01_Whole.j0] at H
      by_cases c12 : x37_3 = true
      · subst c12
        have H1 : (some (0, 2)) = some (r1, r2) := by rw [if_pos rfl] at H; exact H
        clear H
        have H := H1
        clear H1
        simp only [Option.some.injEq, Prod.mk.injEq] at H
        obtain ⟨rfl, rfl⟩ := H
        go_wp2
        go_ret2
        exact ⟨by first | rfl | (simp; done) | (simp [*]; done), by repeat (first | exact Drawn0.refl _ | apply Drawn0.step)⟩
      · replace c12 := Bool.eq_false_iff.mpr c12
        subst c12
        have H1 : (if 0 ≤ (IntKind.u64.wrap (wrap64 (8 * a1))) then (if (shl .i64 1 (IntKind.u64.wrap (wrap64 (8 * a1)))) = 0 then (none) else (caravelref01_Whole.l0 kj3 (shl .i64 1 (IntKind.u64.wrap (wrap64 (8 * a1)))) (wrap64 (a2 + 1)) (wrap64 ((wrap64 ((wrap64 (Int.tdiv (wrap64 (a2 + 1)) (shl .i64 1 (IntKind.u64.wrap (wrap64 (8 * a1)))))) * (shl .i64 1 (IntKind.u64.wrap (wrap64 (8 * a1)))))) + (wrap64 (a0)))) (-1) 0 (-1))) else (none)) = some (r1, r2) := by rw [if_neg (show ¬ (false = true) by decide)] at H; exact H
        clear H
        have H := H1
        clear H1
        obtain ⟨ji13, hji13⟩ : ∃ j_ : Int, (IntKind.u64.wrap (wrap64 (8 * a1))) = j_ := ⟨_, rfl⟩
        replace H : (if 0 ≤ (ji13) then (if (shl .i64 1 (ji13)) = 0 then (none) else (caravelref01_Whole.l0 kj3 (shl .i64 1 (ji13)) (wrap64 (a2 + 1)) (wrap64 ((wrap64 ((wrap64 (Int.tdiv (wrap64 (a2 + 1)) (shl .i64 1 (ji13)))) * (shl .i64 1 (ji13)))) + (wrap64 (a0)))) (-1) 0 (-1))) else (none)) = some (r1, r2) := by first | (rw [hji13] at H; exact H) | (simp only [hji13] at H ⊢; exact H)
        by_cases c14 : 0 ≤ (ji13)
        · rw [if_pos c14] at H
          have c14b0 := eq_true c14
          have c14b1 : decide (0 ≤ (ji13)) = true := decide_eq_true c14
          clear c14
          obtain ⟨ji15, hji15⟩ : ∃ j_ : Int, (shl .i64 1 (ji13)) = j_ := ⟨_, rfl⟩
          replace H : (if (ji15) = 0 then (none) else (caravelref01_Whole.l0 kj3 ji15 (wrap64 (a2 + 1)) (wrap64 ((wrap64 ((wrap64 (Int.tdiv (wrap64 (a2 + 1)) (ji15))) * (ji15))) + (wrap64 (a0)))) (-1) 0 (-1))) = some (r1, r2) := by first | (rw [hji15] at H; exact H) | (simp only [hji15] at H ⊢; exact H)
          have hji15_ : (IntKind.i64.wrap (1 * 2 ^ min (ji13).toNat 64)) = ji15 := hji15
          have hji15z : (ji13) ≤ 64 → (IntKind.i64.wrap (1 * 2 ^ (ji13).toNat)) = ji15 := shl_small hji15
          have hji15u : (IntKind.i64.wrap (2 ^ min (ji13).toNat 64)) = ji15 := by have h_ := hji15_; rw [Int.one_mul] at h_; exact h_
          have hji15v : (ji13) ≤ 64 → (IntKind.i64.wrap (2 ^ (ji13).toNat)) = ji15 := fun hle_ => by have h_ := hji15z hle_; rw [Int.one_mul] at h_; exact h_
          have hji15y : (wrap64 (1 * 2 ^ min (ji13).toNat 64)) = ji15 := (i64_w _).symm.trans hji15_
          have hji15x : (ji13) ≤ 64 → (wrap64 (1 * 2 ^ (ji13).toNat)) = ji15 := fun h_ => (i64_w _).symm.trans (hji15z h_)
          by_cases c16 : (ji15) = 0
          · rw [if_pos c16] at H
            exact absurd H (by simp)
          · rw [if_neg c16] at H
            have c16b0 : ((ji15) == 0) = false := beq_eq_false_iff_ne.mpr c16
            have c16b1 : ((ji15) != 0) = true := bne_iff_ne.mpr c16
            have H' := Aside0.mk H
            clear H
            go_wp2
            go_loopg [11, 12, 13] kj3 (fun kq v11 v12 v13 w' => ∃ (x11_2 : Int) (x12_2 : Int) (x13_2 : Int), v11 = .int .i64 x11_2 ∧ v12 = .int .i64 x12_2 ∧ v13 = .int .i64 x13_2 ∧ Aside0 (caravelref01_Whole.l0 kq ji15 (wrap64 (a2 + 1)) (wrap64 ((wrap64 ((wrap64 (Int.tdiv (wrap64 (a2 + 1)) (ji15))) * (ji15))) + (wrap64 (a0)))) x11_2 x12_2 x13_2 = some (r1, r2)) ∧ Aside0 (kq ≤ kj3) ∧ Drawn0 w w')
            case atStart => exact ⟨((-1)), (0), ((-1)), (by first | rfl | (simp; done) | (simp [*]; done)), (by first | rfl | (simp; done) | (simp [*]; done)), (by first | rfl | (simp; done) | (simp [*]; done)), H', ⟨Nat.le_refl _⟩, by repeat (first | exact Drawn0.refl _ | apply Drawn0.step)⟩
            case round =>
              clear H'
              try clear c1
              try clear p2
              try clear c3
              try clear c5
              try clear c5b0
              try clear c6
              try clear c6b0
              try clear p6
              try clear c8
              try clear c8b0
              try clear c8b1
              try clear c10
              try clear c10b0
              try clear c11
              try clear c11b0
              try clear c12
              try clear c14
              try clear c14b0
              try clear c14b1
              try clear c16
              try clear c16b0
              try clear c16b1
              try clear p2
              try clear p6
              obtain ⟨x11_2, x12_2, x13_2, rfl, rfl, rfl, HA, HK2, ⟨m2, rfl⟩⟩ := hrel
              cases gk with
              | zero => exact absurd HA.out (by simp [caravelref01_Whole.l0])
              | succ k2 =>
                have H := HA.out
                clear HA
                simp only [caravelref01_Whole.l0] at H
                by_cases c17 : x13_2 ≤ 1
                · rw [if_pos c17] at H
                  have c17b0 : decide (x13_2 ≤ 1) = true := decide_eq_true c17
                  clear c17
                  have HC18 := Aside0.mk H
                  clear H
                  go_upto_region 12 with (fail)
                  go_cut [66] (fun v66 wc => ∃ (kq : Nat) (x66_17 : Bool), v66 = .bool x66_17 ∧ Aside0 (caravelref01_Whole.j2 kq ji15 (wrap64 (a2 + 1)) (wrap64 ((wrap64 ((wrap64 (Int.tdiv (wrap64 (a2 + 1)) (ji15))) * (ji15))) + (wrap64 (a0)))) x11_2 x12_2 x13_2 (wrap64 ((wrap64 ((wrap64 ((wrap64 (Int.tdiv (wrap64 (a2 + 1)) (ji15))) * (ji15))) + (wrap64 (a0)))) + (wrap64 (x13_2 * ji15)))) x66_17 = some (r1, r2)) ∧ Aside0 (kq ≤ k2) ∧ Drawn0 w wc)
                  case first =>
                    have H := HC18.out
                    clear HC18
                    by_cases c19 : (wrap64 ((wrap64 ((wrap64 ((wrap64 (Int.tdiv (wrap64 (a2 + 1)) (ji15))) * (ji15))) + (wrap64 (a0)))) + (wrap64 (x13_2 * ji15)))) < 0
                    · rw [if_pos c19] at H
                      have c19b0 : decide ((wrap64 ((wrap64 ((wrap64 ((wrap64 (Int.tdiv (wrap64 (a2 + 1)) (ji15))) * (ji15))) + (wrap64 (a0)))) + (wrap64 (x13_2 * ji15)))) < 0) = true := decide_eq_true c19
                      clear c19
                      (first | rw [c19b0] | (simp only [i64_w, i32_w]; rw [c19b0]) | skip)
                      have H' := Aside0.mk H
                      clear H
                      go_wp2
                      go_meet
                      case rel => exact ⟨_, (true), (by first | rfl | (simp; done) | (simp [*]; done)), H', ⟨by have := HJ3.out; have := HK2.out; first | omega | exact Nat.le_refl _⟩, by repeat (first | exact Drawn0.refl _ | apply Drawn0.step)⟩
                    · rw [if_neg c19] at H
                      have c19b0 : decide ((wrap64 ((wrap64 ((wrap64 ((wrap64 (Int.tdiv (wrap64 (a2 + 1)) (ji15))) * (ji15))) + (wrap64 (a0)))) + (wrap64 (x13_2 * ji15)))) < 0) = false := decide_eq_false c19
                      clear c19
                      (first | rw [c19b0] | (simp only [i64_w, i32_w]; rw [c19b0]) | skip)
                      have H' := Aside0.mk H
                      clear H
                      go_wp2
                      go_meet
                      case rel => exact ⟨_, (decide ((wrap64 ((wrap64 ((wrap64 ((wrap64 (Int.tdiv (wrap64 (a2 + 1)) (ji15))) * (ji15))) + (wrap64 (a0)))) + (wrap64 (x13_2 * ji15)))) > 4611686018427387903)), (by first | rfl | (simp; done) | (simp only [← hji15] <;> (first | rfl | simp)) | (simp [*]; done)), H', ⟨by have := HJ3.out; have := HK2.out; first | omega | exact Nat.le_refl _⟩, by repeat (first | exact Drawn0.refl _ | apply Drawn0.step)⟩
                  case rest =>
                    clear HC18
                    try clear c1
                    try clear p2
                    try clear c3
                    try clear c5
                    try clear c5b0
                    try clear c6
                    try clear c6b0
                    try clear p6
                    try clear c8
                    try clear c8b0
                    try clear c8b1
                    try clear c10
                    try clear c10b0
                    try clear c11
                    try clear c11b0
                    try clear c12
                    try clear c14
                    try clear c14b0
                    try clear c14b1
                    try clear c16
                    try clear c16b0
                    try clear c16b1
                    try clear c17
                    try clear c17b0
                    try clear c18
                    try clear c19
                    try clear c19b0
                    try clear p2
                    try clear p6
                    obtain ⟨kq, x66_17, rfl, HA, HJ17, ⟨mc17, rfl⟩⟩ := hcut
                    cases kq with
                    | zero => exact absurd HA.out (by simp [caravelref01_Whole.j2])
                    | succ kj17 =>
                      have H := HA.out
                      clear HA
                      simp only [caravelref01_Whole.j2] at H
                      by_cases c20 : x66_17 = true
                      · subst c20
                        have H1 : (caravelref01_Whole.l0 kj17 ji15 (wrap64 (a2 + 1)) (wrap64 ((wrap64 ((wrap64 (Int.tdiv (wrap64 (a2 + 1)) (ji15))) * (ji15))) + (wrap64 (a0)))) x11_2 x12_2 (wrap64 (x13_2 + 1))) = some (r1, r2) := by rw [if_pos rfl] at H; exact H
                        clear H
                        have H := H1
                        clear H1
                        have H' := Aside0.mk H
                        clear H
                        go_wp2
                        go_roundg kj17
                        case measure => have := HJ3.out; have := HK2.out; have := HJ17.out; omega
                        case rel => exact ⟨(x11_2), (x12_2), (wrap64 (x13_2 + 1)), (by first | rfl | (simp; done) | (simp [*]; done)), (by first | rfl | (simp; done) | (simp [*]; done)), (by first | rfl | (simp; done) | (simp [*]; done)), H', ⟨by have := HJ3.out; have := HK2.out; have := HJ17.out; omega⟩, by repeat (first | exact Drawn0.refl _ | apply Drawn0.step)⟩
                      · replace c20 := Bool.eq_false_iff.mpr c20
                        subst c20
                        have H1 : (if (wrap64 ((wrap64 ((wrap64 ((wrap64 ((wrap64 (Int.tdiv (wrap64 (a2 + 1)) (ji15))) * (ji15))) + (wrap64 (a0)))) + (wrap64 (x13_2 * ji15)))) - (wrap64 (a2 + 1)))) < 0 then (if x11_2 < 0 then (caravelref01_Whole.l0 kj17 ji15 (wrap64 (a2 + 1)) (wrap64 ((wrap64 ((wrap64 (Int.tdiv (wrap64 (a2 + 1)) (ji15))) * (ji15))) + (wrap64 (a0)))) (wrap64 ((wrap64 ((wrap64 ((wrap64 (Int.tdiv (wrap64 (a2 + 1)) (ji15))) * (ji15))) + (wrap64 (a0)))) + (wrap64 (x13_2 * ji15)))) (wrap64 (-(wrap64 ((wrap64 ((wrap64 ((wrap64 ((wrap64 (Int.tdiv (wrap64 (a2 + 1)) (ji15))) * (ji15))) + (wrap64 (a0)))) + (wrap64 (x13_2 * ji15)))) - (wrap64 (a2 + 1)))))) (wrap64 (x13_2 + 1))) else (if (wrap64 (-(wrap64 ((wrap64 ((wrap64 ((wrap64 ((wrap64 (Int.tdiv (wrap64 (a2 + 1)) (ji15))) * (ji15))) + (wrap64 (a0)))) + (wrap64 (x13_2 * ji15)))) - (wrap64 (a2 + 1)))))) ≤ x12_2 then (caravelref01_Whole.l0 kj17 ji15 (wrap64 (a2 + 1)) (wrap64 ((wrap64 ((wrap64 (Int.tdiv (wrap64 (a2 + 1)) (ji15))) * (ji15))) + (wrap64 (a0)))) (wrap64 ((wrap64 ((wrap64 ((wrap64 (Int.tdiv (wrap64 (a2 + 1)) (ji15))) * (ji15))) + (wrap64 (a0)))) + (wrap64 (x13_2 * ji15)))) (wrap64 (-(wrap64 ((wrap64 ((wrap64 ((wrap64 ((wrap64 (Int.tdiv (wrap64 (a2 + 1)) (ji15))) * (ji15))) + (wrap64 (a0)))) + (wrap64 (x13_2 * ji15)))) - (wrap64 (a2 + 1)))))) (wrap64 (x13_2 + 1))) else (caravelref01_Whole.l0 kj17 ji15 (wrap64 (a2 + 1)) (wrap64 ((wrap64 ((wrap64 (Int.tdiv (wrap64 (a2 + 1)) (ji15))) * (ji15))) + (wrap64 (a0)))) x11_2 x12_2 (wrap64 (x13_2 + 1))))) else (if x11_2 < 0 then (caravelref01_Whole.l0 kj17 ji15 (wrap64 (a2 + 1)) (wrap64 ((wrap64 ((wrap64 (Int.tdiv (wrap64 (a2 + 1)) (ji15))) * (ji15))) + (wrap64 (a0)))) (wrap64 ((wrap64 ((wrap64 ((wrap64 (Int.tdiv (wrap64 (a2 + 1)) (ji15))) * (ji15))) + (wrap64 (a0)))) + (wrap64 (x13_2 * ji15)))) (wrap64 ((wrap64 ((wrap64 ((wrap64 ((wrap64 (Int.tdiv (wrap64 (a2 + 1)) (ji15))) * (ji15))) + (wrap64 (a0)))) + (wrap64 (x13_2 * ji15)))) - (wrap64 (a2 + 1)))) (wrap64 (x13_2 + 1))) else (if (wrap64 ((wrap64 ((wrap64 ((wrap64 ((wrap64 (Int.tdiv (wrap64 (a2 + 1)) (ji15))) * (ji15))) + (wrap64 (a0)))) + (wrap64 (x13_2 * ji15)))) - (wrap64 (a2 + 1)))) ≤ x12_2 then (caravelref01_Whole.l0 kj17 ji15 (wrap64 (a2 + 1)) (wrap64 ((wrap64 ((wrap64 (Int.tdiv (wrap64 (a2 + 1)) (ji15))) * (ji15))) + (wrap64 (a0)))) (wrap64 ((wrap64 ((wrap64 ((wrap64 (Int.tdiv (wrap64 (a2 + 1)) (ji15))) * (ji15))) + (wrap64 (a0)))) + (wrap64 (x13_2 * ji15)))) (wrap64 ((wrap64 ((wrap64 ((wrap64 ((wrap64 (Int.tdiv (wrap64 (a2 + 1)) (ji15))) * (ji15))) + (wrap64 (a0)))) + (wrap64 (x13_2 * ji15)))) - (wrap64 (a2 + 1)))) (wrap64 (x13_2 + 1))) else (caravelref01_Whole.l0 kj17 ji15 (wrap64 (a2 + 1)) (wrap64 ((wrap64 ((wrap64 (Int.tdiv (wrap64 (a2 + 1)) (ji15))) * (ji15))) + (wrap64 (a0)))) x11_2 x12_2 (wrap64 (x13_2 + 1)))))) = some (r1, r2) := by rw [if_neg (show ¬ (false = true) by decide)] at H; exact H
                        clear H
                        have H := H1
                        clear H1
                        by_cases c21 : (wrap64 ((wrap64 ((wrap64 ((wrap64 ((wrap64 (Int.tdiv (wrap64 (a2 + 1)) (ji15))) * (ji15))) + (wrap64 (a0)))) + (wrap64 (x13_2 * ji15)))) - (wrap64 (a2 + 1)))) < 0
                        · rw [if_pos c21] at H
                          have c21b0 : decide ((wrap64 ((wrap64 ((wrap64 ((wrap64 ((wrap64 (Int.tdiv (wrap64 (a2 + 1)) (ji15))) * (ji15))) + (wrap64 (a0)))) + (wrap64 (x13_2 * ji15)))) - (wrap64 (a2 + 1)))) < 0) = true := decide_eq_true c21
                          clear c21
                          by_cases c22 : x11_2 < 0
                          · rw [if_pos c22] at H
                            have c22b0 : decide (x11_2 < 0) = true := decide_eq_true c22
                            clear c22
                            have H' := Aside0.mk H
                            clear H
                            go_wp2
                            go_roundg kj17
                            case measure => have := HJ3.out; have := HK2.out; have := HJ17.out; omega
                            case rel => exact ⟨((wrap64 ((wrap64 ((wrap64 ((wrap64 (Int.tdiv (wrap64 (a2 + 1)) (ji15))) * (ji15))) + (wrap64 (a0)))) + (wrap64 (x13_2 * ji15))))), (wrap64 (-(wrap64 ((wrap64 ((wrap64 ((wrap64 ((wrap64 (Int.tdiv (wrap64 (a2 + 1)) (ji15))) * (ji15))) + (wrap64 (a0)))) + (wrap64 (x13_2 * ji15)))) - (wrap64 (a2 + 1)))))), (wrap64 (x13_2 + 1)), (by first | rfl | (simp; done) | (simp only [← hji15] <;> (first | rfl | simp)) | (simp [*]; done)), (by first | rfl | (simp; done) | (simp only [← hji15] <;> (first | rfl | simp)) | (simp [*]; done)), (by first | rfl | (simp; done) | (simp [*]; done)), H', ⟨by have := HJ3.out; have := HK2.out; have := HJ17.out; omega⟩, by repeat (first | exact Drawn0.refl _ | apply Drawn0.step)⟩
                          · rw [if_neg c22] at H
                            have c22b0 : decide (x11_2 < 0) = false := decide_eq_false c22
                            clear c22
                            by_cases c23 : (wrap64 (-(wrap64 ((wrap64 ((wrap64 ((wrap64 ((wrap64 (Int.tdiv (wrap64 (a2 + 1)) (ji15))) * (ji15))) + (wrap64 (a0)))) + (wrap64 (x13_2 * ji15)))) - (wrap64 (a2 + 1)))))) ≤ x12_2
                            · rw [if_pos c23] at H
                              have c23b0 : decide ((wrap64 (-(wrap64 ((wrap64 ((wrap64 ((wrap64 ((wrap64 (Int.tdiv (wrap64 (a2 + 1)) (ji15))) * (ji15))) + (wrap64 (a0)))) + (wrap64 (x13_2 * ji15)))) - (wrap64 (a2 + 1)))))) ≤ x12_2) = true := decide_eq_true c23
                              clear c23
                              have H' := Aside0.mk H
                              clear H
                              go_wp2
                              go_roundg kj17
                              case measure => have := HJ3.out; have := HK2.out; have := HJ17.out; omega
                              case rel => exact ⟨((wrap64 ((wrap64 ((wrap64 ((wrap64 (Int.tdiv (wrap64 (a2 + 1)) (ji15))) * (ji15))) + (wrap64 (a0)))) + (wrap64 (x13_2 * ji15))))), (wrap64 (-(wrap64 ((wrap64 ((wrap64 ((wrap64 ((wrap64 (Int.tdiv (wrap64 (a2 + 1)) (ji15))) * (ji15))) + (wrap64 (a0)))) + (wrap64 (x13_2 * ji15)))) - (wrap64 (a2 + 1)))))), (wrap64 (x13_2 + 1)), (by first | rfl | (simp; done) | (simp only [← hji15] <;> (first | rfl | simp)) | (simp [*]; done)), (by first | rfl | (simp; done) | (simp only [← hji15] <;> (first | rfl | simp)) | (simp [*]; done)), (by first | rfl | (simp; done) | (simp [*]; done)), H', ⟨by have := HJ3.out; have := HK2.out; have := HJ17.out; omega⟩, by repeat (first | exact Drawn0.refl _ | apply Drawn0.step)⟩
                            · rw [if_neg c23] at H
                              have c23b0 : decide ((wrap64 (-(wrap64 ((wrap64 ((wrap64 ((wrap64 ((wrap64 (Int.tdiv (wrap64 (a2 + 1)) (ji15))) * (ji15))) + (wrap64 (a0)))) + (wrap64 (x13_2 * ji15)))) - (wrap64 (a2 + 1)))))) ≤ x12_2) = false := decide_eq_false c23
                              clear c23
                              have H' := Aside0.mk H
                              clear H
                              go_wp2
                              go_roundg kj17
                              case measure => have := HJ3.out; have := HK2.out; have := HJ17.out; omega
                              case rel => exact ⟨(x11_2), (x12_2), (wrap64 (x13_2 + 1)), (by first | rfl | (simp; done) | (simp [*]; done)), (by first | rfl | (simp; done) | (simp [*]; done)), (by first | rfl | (simp; done) | (simp [*]; done)), H', ⟨by have := HJ3.out; have := HK2.out; have := HJ17.out; omega⟩, by repeat (first | exact Drawn0.refl _ | apply Drawn0.step)⟩
                        · rw [if_neg c21] at H
                          have c21b0 : decide ((wrap64 ((wrap64 ((wrap64 ((wrap64 ((wrap64 (Int.tdiv (wrap64 (a2 + 1)) (ji15))) * (ji15))) + (wrap64 (a0)))) + (wrap64 (x13_2 * ji15)))) - (wrap64 (a2 + 1)))) < 0) = false := decide_eq_false c21
                          clear c21
                          by_cases c24 : x11_2 < 0
                          · rw [if_pos c24] at H
                            have c24b0 : decide (x11_2 < 0) = true := decide_eq_true c24
                            clear c24
                            have H' := Aside0.mk H
                            clear H
                            go_wp2
                            go_roundg kj17
                            case measure => have := HJ3.out; have := HK2.out; have := HJ17.out; omega
                            case rel => exact ⟨((wrap64 ((wrap64 ((wrap64 ((wrap64 (Int.tdiv (wrap64 (a2 + 1)) (ji15))) * (ji15))) + (wrap64 (a0)))) + (wrap64 (x13_2 * ji15))))), (wrap64 ((wrap64 ((wrap64 ((wrap64 ((wrap64 (Int.tdiv (wrap64 (a2 + 1)) (ji15))) * (ji15))) + (wrap64 (a0)))) + (wrap64 (x13_2 * ji15)))) - (wrap64 (a2 + 1)))), (wrap64 (x13_2 + 1)), (by first | rfl | (simp; done) | (simp only [← hji15] <;> (first | rfl | simp)) | (simp [*]; done)), (by first | rfl | (simp; done) | (simp only [← hji15] <;> (first | rfl | simp)) | (simp [*]; done)), (by first | rfl | (simp; done) | (simp [*]; done)), H', ⟨by have := HJ3.out; have := HK2.out; have := HJ17.out; omega⟩, by repeat (first | exact Drawn0.refl _ | apply Drawn0.step)⟩
                          · rw [if_neg c24] at H
                            have c24b0 : decide (x11_2 < 0) = false := decide_eq_false c24
                            clear c24
                            by_cases c25 : (wrap64 ((wrap64 ((wrap64 ((wrap64 ((wrap64 (Int.tdiv (wrap64 (a2 + 1)) (ji15))) * (ji15))) + (wrap64 (a0)))) + (wrap64 (x13_2 * ji15)))) - (wrap64 (a2 + 1)))) ≤ x12_2
                            · rw [if_pos c25] at H
                              have c25b0 : decide ((wrap64 ((wrap64 ((wrap64 ((wrap64 ((wrap64 (Int.tdiv (wrap64 (a2 + 1)) (ji15))) * (ji15))) + (wrap64 (a0)))) + (wrap64 (x13_2 * ji15)))) - (wrap64 (a2 + 1)))) ≤ x12_2) = true := decide_eq_true c25
                              clear c25
                              have H' := Aside0.mk H
                              clear H
                              go_wp2
                              go_roundg kj17
                              case measure => have := HJ3.out; have := HK2.out; have := HJ17.out; omega
                              case rel => exact ⟨((wrap64 ((wrap64 ((wrap64 ((wrap64 (Int.tdiv (wrap64 (a2 + 1)) (ji15))) * (ji15))) + (wrap64 (a0)))) + (wrap64 (x13_2 * ji15))))), (wrap64 ((wrap64 ((wrap64 ((wrap64 ((wrap64 (Int.tdiv (wrap64 (a2 + 1)) (ji15))) * (ji15))) + (wrap64 (a0)))) + (wrap64 (x13_2 * ji15)))) - (wrap64 (a2 + 1)))), (wrap64 (x13_2 + 1)), (by first | rfl | (simp; done) | (simp only [← hji15] <;> (first | rfl | simp)) | (simp [*]; done)), (by first | rfl | (simp; done) | (simp only [← hji15] <;> (first | rfl | simp)) | (simp [*]; done)), (by first | rfl | (simp; done) | (simp [*]; done)), H', ⟨by have := HJ3.out; have := HK2.out; have := HJ17.out; omega⟩, by repeat (first | exact Drawn0.refl _ | apply Drawn0.step)⟩
                            · rw [if_neg c25] at H
                              have c25b0 : decide ((wrap64 ((wrap64 ((wrap64 ((wrap64 ((wrap64 (Int.tdiv (wrap64 (a2 + 1)) (ji15))) * (ji15))) + (wrap64 (a0)))) + (wrap64 (x13_2 * ji15)))) - (wrap64 (a2 + 1)))) ≤ x12_2) = false := decide_eq_false c25
                              clear c25
                              have H' := Aside0.mk H
                              clear H
                              go_wp2
                              go_roundg kj17
                              case measure => have := HJ3.out; have := HK2.out; have := HJ17.out; omega
                              case rel => exact ⟨(x11_2), (x12_2), (wrap64 (x13_2 + 1)), (by first | rfl | (simp; done) | (simp [*]; done)), (by first | rfl | (simp; done) | (simp [*]; done)), (by first | rfl | (simp; done) | (simp [*]; done)), H', ⟨by have := HJ3.out; have := HK2.out; have := HJ17.out; omega⟩, by repeat (first | exact Drawn0.refl _ | apply Drawn0.step)⟩
                · rw [if_neg c17] at H
                  have c17b0 : decide (x13_2 ≤ 1) = false := decide_eq_false c17
                  clear c17
                  simp only [Option.some.injEq, Prod.mk.injEq] at H
                  obtain ⟨rfl, rfl⟩ := H
                  go_wp2
                  go_ret2
                  exact ⟨by first | rfl | (simp; done) | (simp only [← hji13, ← hji15] <;> (first | rfl | simp)) | (simp [*]; done), by repeat (first | exact Drawn0.refl _ | apply Drawn0.step)⟩
        · rw [if_neg c14] at H
          exact absurd H (by simp)

/-! ### caravellaw01_names: function 19 -/
def caravellaw01_names.f  : Option (Bool) := some true
set_option maxHeartbeats 8000000 in
set_option maxRecDepth 100000 in
theorem caravellaw01_names.calls  (r : Bool) (w : World) (h : caravellaw01_names.f  = some r) :
    Calls Try.prog 19 #[] w fun e w' => e = .returned (.bool r) ∧ Drawn0 w w' := by
  have H : (some true) = some r := h
  clear h
  obtain rfl := Option.some.inj H
  go_enter Try.func19, Try.ntmps19
  go_wp2
  go_ret
  exact ⟨by first | rfl | (simp; done) | (simp [*]; done), by repeat (first | exact Drawn0.refl _ | apply Drawn0.step)⟩

/-! ### caravellaw01_OctetShort: function 4 -/
mutual
def caravellaw01_OctetShort.j0 : Nat → Int → Int → Bool → Option (Bool)
  | 0, _, _, _ => none
  | k + 1, x1, x2, x36 => if x36 = true then (some false) else (caravellaw01_OctetShort.l0 k x1 x2 0)
def caravellaw01_OctetShort.l0 : Nat → Int → Int → Int → Option (Bool)
  | 0, _, _, _ => none
  | k + 1, x1, x2, x11 => if x11 ≤ 5 then (if x11 ≥ 1 then (if x11 ≤ 4 then (caravellaw01_OctetShort.j2 k x1 x2 x11 x2 (decide ((Int.tmod x2 3) > 0))) else (caravellaw01_OctetShort.j2 k x1 x2 x11 x2 false)) else (caravellaw01_OctetShort.j2 k x1 x2 x11 x2 false)) else ((caravellaw01_names.f).bind fun t107 => (some t107))
def caravellaw01_OctetShort.j2 : Nat → Int → Int → Int → Int → Bool → Option (Bool)
  | 0, _, _, _, _, _ => none
  | k + 1, x1, x2, x11, x12, x52 => if x52 = true then (if 0 ≤ (IntKind.u64.wrap (wrap64 (8 * x11))) then (caravellaw01_OctetShort.j3 k x1 x2 x11 (Go.bits .and .u64 x2 (IntKind.u64.wrap ((shl .u64 1 (IntKind.u64.wrap (wrap64 (8 * x11)))) - 1)))) else (none)) else (caravellaw01_OctetShort.j3 k x1 x2 x11 x12)
def caravellaw01_OctetShort.j3 : Nat → Int → Int → Int → Int → Option (Bool)
  | 0, _, _, _, _ => none
  | k + 1, x1, x2, x11, x12 => (octet_Whole.f k x12 x11 x1).bind fun bt108 => ((caravelref01_Whole.f k x12 x11 x1).bind fun bt110 => (if bt108.1 = bt110.1 then (if bt108.2 = bt110.2 then (caravellaw01_OctetShort.l0 k x1 x2 (wrap64 (x11 + 1))) else (some false)) else (some false)))
end
def caravellaw01_OctetShort.f (k : Nat) (a0 : Int) (a1 : Int) (a2 : Int) : Option (Bool) := (octet_Short.f a0 a1).bind fun bt103 => ((caravelref01_Short.f k a0 a1).bind fun bt105 => (if bt103.1 = bt105.1 then (caravellaw01_OctetShort.j0 k a1 a2 (bt103.2 != bt105.2)) else (caravellaw01_OctetShort.j0 k a1 a2 true)))
theorem caravellaw01_OctetShort.mono_l : ∀ k, (∀ y0 y1 y2, LeO (caravellaw01_OctetShort.j0 k y0 y1 y2) (caravellaw01_OctetShort.j0 (k + 1) y0 y1 y2)) ∧ (∀ y0 y1 y2, LeO (caravellaw01_OctetShort.l0 k y0 y1 y2) (caravellaw01_OctetShort.l0 (k + 1) y0 y1 y2)) ∧ (∀ y0 y1 y2 y3 y4, LeO (caravellaw01_OctetShort.j2 k y0 y1 y2 y3 y4) (caravellaw01_OctetShort.j2 (k + 1) y0 y1 y2 y3 y4)) ∧ (∀ y0 y1 y2 y3, LeO (caravellaw01_OctetShort.j3 k y0 y1 y2 y3) (caravellaw01_OctetShort.j3 (k + 1) y0 y1 y2 y3))
  | 0 => ⟨fun _ _ _ r h => by simp [caravellaw01_OctetShort.j0] at h, fun _ _ _ r h => by simp [caravellaw01_OctetShort.l0] at h, fun _ _ _ _ _ r h => by simp [caravellaw01_OctetShort.j2] at h, fun _ _ _ _ r h => by simp [caravellaw01_OctetShort.j3] at h⟩
  | k + 1 => by
    obtain ⟨ih0, ih1, ih2, ih3⟩ := caravellaw01_OctetShort.mono_l k
    refine ⟨?_, ?_, ?_, ?_⟩
    · intro y0 y1 y2
      unfold caravellaw01_OctetShort.j0
      repeat' first
      | (with_reducible exact ih0 _ _ _)
      | (with_reducible exact ih1 _ _ _)
      | (with_reducible exact ih2 _ _ _ _ _)
      | (with_reducible exact ih3 _ _ _ _)
      | (with_reducible exact caravelref01_Short.mono _ _ _)
      | (with_reducible exact caravelref01_Whole.mono _ _ _ _)
      | (with_reducible exact octet_Whole.mono _ _ _ _)
      | (with_reducible exact LeO.refl _)
      | (with_reducible exact LeO.none _)
      | (with_reducible refine LeO.ite ?_ ?_)
      | (with_reducible refine LeO.bind ?_ (fun _ => ?_))
      | exact ih0 _ _ _
      | exact ih1 _ _ _
      | exact ih2 _ _ _ _ _
      | exact ih3 _ _ _ _
      | exact caravelref01_Short.mono _ _ _
      | exact caravelref01_Whole.mono _ _ _ _
      | exact octet_Whole.mono _ _ _ _
      | exact LeO.none _
      | refine LeO.ite ?_ ?_
      | refine LeO.bind ?_ (fun _ => ?_)
    · intro y0 y1 y2
      unfold caravellaw01_OctetShort.l0
      repeat' first
      | (with_reducible exact ih0 _ _ _)
      | (with_reducible exact ih1 _ _ _)
      | (with_reducible exact ih2 _ _ _ _ _)
      | (with_reducible exact ih3 _ _ _ _)
      | (with_reducible exact caravelref01_Short.mono _ _ _)
      | (with_reducible exact caravelref01_Whole.mono _ _ _ _)
      | (with_reducible exact octet_Whole.mono _ _ _ _)
      | (with_reducible exact LeO.refl _)
      | (with_reducible exact LeO.none _)
      | (with_reducible refine LeO.ite ?_ ?_)
      | (with_reducible refine LeO.bind ?_ (fun _ => ?_))
      | exact ih0 _ _ _
      | exact ih1 _ _ _
      | exact ih2 _ _ _ _ _
      | exact ih3 _ _ _ _
      | exact caravelref01_Short.mono _ _ _
      | exact caravelref01_Whole.mono _ _ _ _
      | exact octet_Whole.mono _ _ _ _
      | exact LeO.none _
      | refine LeO.ite ?_ ?_
      | refine LeO.bind ?_ (fun _ => ?_)
    · intro y0 y1 y2 y3 y4
      unfold caravellaw01_OctetShort.j2
      repeat' first
      | (with_reducible exact ih0 _ _ _)
      | (with_reducible exact ih1 _ _ _)
      | (with_reducible exact ih2 _ _ _ _ _)
      | (with_reducible exact ih3 _ _ _ _)
      | (with_reducible exact caravelref01_Short.mono _ _ _)
      | (with_reducible exact caravelref01_Whole.mono _ _ _ _)
      | (with_reducible exact octet_Whole.mono _ _ _ _)
      | (with_reducible exact LeO.refl _)
      | (with_reducible exact LeO.none _)
      | (with_reducible refine LeO.ite ?_ ?_)
      | (with_reducible refine LeO.bind ?_ (fun _ => ?_))
      | exact ih0 _ _ _
      | exact ih1 _ _ _
      | exact ih2 _ _ _ _ _
      | exact ih3 _ _ _ _
      | exact caravelref01_Short.mono _ _ _
      | exact caravelref01_Whole.mono _ _ _ _
      | exact octet_Whole.mono _ _ _ _
      | exact LeO.none _
      | refine LeO.ite ?_ ?_
      | refine LeO.bind ?_ (fun _ => ?_)
    · intro y0 y1 y2 y3
      unfold caravellaw01_OctetShort.j3
      repeat' first
      | (with_reducible exact ih0 _ _ _)
      | (with_reducible exact ih1 _ _ _)
      | (with_reducible exact ih2 _ _ _ _ _)
      | (with_reducible exact ih3 _ _ _ _)
      | (with_reducible exact caravelref01_Short.mono _ _ _)
      | (with_reducible exact caravelref01_Whole.mono _ _ _ _)
      | (with_reducible exact octet_Whole.mono _ _ _ _)
      | (with_reducible exact LeO.refl _)
      | (with_reducible exact LeO.none _)
      | (with_reducible refine LeO.ite ?_ ?_)
      | (with_reducible refine LeO.bind ?_ (fun _ => ?_))
      | exact ih0 _ _ _
      | exact ih1 _ _ _
      | exact ih2 _ _ _ _ _
      | exact ih3 _ _ _ _
      | exact caravelref01_Short.mono _ _ _
      | exact caravelref01_Whole.mono _ _ _ _
      | exact octet_Whole.mono _ _ _ _
      | exact LeO.none _
      | refine LeO.ite ?_ ?_
      | refine LeO.bind ?_ (fun _ => ?_)
theorem caravellaw01_OctetShort.mono : ∀ a0 a1 a2 k, LeO (caravellaw01_OctetShort.f k a0 a1 a2) (caravellaw01_OctetShort.f (k + 1) a0 a1 a2) := by
  intro a0 a1 a2 k
  obtain ⟨ih0, ih1, ih2, ih3⟩ := caravellaw01_OctetShort.mono_l k
  unfold caravellaw01_OctetShort.f
  repeat' first
      | (with_reducible exact ih0 _ _ _)
      | (with_reducible exact ih1 _ _ _)
      | (with_reducible exact ih2 _ _ _ _ _)
      | (with_reducible exact ih3 _ _ _ _)
      | (with_reducible exact caravelref01_Short.mono _ _ _)
      | (with_reducible exact caravelref01_Whole.mono _ _ _ _)
      | (with_reducible exact octet_Whole.mono _ _ _ _)
      | (with_reducible exact LeO.refl _)
      | (with_reducible exact LeO.none _)
      | (with_reducible refine LeO.ite ?_ ?_)
      | (with_reducible refine LeO.bind ?_ (fun _ => ?_))
      | exact ih0 _ _ _
      | exact ih1 _ _ _
      | exact ih2 _ _ _ _ _
      | exact ih3 _ _ _ _
      | exact caravelref01_Short.mono _ _ _
      | exact caravelref01_Whole.mono _ _ _ _
      | exact octet_Whole.mono _ _ _ _
      | exact LeO.none _
      | refine LeO.ite ?_ ?_
      | refine LeO.bind ?_ (fun _ => ?_)
set_option maxHeartbeats 8000000 in
set_option maxRecDepth 100000 in
theorem caravellaw01_OctetShort.calls (k : Nat) (a0 : Int) (a1 : Int) (a2 : Int) (r : Bool) (w : World) (h : caravellaw01_OctetShort.f k a0 a1 a2 = some r) :
    Calls Try.prog 4 #[.int .i64 a0, .int .i64 a1, .int .u64 a2] w fun e w' => e = .returned (.bool r) ∧ Below w.heap.size w w' := by
  have HB := Aside0.mk (Below.refl w.heap.size w)
  have H : ((octet_Short.f a0 a1).bind fun bt103 => ((caravelref01_Short.f k a0 a1).bind fun bt105 => (if bt103.1 = bt105.1 then (caravellaw01_OctetShort.j0 k a1 a2 (bt103.2 != bt105.2)) else (caravellaw01_OctetShort.j0 k a1 a2 true)))) = some r := h
  clear h
  replace H := Option.bind_eq_some_iff.mp H
  obtain ⟨⟨t103, t104⟩, A40, H⟩ := H
  replace H : ((caravelref01_Short.f k a0 a1).bind fun bt105 => (if t103 = bt105.1 then (caravellaw01_OctetShort.j0 k a1 a2 (t104 != bt105.2)) else (caravellaw01_OctetShort.j0 k a1 a2 true))) = some r := H
  have A4 := Aside0.mk A40
  clear A40
  replace H := Option.bind_eq_some_iff.mp H
  obtain ⟨⟨t105, t106⟩, A50, H⟩ := H
  replace H : (if t103 = t105 then (caravellaw01_OctetShort.j0 k a1 a2 (t104 != t106)) else (caravellaw01_OctetShort.j0 k a1 a2 true)) = some r := H
  have A5 := Aside0.mk A50
  clear A50
  have HC6 := Aside0.mk H
  clear H
  go_enter Try.func4, Try.ntmps4
  go_upto_region 3 with (first | ((with_reducible refine gate_callee (f := 15) rfl ?_); refine goesL_ (some 20) rfl rfl Try.func15 (by kernel_rfl) rfl #[.int .i64 a0, .int .i64 a1] rfl (by (try simp only [List.map_toArray, List.map_cons, List.map_nil]); first | done | rfl | (simp only [List.length_drop, List.length_take]; rfl)) ?_; (with_reducible refine (octet_Short.calls a0 a1 t103 t104 _ A4.out).mono ?_); rintro e w7 ⟨rfl, hb⟩; refine ⟨_, rfl, ?_⟩; have n0_ := Aside0.mk (below_step (by repeat (first | (with_reducible first | exact HB.out | apply below_alloc | apply pw_below_drewN | apply below_drew1) | exact HB.out)) hb); clear HB; have HB := n0_; clear n0_; (try clear hb); (try clear hb2); (try clear hk); (try clear hi)) | ((with_reducible refine gate_callee (f := 16) rfl ?_); refine goesL_ (some 26) rfl rfl Try.func16 (by kernel_rfl) rfl #[.int .i64 a0, .int .i64 a1] rfl (by (try simp only [List.map_toArray, List.map_cons, List.map_nil]); first | done | rfl | (simp only [List.length_drop, List.length_take]; rfl)) ?_; (with_reducible refine (caravelref01_Short.calls k a0 a1 t105 t106 _ A5.out).mono ?_); rintro e w' ⟨rfl, ⟨nd, rfl⟩⟩; refine ⟨_, rfl, ?_⟩))
  (try simp only [Act.put, List.setIfInBounds_toArray, List.set_cons_zero, List.set_cons_succ])
  go_cut [36] (fun v36 wc => ∃ (kq : Nat) (x36_5 : Bool), v36 = .bool x36_5 ∧ Aside0 (caravellaw01_OctetShort.j0 kq a1 a2 x36_5 = some r) ∧ Aside0 (kq ≤ k) ∧ Aside0 (Below w.heap.size w wc))
  case first =>
    have H := HC6.out
    clear HC6
    by_cases c8 : t103 = t105
    · rw [if_pos c8] at H
      have c8b0 : (t103 == t105) = true := beq_iff_eq.mpr c8
      have c8b1 : (t103 != t105) = false := bne_eq_false_iff_eq.mpr c8
      clear c8
      (first | rw [c8b0] | (simp only [i64_w, i32_w]; rw [c8b0]) | skip)
      have H' := Aside0.mk H
      clear H
      go_wp2
      go_meet
      case rel => exact ⟨_, ((t104 != t106)), (by first | rfl | (simp; done) | (simp [*]; done)), H', ⟨by first | omega | exact Nat.le_refl _⟩, ⟨by repeat (first | (with_reducible first | exact HB.out | apply below_alloc | apply pw_below_drewN | apply below_drew1) | exact HB.out)⟩⟩
    · rw [if_neg c8] at H
      have c8b0 : (t103 == t105) = false := beq_eq_false_iff_ne.mpr c8
      have c8b1 : (t103 != t105) = true := bne_iff_ne.mpr c8
      (first | rw [c8b0] | (simp only [i64_w, i32_w]; rw [c8b0]) | skip)
      have H' := Aside0.mk H
      clear H
      go_wp2
      go_meet
      case rel => exact ⟨_, (true), (by first | rfl | (simp; done) | (simp [*]; done)), H', ⟨by first | omega | exact Nat.le_refl _⟩, ⟨by repeat (first | (with_reducible first | exact HB.out | apply below_alloc | apply pw_below_drewN | apply below_drew1) | exact HB.out)⟩⟩
  case rest =>
    clear HC6
    try clear c1
    try clear p2
    try clear c4
    try clear c8
    try clear c8b0
    try clear c8b1
    obtain ⟨kq, x36_5, rfl, HA, HJ5, HB⟩ := hcut
    cases kq with
    | zero => exact absurd HA.out (by simp [caravellaw01_OctetShort.j0])
    | succ kj5 =>
      have H := HA.out
      clear HA
      simp only [caravellaw01_OctetShort.j0] at H
      by_cases c9 : x36_5 = true
      · subst c9
        have H1 : (some false) = some r := by rw [if_pos rfl] at H; exact H
        clear H
        have H := H1
        clear H1
        obtain rfl := Option.some.inj H
        go_wp2
        go_ret
        exact ⟨by first | rfl | (simp [errW_none, errW_some] <;> rfl) | (simp [*, errW_none, errW_some] <;> rfl), by repeat (first | (with_reducible first | exact HB.out | apply below_alloc | apply pw_below_drewN | apply below_drew1) | exact HB.out)⟩
      · replace c9 := Bool.eq_false_iff.mpr c9
        subst c9
        have H1 : (caravellaw01_OctetShort.l0 kj5 a1 a2 0) = some r := by rw [if_neg (show ¬ (false = true) by decide)] at H; exact H
        clear H
        have H := H1
        clear H1
        have H' := Aside0.mk H
        clear H
        go_wp2
        go_loopg [11] kj5 (fun kq v11 w' => ∃ (x11_2 : Int), v11 = .int .i64 x11_2 ∧ Aside0 (caravellaw01_OctetShort.l0 kq a1 a2 x11_2 = some r) ∧ Aside0 (kq ≤ kj5) ∧ Aside0 (Below w.heap.size w w'))
        case atStart => exact ⟨(0), (by first | rfl | (simp; done) | (simp [*]; done)), H', ⟨Nat.le_refl _⟩, ⟨by repeat (first | (with_reducible first | exact HB.out | apply below_alloc | apply pw_below_drewN | apply below_drew1) | exact HB.out)⟩⟩
        case round =>
          clear H'
          try clear c1
          try clear p2
          try clear c4
          try clear c8
          try clear c8b0
          try clear c8b1
          try clear c9
          try clear p2
          obtain ⟨x11_2, rfl, HA, HK2, HB⟩ := hrel
          cases gk with
          | zero => exact absurd HA.out (by simp [caravellaw01_OctetShort.l0])
          | succ k2 =>
            have H := HA.out
            clear HA
            simp only [caravellaw01_OctetShort.l0] at H
            by_cases c10 : x11_2 ≤ 5
            · rw [if_pos c10] at H
              have c10b0 : decide (x11_2 ≤ 5) = true := decide_eq_true c10
              clear c10
              have HC11 := Aside0.mk H
              clear H
              go_upto_region 9 with (fail)
              go_cut [52] (fun v52 wc => ∃ (kq : Nat) (x52_10 : Bool), v52 = .bool x52_10 ∧ Aside0 (caravellaw01_OctetShort.j2 kq a1 a2 x11_2 a2 x52_10 = some r) ∧ Aside0 (kq ≤ k2) ∧ Aside0 (Below w.heap.size w wc))
              case first =>
                have H := HC11.out
                clear HC11
                by_cases c12 : x11_2 ≥ 1
                · rw [if_pos c12] at H
                  have c12b0 : decide (1 ≤ x11_2) = true := decide_eq_true c12
                  clear c12
                  (first | rw [c12b0] | (simp only [i64_w, i32_w]; rw [c12b0]) | skip)
                  by_cases c13 : x11_2 ≤ 4
                  · rw [if_pos c13] at H
                    have c13b0 : decide (x11_2 ≤ 4) = true := decide_eq_true c13
                    clear c13
                    have H' := Aside0.mk H
                    clear H
                    go_wp2
                    go_meet
                    case rel => exact ⟨_, (decide ((Int.tmod a2 3) > 0)), (by first | rfl | (simp; done) | (simp [*]; done)), H', ⟨by have := HJ5.out; have := HK2.out; first | omega | exact Nat.le_refl _⟩, ⟨by repeat (first | (with_reducible first | exact HB.out | apply below_alloc | apply pw_below_drewN | apply below_drew1) | exact HB.out)⟩⟩
                  · rw [if_neg c13] at H
                    have c13b0 : decide (x11_2 ≤ 4) = false := decide_eq_false c13
                    clear c13
                    have H' := Aside0.mk H
                    clear H
                    go_wp2
                    go_meet
                    case rel => exact ⟨_, (false), (by first | rfl | (simp; done) | (simp [*]; done)), H', ⟨by have := HJ5.out; have := HK2.out; first | omega | exact Nat.le_refl _⟩, ⟨by repeat (first | (with_reducible first | exact HB.out | apply below_alloc | apply pw_below_drewN | apply below_drew1) | exact HB.out)⟩⟩
                · rw [if_neg c12] at H
                  have c12b0 : decide (1 ≤ x11_2) = false := decide_eq_false c12
                  clear c12
                  (first | rw [c12b0] | (simp only [i64_w, i32_w]; rw [c12b0]) | skip)
                  have H' := Aside0.mk H
                  clear H
                  go_wp2
                  go_meet
                  case rel => exact ⟨_, (false), (by first | rfl | (simp; done) | (simp [*]; done)), H', ⟨by have := HJ5.out; have := HK2.out; first | omega | exact Nat.le_refl _⟩, ⟨by repeat (first | (with_reducible first | exact HB.out | apply below_alloc | apply pw_below_drewN | apply below_drew1) | exact HB.out)⟩⟩
              case rest =>
                clear HC11
                try clear c1
                try clear p2
                try clear c4
                try clear c8
                try clear c8b0
                try clear c8b1
                try clear c9
                try clear c10
                try clear c10b0
                try clear c12
                try clear c12b0
                try clear c13
                try clear c13b0
                try clear p2
                obtain ⟨kq, x52_10, rfl, HA, HJ10, HB⟩ := hcut
                cases kq with
                | zero => exact absurd HA.out (by simp [caravellaw01_OctetShort.j2])
                | succ kj10 =>
                  have H := HA.out
                  clear HA
                  simp only [caravellaw01_OctetShort.j2] at H
                  have HC14 := Aside0.mk H
                  clear H
                  go_upto_if 52 with (fail)
                  go_cut [12] (fun v12 wc => ∃ (kq : Nat) (x12_13 : Int), v12 = .int .u64 x12_13 ∧ Aside0 (caravellaw01_OctetShort.j3 kq a1 a2 x11_2 x12_13 = some r) ∧ Aside0 (kq ≤ kj10) ∧ Aside0 (Below w.heap.size w wc))
                  case first =>
                    have H := HC14.out
                    clear HC14
                    by_cases c15 : x52_10 = true
                    · subst c15
                      have H1 : (if 0 ≤ (IntKind.u64.wrap (wrap64 (8 * x11_2))) then (caravellaw01_OctetShort.j3 kj10 a1 a2 x11_2 (Go.bits .and .u64 a2 (IntKind.u64.wrap ((shl .u64 1 (IntKind.u64.wrap (wrap64 (8 * x11_2)))) - 1)))) else (none)) = some r := by rw [if_pos rfl] at H; exact H
                      clear H
                      have H := H1
                      clear H1
                      obtain ⟨ji16, hji16⟩ : ∃ j_ : Int, (IntKind.u64.wrap (wrap64 (8 * x11_2))) = j_ := ⟨_, rfl⟩
                      replace H : (if 0 ≤ (ji16) then (caravellaw01_OctetShort.j3 kj10 a1 a2 x11_2 (Go.bits .and .u64 a2 (IntKind.u64.wrap ((shl .u64 1 (ji16)) - 1)))) else (none)) = some r := by first | (rw [hji16] at H; exact H) | (simp only [hji16] at H ⊢; exact H)
                      by_cases c17 : 0 ≤ (ji16)
                      · rw [if_pos c17] at H
                        have c17b0 := eq_true c17
                        have c17b1 : decide (0 ≤ (ji16)) = true := decide_eq_true c17
                        clear c17
                        obtain ⟨ji18, hji18⟩ : ∃ j_ : Int, (shl .u64 1 (ji16)) = j_ := ⟨_, rfl⟩
                        replace H : (caravellaw01_OctetShort.j3 kj10 a1 a2 x11_2 (Go.bits .and .u64 a2 (IntKind.u64.wrap ((ji18) - 1)))) = some r := by first | (rw [hji18] at H; exact H) | (simp only [hji18] at H ⊢; exact H)
                        have hji18_ : (IntKind.u64.wrap (1 * 2 ^ min (ji16).toNat 64)) = ji18 := hji18
                        have hji18z : (ji16) ≤ 64 → (IntKind.u64.wrap (1 * 2 ^ (ji16).toNat)) = ji18 := shl_small hji18
                        have hji18u : (IntKind.u64.wrap (2 ^ min (ji16).toNat 64)) = ji18 := by have h_ := hji18_; rw [Int.one_mul] at h_; exact h_
                        have hji18v : (ji16) ≤ 64 → (IntKind.u64.wrap (2 ^ (ji16).toNat)) = ji18 := fun hle_ => by have h_ := hji18z hle_; rw [Int.one_mul] at h_; exact h_
                        have H' := Aside0.mk H
                        clear H
                        go_wp2
                        go_meet
                        case rel => exact ⟨_, (Go.bits .and .u64 a2 (IntKind.u64.wrap ((ji18) - 1))), (by first | rfl | (simp; done) | (simp only [← hji18] <;> (first | rfl | simp)) | (simp [*]; done)), H', ⟨by have := HJ5.out; have := HK2.out; have := HJ10.out; first | omega | exact Nat.le_refl _⟩, ⟨by repeat (first | (with_reducible first | exact HB.out | apply below_alloc | apply pw_below_drewN | apply below_drew1) | exact HB.out)⟩⟩
                      · rw [if_neg c17] at H
                        exact absurd H (by simp)
                    · replace c15 := Bool.eq_false_iff.mpr c15
                      subst c15
                      have H1 : (caravellaw01_OctetShort.j3 kj10 a1 a2 x11_2 a2) = some r := by rw [if_neg (show ¬ (false = true) by decide)] at H; exact H
                      clear H
                      have H := H1
                      clear H1
                      have H' := Aside0.mk H
                      clear H
                      go_wp2
                      go_meet
                      case rel => exact ⟨_, (a2), (by first | rfl | (simp; done) | (simp [*]; done)), H', ⟨by have := HJ5.out; have := HK2.out; have := HJ10.out; first | omega | exact Nat.le_refl _⟩, ⟨by repeat (first | (with_reducible first | exact HB.out | apply below_alloc | apply pw_below_drewN | apply below_drew1) | exact HB.out)⟩⟩
                  case rest =>
                    clear HC14
                    try clear c1
                    try clear p2
                    try clear c4
                    try clear p6
                    try clear c8
                    try clear c8b0
                    try clear c8b1
                    try clear c9
                    try clear c10
                    try clear c10b0
                    try clear c12
                    try clear c12b0
                    try clear c13
                    try clear c13b0
                    try clear c15
                    try clear c16
                    try clear c17
                    try clear c17b0
                    try clear c17b1
                    try clear p2
                    obtain ⟨kq, x12_13, rfl, HA, HJ13, HB⟩ := hcut
                    cases kq with
                    | zero => exact absurd HA.out (by simp [caravellaw01_OctetShort.j3])
                    | succ kj13 =>
                      have H := HA.out
                      clear HA
                      simp only [caravellaw01_OctetShort.j3] at H
                      replace H := Option.bind_eq_some_iff.mp H
                      obtain ⟨⟨t108, t109⟩, A190, H⟩ := H
                      replace H : ((caravelref01_Whole.f kj13 x12_13 x11_2 a1).bind fun bt110 => (if t108 = bt110.1 then (if t109 = bt110.2 then (caravellaw01_OctetShort.l0 kj13 a1 a2 (wrap64 (x11_2 + 1))) else (some false)) else (some false))) = some r := H
                      have A19 := Aside0.mk A190
                      clear A190
                      replace H := Option.bind_eq_some_iff.mp H
                      obtain ⟨⟨t110, t111⟩, A200, H⟩ := H
                      replace H : (if t108 = t110 then (if t109 = t111 then (caravellaw01_OctetShort.l0 kj13 a1 a2 (wrap64 (x11_2 + 1))) else (some false)) else (some false)) = some r := H
                      have A20 := Aside0.mk A200
                      clear A200
                      by_cases c21 : t108 = t110
                      · rw [if_pos c21] at H
                        have c21b0 : (t108 == t110) = true := beq_iff_eq.mpr c21
                        have c21b1 : (t108 != t110) = false := bne_eq_false_iff_eq.mpr c21
                        clear c21
                        by_cases c22 : t109 = t111
                        · rw [if_pos c22] at H
                          have c22b0 : (t109 == t111) = true := beq_iff_eq.mpr c22
                          have c22b1 : (t109 != t111) = false := bne_eq_false_iff_eq.mpr c22
                          clear c22
                          have H' := Aside0.mk H
                          clear H
                          go_wp2_with (first | ((with_reducible refine gate_callee (f := 17) rfl ?_); refine goesL_ (some 64) rfl rfl Try.func17 (by kernel_rfl) rfl #[.int .u64 x12_13, .int .i64 x11_2, .int .i64 a1] rfl (by (try simp only [List.map_toArray, List.map_cons, List.map_nil]); first | done | rfl | (simp only [List.length_drop, List.length_take]; rfl)) ?_; (with_reducible refine (octet_Whole.calls kj13 x12_13 x11_2 a1 t108 t109 _ A19.out).mono ?_); rintro e w' ⟨rfl, ⟨nd, rfl⟩⟩; refine ⟨_, rfl, ?_⟩) | ((with_reducible refine gate_callee (f := 18) rfl ?_); refine goesL_ (some 71) rfl rfl Try.func18 (by kernel_rfl) rfl #[.int .u64 x12_13, .int .i64 x11_2, .int .i64 a1] rfl (by (try simp only [List.map_toArray, List.map_cons, List.map_nil]); first | done | rfl | (simp only [List.length_drop, List.length_take]; rfl)) ?_; (with_reducible refine (caravelref01_Whole.calls kj13 x12_13 x11_2 a1 t110 t111 _ A20.out).mono ?_); rintro e w' ⟨rfl, ⟨nd, rfl⟩⟩; refine ⟨_, rfl, ?_⟩))
                          go_roundg kj13
                          case measure => have := HJ5.out; have := HK2.out; have := HJ10.out; have := HJ13.out; omega
                          case rel => exact ⟨(wrap64 (x11_2 + 1)), (by first | rfl | (simp; done) | (simp [*]; done)), H', ⟨by have := HJ5.out; have := HK2.out; have := HJ10.out; have := HJ13.out; omega⟩, ⟨by repeat (first | (with_reducible first | exact HB.out | apply below_alloc | apply pw_below_drewN | apply below_drew1) | exact HB.out)⟩⟩
                        · rw [if_neg c22] at H
                          have c22b0 : (t109 == t111) = false := beq_eq_false_iff_ne.mpr c22
                          have c22b1 : (t109 != t111) = true := bne_iff_ne.mpr c22
                          obtain rfl := Option.some.inj H
                          go_wp2_with (first | ((with_reducible refine gate_callee (f := 17) rfl ?_); refine goesL_ (some 64) rfl rfl Try.func17 (by kernel_rfl) rfl #[.int .u64 x12_13, .int .i64 x11_2, .int .i64 a1] rfl (by (try simp only [List.map_toArray, List.map_cons, List.map_nil]); first | done | rfl | (simp only [List.length_drop, List.length_take]; rfl)) ?_; (with_reducible refine (octet_Whole.calls kj13 x12_13 x11_2 a1 t108 t109 _ A19.out).mono ?_); rintro e w' ⟨rfl, ⟨nd, rfl⟩⟩; refine ⟨_, rfl, ?_⟩) | ((with_reducible refine gate_callee (f := 18) rfl ?_); refine goesL_ (some 71) rfl rfl Try.func18 (by kernel_rfl) rfl #[.int .u64 x12_13, .int .i64 x11_2, .int .i64 a1] rfl (by (try simp only [List.map_toArray, List.map_cons, List.map_nil]); first | done | rfl | (simp only [List.length_drop, List.length_take]; rfl)) ?_; (with_reducible refine (caravelref01_Whole.calls kj13 x12_13 x11_2 a1 t110 t111 _ A20.out).mono ?_); rintro e w' ⟨rfl, ⟨nd, rfl⟩⟩; refine ⟨_, rfl, ?_⟩))
                          go_ret
                          exact ⟨by first | rfl | (simp [errW_none, errW_some] <;> rfl) | (simp [*, errW_none, errW_some] <;> rfl), by repeat (first | (with_reducible first | exact HB.out | apply below_alloc | apply pw_below_drewN | apply below_drew1) | exact HB.out)⟩
                      · rw [if_neg c21] at H
                        have c21b0 : (t108 == t110) = false := beq_eq_false_iff_ne.mpr c21
                        have c21b1 : (t108 != t110) = true := bne_iff_ne.mpr c21
                        obtain rfl := Option.some.inj H
                        go_wp2_with (first | ((with_reducible refine gate_callee (f := 17) rfl ?_); refine goesL_ (some 64) rfl rfl Try.func17 (by kernel_rfl) rfl #[.int .u64 x12_13, .int .i64 x11_2, .int .i64 a1] rfl (by (try simp only [List.map_toArray, List.map_cons, List.map_nil]); first | done | rfl | (simp only [List.length_drop, List.length_take]; rfl)) ?_; (with_reducible refine (octet_Whole.calls kj13 x12_13 x11_2 a1 t108 t109 _ A19.out).mono ?_); rintro e w' ⟨rfl, ⟨nd, rfl⟩⟩; refine ⟨_, rfl, ?_⟩) | ((with_reducible refine gate_callee (f := 18) rfl ?_); refine goesL_ (some 71) rfl rfl Try.func18 (by kernel_rfl) rfl #[.int .u64 x12_13, .int .i64 x11_2, .int .i64 a1] rfl (by (try simp only [List.map_toArray, List.map_cons, List.map_nil]); first | done | rfl | (simp only [List.length_drop, List.length_take]; rfl)) ?_; (with_reducible refine (caravelref01_Whole.calls kj13 x12_13 x11_2 a1 t110 t111 _ A20.out).mono ?_); rintro e w' ⟨rfl, ⟨nd, rfl⟩⟩; refine ⟨_, rfl, ?_⟩))
                        go_ret
                        exact ⟨by first | rfl | (simp [errW_none, errW_some] <;> rfl) | (simp [*, errW_none, errW_some] <;> rfl), by repeat (first | (with_reducible first | exact HB.out | apply below_alloc | apply pw_below_drewN | apply below_drew1) | exact HB.out)⟩
            · rw [if_neg c10] at H
              have c10b0 : decide (x11_2 ≤ 5) = false := decide_eq_false c10
              clear c10
              replace H := Option.bind_eq_some_iff.mp H
              obtain ⟨t107, A230, H⟩ := H
              replace H : (some t107) = some r := H
              have A23 := Aside0.mk A230
              clear A230
              obtain rfl := Option.some.inj H
              go_wp2_with (first | ((with_reducible refine gate_callee (f := 19) rfl ?_); refine goesL_ (some 82) rfl rfl Try.func19 (by kernel_rfl) rfl #[] rfl (by (try simp only [List.map_toArray, List.map_cons, List.map_nil]); first | done | rfl | (simp only [List.length_drop, List.length_take]; rfl)) ?_; (with_reducible refine (caravellaw01_names.calls  t107 _ A23.out).mono ?_); rintro e w' ⟨rfl, ⟨nd, rfl⟩⟩; refine ⟨_, rfl, ?_⟩))
              go_ret
              exact ⟨by first | rfl | (simp [errW_none, errW_some] <;> rfl) | (simp [*, errW_none, errW_some] <;> rfl), by repeat (first | (with_reducible first | exact HB.out | apply below_alloc | apply pw_below_drewN | apply below_drew1) | exact HB.out)⟩

/-- THE ONE PURE STATEMENT of caravellaw01_OctetShort: yours. -/
def caravellaw01_OctetShort.Pure : Prop := ∀ (a0 : Int) (a1 : Int) (a2 : Int), (Lit.int .i64 a0).wf = true → (Lit.int .i64 a1).wf = true → (Lit.int .u64 a2).wf = true → ∃ k, caravellaw01_OctetShort.f k a0 a1 a2 = some true
theorem caravellaw01_OctetShort.walk (P : caravellaw01_OctetShort.Pure) (a0 : Int) (a1 : Int) (a2 : Int) (w : World) (w0 : (Lit.int .i64 a0).wf = true) (w1 : (Lit.int .i64 a1).wf = true) (w2 : (Lit.int .u64 a2).wf = true) :
    Calls Try.prog 4 #[.int .i64 a0, .int .i64 a1, .int .u64 a2] w fun e w' => e = .returned (.bool true) ∧ Below w.heap.size w w' := by
  obtain ⟨k, h⟩ := P a0 a1 a2 w0 w1 w2
  refine (caravellaw01_OctetShort.calls k a0 a1 a2 true w h).mono ?_
  rintro e w' ⟨rfl, hd⟩
  exact ⟨rfl, hd⟩

end Go.Proofs.Ytpilpgdlgkndmaa.QOct
