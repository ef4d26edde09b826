/- Written by a program of this session: walks of the functions that a statement reaches, in the form of the kit's print; no condition. -/
import Derived.Test.YtpilpgdlgkndmaaQOctx0
namespace Go.Proofs.Ytpilpgdlgkndmaa.QOct
open Go.RowKit Go.Proofs.YtpilpgdlgkndmaaW.PrintWords Go.Proofs.YtpilpgdlgkndmaaW.PrintLast Go.Proofs.YtpilpgdlgkndmaaW.PrintMore
attribute [local go_sem] max2_int min2_int max_two min_two max_three min_three max_four min_four   -- for this text's walks alone
set_option linter.unusedVariables false
set_option linter.unusedSimpArgs false

/-! ### octet_lies: function 40 -/
def octet_lies.f (a0 : Int) : Option (Bool) := if a0 ≥ 0 then (some (decide (a0 ≤ 4611686018427387903))) else (some false)
set_option maxHeartbeats 8000000 in
set_option maxRecDepth 100000 in
theorem octet_lies.calls (a0 : Int) (r : Bool) (w : World) (h : octet_lies.f a0 = some r) :
    Calls Try.prog 40 #[.int .i64 a0] w fun e w' => e = .returned (.bool r) ∧ Drawn0 w w' := by
  have H : (if a0 ≥ 0 then (some (decide (a0 ≤ 4611686018427387903))) else (some false)) = some r := h
  clear h
  by_cases c2 : a0 ≥ 0
  · rw [if_pos c2] at H
    have c2b0 : decide (0 ≤ a0) = true := decide_eq_true c2
    clear c2
    obtain rfl := Option.some.inj H
    go_enter Try.func40, Try.ntmps40
    go_wp2
    go_ret
    exact ⟨by first | rfl | (simp; done) | (simp [*]; done), by repeat (first | exact Drawn0.refl _ | apply Drawn0.step)⟩
  · rw [if_neg c2] at H
    have c2b0 : decide (0 ≤ a0) = false := decide_eq_false c2
    clear c2
    obtain rfl := Option.some.inj H
    go_enter Try.func40, Try.ntmps40
    go_wp2
    go_ret
    exact ⟨by first | rfl | (simp; done) | (simp [*]; done), by repeat (first | exact Drawn0.refl _ | apply Drawn0.step)⟩

/-! ### bits_Len: function 41 -/
def bits_Len.f (a0 : Int) : Option (Int) := if 0 ≤ a0 then (if a0 ≤ 18446744073709551615 then (some (Lib.bitLen a0.toNat : Int)) else (none)) else (none)
theorem bits_Len.calls (a0 : Int) (r : Int) (w : World) (h : bits_Len.f a0 = some r) :
    Calls Try.prog 41 #[.int .u64 a0] w fun e w' => e = .returned (.int .i64 r) ∧ Drawn0 w w' := by
  unfold bits_Len.f at h
  by_cases h0 : 0 ≤ a0
  · by_cases h1 : a0 ≤ 18446744073709551615
    · rw [if_pos h0, if_pos h1] at h
      obtain rfl := Option.some.inj h
      refine (bits_Len a0 w h0 h1).mono ?_
      rintro e w' ⟨rfl, rfl⟩
      exact ⟨rfl, Drawn0.refl _⟩
    · rw [if_pos h0, if_neg h1] at h; cases h
  · rw [if_neg h0] at h; cases h

/-! ### octet_Short: function 15 -/
def octet_Short.f (a0 : Int) (a1 : Int) : Option (Int × Int) := (octet_lies.f a0).bind fun t101 => (if t101 = true then (if a1 < (-1) then (some (0, 2)) else (if a1 ≥ a0 then (some (0, 2)) else ((bits_Len.f (IntKind.u64.wrap (wrap64 (a0 - a1)))).bind fun t102 => (some (mn 4 (wrap64 ((wrap64 (Int.tdiv t102 8)) + 1)), 0))))) else (some (0, 2)))
set_option maxHeartbeats 8000000 in
set_option maxRecDepth 100000 in
theorem octet_Short.calls (a0 : Int) (a1 : Int) (r1 : Int) (r2 : Int) (w : World) (h : octet_Short.f a0 a1 = some (r1, r2)) :
    Calls Try.prog 15 #[.int .i64 a0, .int .i64 a1] w fun e w' => e = .returned (.tuple #[.int .i64 r1, .int .i64 r2]) ∧ Below w.heap.size w w' := by
  have HB := Aside0.mk (Below.refl w.heap.size w)
  have H : ((octet_lies.f a0).bind fun t101 => (if t101 = true then (if a1 < (-1) then (some (0, 2)) else (if a1 ≥ a0 then (some (0, 2)) else ((bits_Len.f (IntKind.u64.wrap (wrap64 (a0 - a1)))).bind fun t102 => (some (mn 4 (wrap64 ((wrap64 (Int.tdiv t102 8)) + 1)), 0))))) else (some (0, 2)))) = some (r1, r2) := h
  clear h
  replace H := Option.bind_eq_some_iff.mp H
  obtain ⟨t101, A30, H⟩ := H
  replace H : (if t101 = true then (if a1 < (-1) then (some (0, 2)) else (if a1 ≥ a0 then (some (0, 2)) else ((bits_Len.f (IntKind.u64.wrap (wrap64 (a0 - a1)))).bind fun t102 => (some (mn 4 (wrap64 ((wrap64 (Int.tdiv t102 8)) + 1)), 0))))) else (some (0, 2))) = some (r1, r2) := H
  have A3 := Aside0.mk A30
  clear A30
  by_cases c4 : t101 = true
  · subst c4
    have H1 : (if a1 < (-1) then (some (0, 2)) else (if a1 ≥ a0 then (some (0, 2)) else ((bits_Len.f (IntKind.u64.wrap (wrap64 (a0 - a1)))).bind fun t102 => (some (mn 4 (wrap64 ((wrap64 (Int.tdiv t102 8)) + 1)), 0))))) = some (r1, r2) := by rw [if_pos rfl] at H; exact H
    clear H
    have H := H1
    clear H1
    by_cases c5 : a1 < (-1)
    · rw [if_pos c5] at H
      have c5b0 : decide (a1 < (-1)) = true := decide_eq_true c5
      clear c5
      simp only [Option.some.injEq, Prod.mk.injEq] at H
      obtain ⟨rfl, rfl⟩ := H
      go_enter Try.func15, Try.ntmps15
      go_wp2_with (first | ((with_reducible refine gate_callee (f := 40) rfl ?_); refine goesL_ (some 7) rfl rfl Try.func40 (by kernel_rfl) rfl #[.int .i64 a0] rfl (by (try simp only [List.map_toArray, List.map_cons, List.map_nil]); first | done | rfl | (simp only [List.length_drop, List.length_take]; rfl)) ?_; (with_reducible refine (octet_lies.calls a0 true _ A3.out).mono ?_); rintro e w' ⟨rfl, ⟨nd, rfl⟩⟩; refine ⟨_, rfl, ?_⟩))
      go_ret2
      exact ⟨by first | rfl | (simp [errW_none, errW_some] <;> rfl) | (simp [*, errW_none, errW_some] <;> rfl), by repeat (first | (with_reducible first | exact HB.out | apply below_alloc | apply pw_below_drewN | apply below_drew1) | exact HB.out)⟩
    · rw [if_neg c5] at H
      have c5b0 : decide (a1 < (-1)) = false := decide_eq_false c5
      clear c5
      by_cases c6 : a1 ≥ a0
      · rw [if_pos c6] at H
        have c6b0 : decide (a0 ≤ a1) = true := decide_eq_true c6
        clear c6
        simp only [Option.some.injEq, Prod.mk.injEq] at H
        obtain ⟨rfl, rfl⟩ := H
        go_enter Try.func15, Try.ntmps15
        go_wp2_with (first | ((with_reducible refine gate_callee (f := 40) rfl ?_); refine goesL_ (some 7) rfl rfl Try.func40 (by kernel_rfl) rfl #[.int .i64 a0] rfl (by (try simp only [List.map_toArray, List.map_cons, List.map_nil]); first | done | rfl | (simp only [List.length_drop, List.length_take]; rfl)) ?_; (with_reducible refine (octet_lies.calls a0 true _ A3.out).mono ?_); rintro e w' ⟨rfl, ⟨nd, rfl⟩⟩; refine ⟨_, rfl, ?_⟩))
        go_ret2
        exact ⟨by first | rfl | (simp [errW_none, errW_some] <;> rfl) | (simp [*, errW_none, errW_some] <;> rfl), by repeat (first | (with_reducible first | exact HB.out | apply below_alloc | apply pw_below_drewN | apply below_drew1) | exact HB.out)⟩
      · rw [if_neg c6] at H
        have c6b0 : decide (a0 ≤ a1) = false := decide_eq_false c6
        clear c6
        replace H := Option.bind_eq_some_iff.mp H
        obtain ⟨t102, A70, H⟩ := H
        replace H : (some (mn 4 (wrap64 ((wrap64 (Int.tdiv t102 8)) + 1)), 0)) = some (r1, r2) := H
        have A7 := Aside0.mk A70
        clear A70
        obtain ⟨ji8, hji8⟩ : ∃ j_ : Int, (mn 4 (wrap64 ((wrap64 (Int.tdiv t102 8)) + 1))) = j_ := ⟨_, rfl⟩
        replace H : (some (ji8, 0)) = some (r1, r2) := by first | (rw [hji8] at H; exact H) | (simp only [hji8] at H ⊢; exact H)
        (try rw [hji8] at A3)
        (try rw [hji8] at A7)
        (try (have hji8h : ji8 ≤ 4 := by (rw [← hji8]; unfold mn; (repeat' split) <;> omega)))
        (try (have hji8g : ji8 ≤ 64 := by omega))
        have hji8_ : (if (wrap64 ((wrap64 (Int.tdiv t102 8)) + 1)) < 4 then (wrap64 ((wrap64 (Int.tdiv t102 8)) + 1)) else 4) = ji8 := hji8
        simp only [Option.some.injEq, Prod.mk.injEq] at H
        obtain ⟨rfl, rfl⟩ := H
        go_enter Try.func15, Try.ntmps15
        go_wp2_with (first | ((with_reducible refine gate_callee (f := 40) rfl ?_); refine goesL_ (some 7) rfl rfl Try.func40 (by kernel_rfl) rfl #[.int .i64 a0] rfl (by (try simp only [List.map_toArray, List.map_cons, List.map_nil]); first | done | rfl | (simp only [List.length_drop, List.length_take]; rfl)) ?_; (with_reducible refine (octet_lies.calls a0 true _ A3.out).mono ?_); rintro e w' ⟨rfl, ⟨nd, rfl⟩⟩; refine ⟨_, rfl, ?_⟩) | ((with_reducible refine gate_callee (f := 41) rfl ?_); refine goesL_ (some 22) rfl rfl Try.func41 (by kernel_rfl) rfl #[.int .u64 (IntKind.u64.wrap (wrap64 (a0 - a1)))] rfl (by (try simp only [List.map_toArray, List.map_cons, List.map_nil]); first | done | rfl | (simp only [List.length_drop, List.length_take]; rfl)) ?_; (with_reducible refine (bits_Len.calls (IntKind.u64.wrap (wrap64 (a0 - a1))) t102 _ A7.out).mono ?_); rintro e w' ⟨rfl, ⟨nd, rfl⟩⟩; refine ⟨_, rfl, ?_⟩))
        go_ret2
        exact ⟨by first | rfl | (simp [errW_none, errW_some] <;> rfl) | (simp only [← hji8]; first | rfl | (simp [errW_none, errW_some] <;> rfl)) | (simp [*, errW_none, errW_some] <;> rfl), by repeat (first | (with_reducible first | exact HB.out | apply below_alloc | apply pw_below_drewN | apply below_drew1) | exact HB.out)⟩
  · replace c4 := Bool.eq_false_iff.mpr c4
    subst c4
    have H1 : (some (0, 2)) = some (r1, r2) := by rw [if_neg (show ¬ (false = true) by decide)] at H; exact H
    clear H
    have H := H1
    clear H1
    simp only [Option.some.injEq, Prod.mk.injEq] at H
    obtain ⟨rfl, rfl⟩ := H
    go_enter Try.func15, Try.ntmps15
    go_wp2_with (first | ((with_reducible refine gate_callee (f := 40) rfl ?_); refine goesL_ (some 7) rfl rfl Try.func40 (by kernel_rfl) rfl #[.int .i64 a0] rfl (by (try simp only [List.map_toArray, List.map_cons, List.map_nil]); first | done | rfl | (simp only [List.length_drop, List.length_take]; rfl)) ?_; (with_reducible refine (octet_lies.calls a0 false _ A3.out).mono ?_); rintro e w' ⟨rfl, ⟨nd, rfl⟩⟩; refine ⟨_, rfl, ?_⟩))
    go_ret2
    exact ⟨by first | rfl | (simp [errW_none, errW_some] <;> rfl) | (simp [*, errW_none, errW_some] <;> rfl), by repeat (first | (with_reducible first | exact HB.out | apply below_alloc | apply pw_below_drewN | apply below_drew1) | exact HB.out)⟩

/-! ### caravelref01_Short: function 16 -/
mutual
def caravelref01_Short.j0 : Nat → Int → Int → Bool → Option (Int × Int)
  | 0, _, _, _ => none
  | k + 1, x0, x1, x21 => if x21 = true then (some (0, 2)) else (caravelref01_Short.l0 k x0 x1 1)
def caravelref01_Short.l0 : Nat → Int → Int → Int → Option (Int × Int)
  | 0, _, _, _ => none
  | k + 1, x0, x1, x6 => if x6 ≤ 3 then (if 0 ≤ (IntKind.u64.wrap (wrap64 ((wrap64 (8 * x6)) - 1))) then (if (wrap64 (x0 - x1)) < (shl .i64 1 (IntKind.u64.wrap (wrap64 ((wrap64 (8 * x6)) - 1)))) then (some (x6, 0)) else (caravelref01_Short.l0 k x0 x1 (wrap64 (x6 + 1)))) else (none)) else (some (4, 0))
end
def caravelref01_Short.f (k : Nat) (a0 : Int) (a1 : Int) : Option (Int × Int) := if a0 < 0 then (caravelref01_Short.j0 k a0 a1 true) else (if a0 > 4611686018427387903 then (caravelref01_Short.j0 k a0 a1 true) else (if a1 < (-1) then (caravelref01_Short.j0 k a0 a1 true) else (caravelref01_Short.j0 k a0 a1 (decide (a1 ≥ a0)))))
theorem caravelref01_Short.mono_l : ∀ k, (∀ y0 y1 y2, LeO (caravelref01_Short.j0 k y0 y1 y2) (caravelref01_Short.j0 (k + 1) y0 y1 y2)) ∧ (∀ y0 y1 y2, LeO (caravelref01_Short.l0 k y0 y1 y2) (caravelref01_Short.l0 (k + 1) y0 y1 y2))
  | 0 => ⟨fun _ _ _ r h => by simp [caravelref01_Short.j0] at h, fun _ _ _ r h => by simp [caravelref01_Short.l0] at h⟩
  | k + 1 => by
    obtain ⟨ih0, ih1⟩ := caravelref01_Short.mono_l k
    refine ⟨?_, ?_⟩
    · intro y0 y1 y2
      unfold caravelref01_Short.j0
      repeat' first
      | (with_reducible exact ih0 _ _ _)
      | (with_reducible exact ih1 _ _ _)
      | (with_reducible exact LeO.refl _)
      | (with_reducible exact LeO.none _)
      | (with_reducible refine LeO.ite ?_ ?_)
      | (with_reducible refine LeO.bind ?_ (fun _ => ?_))
      | exact ih0 _ _ _
      | exact ih1 _ _ _
      | exact LeO.none _
      | refine LeO.ite ?_ ?_
      | refine LeO.bind ?_ (fun _ => ?_)
    · intro y0 y1 y2
      unfold caravelref01_Short.l0
      repeat' first
      | (with_reducible exact ih0 _ _ _)
      | (with_reducible exact ih1 _ _ _)
      | (with_reducible exact LeO.refl _)
      | (with_reducible exact LeO.none _)
      | (with_reducible refine LeO.ite ?_ ?_)
      | (with_reducible refine LeO.bind ?_ (fun _ => ?_))
      | exact ih0 _ _ _
      | exact ih1 _ _ _
      | exact LeO.none _
      | refine LeO.ite ?_ ?_
      | refine LeO.bind ?_ (fun _ => ?_)
theorem caravelref01_Short.mono : ∀ a0 a1 k, LeO (caravelref01_Short.f k a0 a1) (caravelref01_Short.f (k + 1) a0 a1) := by
  intro a0 a1 k
  obtain ⟨ih0, ih1⟩ := caravelref01_Short.mono_l k
  unfold caravelref01_Short.f
  repeat' first
      | (with_reducible exact ih0 _ _ _)
      | (with_reducible exact ih1 _ _ _)
      | (with_reducible exact LeO.refl _)
      | (with_reducible exact LeO.none _)
      | (with_reducible refine LeO.ite ?_ ?_)
      | (with_reducible refine LeO.bind ?_ (fun _ => ?_))
      | exact ih0 _ _ _
      | exact ih1 _ _ _
      | exact LeO.none _
      | refine LeO.ite ?_ ?_
      | refine LeO.bind ?_ (fun _ => ?_)
set_option maxHeartbeats 8000000 in
set_option maxRecDepth 100000 in
theorem caravelref01_Short.calls (k : Nat) (a0 : Int) (a1 : Int) (r1 : Int) (r2 : Int) (w : World) (h : caravelref01_Short.f k a0 a1 = some (r1, r2)) :
    Calls Try.prog 16 #[.int .i64 a0, .int .i64 a1] w fun e w' => e = .returned (.tuple #[.int .i64 r1, .int .i64 r2]) ∧ Drawn0 w w' := by
  have H : (if a0 < 0 then (caravelref01_Short.j0 k a0 a1 true) else (if a0 > 4611686018427387903 then (caravelref01_Short.j0 k a0 a1 true) else (if a1 < (-1) then (caravelref01_Short.j0 k a0 a1 true) else (caravelref01_Short.j0 k a0 a1 (decide (a1 ≥ a0)))))) = some (r1, r2) := h
  clear h
  have HC3 := Aside0.mk H
  clear H
  go_enter Try.func16, Try.ntmps16
  go_upto_region 1 with (fail)
  go_cut [21] (fun v21 wc => ∃ (kq : Nat) (x21_2 : Bool), v21 = .bool x21_2 ∧ Aside0 (caravelref01_Short.j0 kq a0 a1 x21_2 = some (r1, r2)) ∧ Aside0 (kq ≤ k) ∧ Drawn0 w wc)
  case first =>
    have H := HC3.out
    clear HC3
    by_cases c4 : a0 < 0
    · rw [if_pos c4] at H
      have c4b0 : decide (a0 < 0) = true := decide_eq_true c4
      clear c4
      (first | rw [c4b0] | (simp only [i64_w, i32_w]; rw [c4b0]) | skip)
      have H' := Aside0.mk H
      clear H
      go_wp2
      go_meet
      case rel => exact ⟨_, (true), (by first | rfl | (simp; done) | (simp [*]; done)), H', ⟨by first | omega | exact Nat.le_refl _⟩, by repeat (first | exact Drawn0.refl _ | apply Drawn0.step)⟩
    · rw [if_neg c4] at H
      have c4b0 : decide (a0 < 0) = false := decide_eq_false c4
      clear c4
      (first | rw [c4b0] | (simp only [i64_w, i32_w]; rw [c4b0]) | skip)
      by_cases c5 : a0 > 4611686018427387903
      · rw [if_pos c5] at H
        have c5b0 : decide (4611686018427387903 < a0) = true := decide_eq_true c5
        clear c5
        have H' := Aside0.mk H
        clear H
        go_wp2
        go_meet
        case rel => exact ⟨_, (true), (by first | rfl | (simp; done) | (simp [*]; done)), H', ⟨by first | omega | exact Nat.le_refl _⟩, by repeat (first | exact Drawn0.refl _ | apply Drawn0.step)⟩
      · rw [if_neg c5] at H
        have c5b0 : decide (4611686018427387903 < a0) = false := decide_eq_false c5
        clear c5
        by_cases c6 : a1 < (-1)
        · rw [if_pos c6] at H
          have c6b0 : decide (a1 < (-1)) = true := decide_eq_true c6
          clear c6
          have H' := Aside0.mk H
          clear H
          go_wp2
          go_meet
          case rel => exact ⟨_, (true), (by first | rfl | (simp; done) | (simp [*]; done)), H', ⟨by first | omega | exact Nat.le_refl _⟩, by repeat (first | exact Drawn0.refl _ | apply Drawn0.step)⟩
        · rw [if_neg c6] at H
          have c6b0 : decide (a1 < (-1)) = false := decide_eq_false c6
          clear c6
          have H' := Aside0.mk H
          clear H
          go_wp2
          go_meet
          case rel => exact ⟨_, (decide (a1 ≥ a0)), (by first | rfl | (simp; done) | (simp [*]; done)), H', ⟨by first | omega | exact Nat.le_refl _⟩, by repeat (first | exact Drawn0.refl _ | apply Drawn0.step)⟩
  case rest =>
    clear HC3
    try clear c1
    try clear p2
    try clear c4
    try clear c4b0
    try clear c5
    try clear c5b0
    try clear c6
    try clear c6b0
    obtain ⟨kq, x21_2, rfl, HA, HJ2, ⟨mc2, rfl⟩⟩ := hcut
    cases kq with
    | zero => exact absurd HA.out (by simp [caravelref01_Short.j0])
    | succ kj2 =>
      have H := HA.out
      clear HA
      simp only [caravelref01_Short.j0] at H
      by_cases c7 : x21_2 = true
      · subst c7
        have H1 : (some (0, 2)) = some (r1, r2) := by rw [if_pos rfl] at H; exact H
        clear H
        have H := H1
        clear H1
        simp only [Option.some.injEq, Prod.mk.injEq] at H
        obtain ⟨rfl, rfl⟩ := H
        go_wp2
        go_ret2
        exact ⟨by first | rfl | (simp; done) | (simp [*]; done), by repeat (first | exact Drawn0.refl _ | apply Drawn0.step)⟩
      · replace c7 := Bool.eq_false_iff.mpr c7
        subst c7
        have H1 : (caravelref01_Short.l0 kj2 a0 a1 1) = some (r1, r2) := by rw [if_neg (show ¬ (false = true) by decide)] at H; exact H
        clear H
        have H := H1
        clear H1
        have H' := Aside0.mk H
        clear H
        go_wp2
        go_loopg [6] kj2 (fun kq v6 w' => ∃ (x6_2 : Int), v6 = .int .i64 x6_2 ∧ Aside0 (caravelref01_Short.l0 kq a0 a1 x6_2 = some (r1, r2)) ∧ Aside0 (kq ≤ kj2) ∧ Drawn0 w w')
        case atStart => exact ⟨(1), (by first | rfl | (simp; done) | (simp [*]; done)), H', ⟨Nat.le_refl _⟩, by repeat (first | exact Drawn0.refl _ | apply Drawn0.step)⟩
        case round =>
          clear H'
          try clear c1
          try clear c2
          try clear p2
          try clear c4
          try clear c4b0
          try clear c5
          try clear c5b0
          try clear c6
          try clear c6b0
          try clear c7
          try clear p2
          obtain ⟨x6_2, rfl, HA, HK2, ⟨m2, rfl⟩⟩ := hrel
          cases gk with
          | zero => exact absurd HA.out (by simp [caravelref01_Short.l0])
          | succ k2 =>
            have H := HA.out
            clear HA
            simp only [caravelref01_Short.l0] at H
            by_cases c8 : x6_2 ≤ 3
            · rw [if_pos c8] at H
              have c8b0 : decide (x6_2 ≤ 3) = true := decide_eq_true c8
              clear c8
              obtain ⟨ji9, hji9⟩ : ∃ j_ : Int, (IntKind.u64.wrap (wrap64 ((wrap64 (8 * x6_2)) - 1))) = j_ := ⟨_, rfl⟩
              replace H : (if 0 ≤ (ji9) then (if (wrap64 (a0 - a1)) < (shl .i64 1 (ji9)) then (some (x6_2, 0)) else (caravelref01_Short.l0 k2 a0 a1 (wrap64 (x6_2 + 1)))) else (none)) = some (r1, r2) := by first | (rw [hji9] at H; exact H) | (simp only [hji9] at H ⊢; exact H)
              by_cases c10 : 0 ≤ (ji9)
              · rw [if_pos c10] at H
                have c10b0 := eq_true c10
                have c10b1 : decide (0 ≤ (ji9)) = true := decide_eq_true c10
                clear c10
                obtain ⟨ji11, hji11⟩ : ∃ j_ : Int, (shl .i64 1 (ji9)) = j_ := ⟨_, rfl⟩
                replace H : (if (wrap64 (a0 - a1)) < (ji11) then (some (x6_2, 0)) else (caravelref01_Short.l0 k2 a0 a1 (wrap64 (x6_2 + 1)))) = some (r1, r2) := by first | (rw [hji11] at H; exact H) | (simp only [hji11] at H ⊢; exact H)
                have hji11_ : (IntKind.i64.wrap (1 * 2 ^ min (ji9).toNat 64)) = ji11 := hji11
                have hji11z : (ji9) ≤ 64 → (IntKind.i64.wrap (1 * 2 ^ (ji9).toNat)) = ji11 := shl_small hji11
                have hji11u : (IntKind.i64.wrap (2 ^ min (ji9).toNat 64)) = ji11 := by have h_ := hji11_; rw [Int.one_mul] at h_; exact h_
                have hji11v : (ji9) ≤ 64 → (IntKind.i64.wrap (2 ^ (ji9).toNat)) = ji11 := fun hle_ => by have h_ := hji11z hle_; rw [Int.one_mul] at h_; exact h_
                have hji11y : (wrap64 (1 * 2 ^ min (ji9).toNat 64)) = ji11 := (i64_w _).symm.trans hji11_
                have hji11x : (ji9) ≤ 64 → (wrap64 (1 * 2 ^ (ji9).toNat)) = ji11 := fun h_ => (i64_w _).symm.trans (hji11z h_)
                by_cases c12 : (wrap64 (a0 - a1)) < (ji11)
                · rw [if_pos c12] at H
                  have c12b0 : decide ((wrap64 (a0 - a1)) < (ji11)) = true := decide_eq_true c12
                  clear c12
                  simp only [Option.some.injEq, Prod.mk.injEq] at H
                  obtain ⟨rfl, rfl⟩ := H
                  go_wp2
                  go_ret2
                  exact ⟨by first | rfl | (simp; done) | (simp only [← hji9, ← hji11] <;> (first | rfl | simp)) | (simp [*]; done), by repeat (first | exact Drawn0.refl _ | apply Drawn0.step)⟩
                · rw [if_neg c12] at H
                  have c12b0 : decide ((wrap64 (a0 - a1)) < (ji11)) = false := decide_eq_false c12
                  clear c12
                  have H' := Aside0.mk H
                  clear H
                  go_wp2
                  go_roundg k2
                  case measure => have := HJ2.out; have := HK2.out; omega
                  case rel => exact ⟨(wrap64 (x6_2 + 1)), (by first | rfl | (simp; done) | (simp [*]; done)), H', ⟨by have := HJ2.out; have := HK2.out; omega⟩, by repeat (first | exact Drawn0.refl _ | apply Drawn0.step)⟩
              · rw [if_neg c10] at H
                exact absurd H (by simp)
            · rw [if_neg c8] at H
              have c8b0 : decide (x6_2 ≤ 3) = false := decide_eq_false c8
              clear c8
              simp only [Option.some.injEq, Prod.mk.injEq] at H
              obtain ⟨rfl, rfl⟩ := H
              go_wp2
              go_ret2
              exact ⟨by first | rfl | (simp; done) | (simp [*]; done), by repeat (first | exact Drawn0.refl _ | apply Drawn0.step)⟩

/-! ### octet_Whole: function 17 -/
mutual
def octet_Whole.j0 : Nat → Int → Int → Int → Bool → Option (Int × Int)
  | 0, _, _, _, _ => none
  | k + 1, x0, x1, x2, x31 => if x31 = true then (some (0, 2)) else (if 0 ≤ (wrap64 (8 * x1)) then (if (wrap64 ((Go.bits .or .i64 (Go.bits .andNot .i64 (wrap64 (x2 + 1)) (wrap64 ((shl .i64 1 (wrap64 (8 * x1))) - 1))) (wrap64 (x0))) + (wrap64 (Int.tdiv (shl .i64 1 (wrap64 (8 * x1))) 2)))) ≤ (wrap64 (x2 + 1)) then (octet_Whole.j1 k (wrap64 (x2 + 1)) (shl .i64 1 (wrap64 (8 * x1))) (Go.bits .or .i64 (Go.bits .andNot .i64 (wrap64 (x2 + 1)) (wrap64 ((shl .i64 1 (wrap64 (8 * x1))) - 1))) (wrap64 (x0))) (decide ((wrap64 ((Go.bits .or .i64 (Go.bits .andNot .i64 (wrap64 (x2 + 1)) (wrap64 ((shl .i64 1 (wrap64 (8 * x1))) - 1))) (wrap64 (x0))) + (shl .i64 1 (wrap64 (8 * x1))))) ≤ 4611686018427387903))) else (octet_Whole.j1 k (wrap64 (x2 + 1)) (shl .i64 1 (wrap64 (8 * x1))) (Go.bits .or .i64 (Go.bits .andNot .i64 (wrap64 (x2 + 1)) (wrap64 ((shl .i64 1 (wrap64 (8 * x1))) - 1))) (wrap64 (x0))) false)) else (none))
def octet_Whole.j1 : Nat → Int → Int → Int → Bool → Option (Int × Int)
  | 0, _, _, _, _ => none
  | k + 1, x8, x9, x10, x44 => if x44 = true then (some (wrap64 (x10 + x9), 0)) else (if (wrap64 (x10 - (wrap64 (Int.tdiv x9 2)))) > x8 then (if x10 ≥ x9 then (some (wrap64 (x10 - x9), 0)) else (if x10 > 4611686018427387903 then (some (wrap64 (x10 - x9), 0)) else (some (x10, 0)))) else (if x10 > 4611686018427387903 then (some (wrap64 (x10 - x9), 0)) else (some (x10, 0))))
end
def octet_Whole.f (k : Nat) (a0 : Int) (a1 : Int) (a2 : Int) : Option (Int × Int) := if a1 < 1 then (octet_Whole.j0 k a0 a1 a2 true) else (if a1 > 4 then (octet_Whole.j0 k a0 a1 a2 true) else (if 0 ≤ (wrap64 (8 * a1)) then (if (shr .u64 a0 (wrap64 (8 * a1))) = 0 then (if a2 < (-1) then (octet_Whole.j0 k a0 a1 a2 true) else (octet_Whole.j0 k a0 a1 a2 (decide (a2 > 4611686018427387903)))) else (octet_Whole.j0 k a0 a1 a2 true)) else (none)))
theorem octet_Whole.mono_l : ∀ k, (∀ y0 y1 y2 y3, LeO (octet_Whole.j0 k y0 y1 y2 y3) (octet_Whole.j0 (k + 1) y0 y1 y2 y3)) ∧ (∀ y0 y1 y2 y3, LeO (octet_Whole.j1 k y0 y1 y2 y3) (octet_Whole.j1 (k + 1) y0 y1 y2 y3))
  | 0 => ⟨fun _ _ _ _ r h => by simp [octet_Whole.j0] at h, fun _ _ _ _ r h => by simp [octet_Whole.j1] at h⟩
  | k + 1 => by
    obtain ⟨ih0, ih1⟩ := octet_Whole.mono_l k
    refine ⟨?_, ?_⟩
    · intro y0 y1 y2 y3
      unfold octet_Whole.j0
      repeat' first
      | (with_reducible exact ih0 _ _ _ _)
      | (with_reducible exact ih1 _ _ _ _)
      | (with_reducible exact LeO.refl _)
      | (with_reducible exact LeO.none _)
      | (with_reducible refine LeO.ite ?_ ?_)
      | (with_reducible refine LeO.bind ?_ (fun _ => ?_))
      | exact ih0 _ _ _ _
      | exact ih1 _ _ _ _
      | exact LeO.none _
      | refine LeO.ite ?_ ?_
      | refine LeO.bind ?_ (fun _ => ?_)
    · intro y0 y1 y2 y3
      unfold octet_Whole.j1
      repeat' first
      | (with_reducible exact ih0 _ _ _ _)
      | (with_reducible exact ih1 _ _ _ _)
      | (with_reducible exact LeO.refl _)
      | (with_reducible exact LeO.none _)
      | (with_reducible refine LeO.ite ?_ ?_)
      | (with_reducible refine LeO.bind ?_ (fun _ => ?_))
      | exact ih0 _ _ _ _
      | exact ih1 _ _ _ _
      | exact LeO.none _
      | refine LeO.ite ?_ ?_
      | refine LeO.bind ?_ (fun _ => ?_)
theorem octet_Whole.mono : ∀ a0 a1 a2 k, LeO (octet_Whole.f k a0 a1 a2) (octet_Whole.f (k + 1) a0 a1 a2) := by
  intro a0 a1 a2 k
  obtain ⟨ih0, ih1⟩ := octet_Whole.mono_l k
  unfold octet_Whole.f
  repeat' first
      | (with_reducible exact ih0 _ _ _ _)
      | (with_reducible exact ih1 _ _ _ _)
      | (with_reducible exact LeO.refl _)
      | (with_reducible exact LeO.none _)
      | (with_reducible refine LeO.ite ?_ ?_)
      | (with_reducible refine LeO.bind ?_ (fun _ => ?_))
      | exact ih0 _ _ _ _
      | exact ih1 _ _ _ _
      | exact LeO.none _
      | refine LeO.ite ?_ ?_
      | refine LeO.bind ?_ (fun _ => ?_)
set_option maxHeartbeats 8000000 in
set_option maxRecDepth 100000 in
theorem octet_Whole.calls (k : Nat) (a0 : Int) (a1 : Int) (a2 : Int) (r1 : Int) (r2 : Int) (w : World) (h : octet_Whole.f k a0 a1 a2 = some (r1, r2)) :
    Calls Try.prog 17 #[.int .u64 a0, .int .i64 a1, .int .i64 a2] w fun e w' => e = .returned (.tuple #[.int .i64 r1, .int .i64 r2]) ∧ Drawn0 w w' := by
  have H : (if a1 < 1 then (octet_Whole.j0 k a0 a1 a2 true) else (if a1 > 4 then (octet_Whole.j0 k a0 a1 a2 true) else (if 0 ≤ (wrap64 (8 * a1)) then (if (shr .u64 a0 (wrap64 (8 * a1))) = 0 then (if a2 < (-1) then (octet_Whole.j0 k a0 a1 a2 true) else (octet_Whole.j0 k a0 a1 a2 (decide (a2 > 4611686018427387903)))) else (octet_Whole.j0 k a0 a1 a2 true)) else (none)))) = some (r1, r2) := h
  clear h
  have HC4 := Aside0.mk H
  clear H
  go_enter Try.func17, Try.ntmps17
  go_upto_region 1 with (fail)
  repeat (go_quiet (fail); go_upto_region 1 with (fail))
  go_cut [31] (fun v31 wc => ∃ (kq : Nat) (x31_3 : Bool), v31 = .bool x31_3 ∧ Aside0 (octet_Whole.j0 kq a0 a1 a2 x31_3 = some (r1, r2)) ∧ Aside0 (kq ≤ k) ∧ Drawn0 w wc)
  case first =>
    have H := HC4.out
    clear HC4
    by_cases c5 : a1 < 1
    · rw [if_pos c5] at H
      have c5b0 : decide (a1 < 1) = true := decide_eq_true c5
      clear c5
      (first | rw [c5b0] | (simp only [i64_w, i32_w]; rw [c5b0]) | skip)
      have H' := Aside0.mk H
      clear H
      go_wp2
      repeat (go_quiet (fail); try go_wp2)
      go_meet
      case rel => exact ⟨_, (true), (by first | rfl | (simp; done) | (simp [*]; done)), H', ⟨by first | omega | exact Nat.le_refl _⟩, by repeat (first | exact Drawn0.refl _ | apply Drawn0.step)⟩
    · rw [if_neg c5] at H
      have c5b0 : decide (a1 < 1) = false := decide_eq_false c5
      clear c5
      (first | rw [c5b0] | (simp only [i64_w, i32_w]; rw [c5b0]) | skip)
      by_cases c6 : a1 > 4
      · rw [if_pos c6] at H
        have c6b0 : decide (4 < a1) = true := decide_eq_true c6
        clear c6
        have H' := Aside0.mk H
        clear H
        go_wp2
        repeat (go_quiet (fail); try go_wp2)
        go_meet
        case rel => exact ⟨_, (true), (by first | rfl | (simp; done) | (simp [*]; done)), H', ⟨by first | omega | exact Nat.le_refl _⟩, by repeat (first | exact Drawn0.refl _ | apply Drawn0.step)⟩
      · rw [if_neg c6] at H
        have c6b0 : decide (4 < a1) = false := decide_eq_false c6
        clear c6
        obtain ⟨ji7, hji7⟩ : ∃ j_ : Int, (wrap64 (8 * a1)) = j_ := ⟨_, rfl⟩
        replace H : (if 0 ≤ (ji7) then (if (shr .u64 a0 (ji7)) = 0 then (if a2 < (-1) then (octet_Whole.j0 k a0 a1 a2 true) else (octet_Whole.j0 k a0 a1 a2 (decide (a2 > 4611686018427387903)))) else (octet_Whole.j0 k a0 a1 a2 true)) else (none)) = some (r1, r2) := by first | (rw [hji7] at H; exact H) | (simp only [hji7] at H ⊢; exact H)
        have hji7w : (IntKind.i64.wrap (8 * a1)) = ji7 := (i64_w _).trans hji7
        by_cases c8 : 0 ≤ (ji7)
        · rw [if_pos c8] at H
          have c8b0 := eq_true c8
          have c8b1 : decide (0 ≤ (ji7)) = true := decide_eq_true c8
          clear c8
          obtain ⟨ji9, hji9⟩ : ∃ j_ : Int, (shr .u64 a0 (ji7)) = j_ := ⟨_, rfl⟩
          replace H : (if (ji9) = 0 then (if a2 < (-1) then (octet_Whole.j0 k a0 a1 a2 true) else (octet_Whole.j0 k a0 a1 a2 (decide (a2 > 4611686018427387903)))) else (octet_Whole.j0 k a0 a1 a2 true)) = some (r1, r2) := by first | (rw [hji9] at H; exact H) | (simp only [hji9] at H ⊢; exact H)
          have hji9_ : (a0 / 2 ^ min (ji7).toNat 64) = ji9 := hji9
          have hji9z : (ji7) ≤ 64 → (a0 / 2 ^ (ji7).toNat) = ji9 := shr_small hji9
          by_cases c10 : (ji9) = 0
          · rw [if_pos c10] at H
            have c10b0 : ((ji9) == 0) = true := beq_iff_eq.mpr c10
            have c10b1 : ((ji9) != 0) = false := bne_eq_false_iff_eq.mpr c10
            clear c10
            by_cases c11 : a2 < (-1)
            · rw [if_pos c11] at H
              have c11b0 : decide (a2 < (-1)) = true := decide_eq_true c11
              clear c11
              have H' := Aside0.mk H
              clear H
              go_wp2
              repeat (go_quiet (fail); try go_wp2)
              go_meet
              case rel => exact ⟨_, (true), (by first | rfl | (simp; done) | (simp [*]; done)), H', ⟨by first | omega | exact Nat.le_refl _⟩, by repeat (first | exact Drawn0.refl _ | apply Drawn0.step)⟩
            · rw [if_neg c11] at H
              have c11b0 : decide (a2 < (-1)) = false := decide_eq_false c11
              clear c11
              have H' := Aside0.mk H
              clear H
              go_wp2
              repeat (go_quiet (fail); try go_wp2)
              go_meet
              case rel => exact ⟨_, (decide (a2 > 4611686018427387903)), (by first | rfl | (simp; done) | (simp [*]; done)), H', ⟨by first | omega | exact Nat.le_refl _⟩, by repeat (first | exact Drawn0.refl _ | apply Drawn0.step)⟩
          · rw [if_neg c10] at H
            have c10b0 : ((ji9) == 0) = false := beq_eq_false_iff_ne.mpr c10
            have c10b1 : ((ji9) != 0) = true := bne_iff_ne.mpr c10
            have H' := Aside0.mk H
            clear H
            go_wp2
            repeat (go_quiet (fail); try go_wp2)
            go_meet
            case rel => exact ⟨_, (true), (by first | rfl | (simp; done) | (simp [*]; done)), H', ⟨by first | omega | exact Nat.le_refl _⟩, by repeat (first | exact Drawn0.refl _ | apply Drawn0.step)⟩
        · rw [if_neg c8] at H
          exact absurd H (by simp)
  case rest =>
    clear HC4
    try clear c1
    try clear p2
    try clear c5
    try clear c5b0
    try clear c6
    try clear c6b0
    try clear p6
    try clear c8
    try clear c8b0
    try clear c8b1
    try clear c10
    try clear c10b0
    try clear c10b1
    try clear c11
    try clear c11b0
    obtain ⟨kq, x31_3, rfl, HA, HJ3, ⟨mc3, rfl⟩⟩ := hcut
    cases kq with
    | zero => exact absurd HA.out (by simp [octet_Whole.j0])
    | succ kj3 =>
      have H := HA.out
      clear HA
      simp only [octet_Whole.j0] at H
      by_cases c12 : x31_3 = true
      · subst c12
        have H1 : (some (0, 2)) = some (r1, r2) := by rw [if_pos rfl] at H; exact H
        clear H
        have H := H1
        clear H1
        simp only [Option.some.injEq, Prod.mk.injEq] at H
        obtain ⟨rfl, rfl⟩ := H
        go_wp2
        repeat (go_quiet (fail); try go_wp2)
        go_ret2
        exact ⟨by first | rfl | (simp; done) | (simp [*]; done), by repeat (first | exact Drawn0.refl _ | apply Drawn0.step)⟩
      · replace c12 := Bool.eq_false_iff.mpr c12
        subst c12
        have H1 : (if 0 ≤ (wrap64 (8 * a1)) then (if (wrap64 ((Go.bits .or .i64 (Go.bits .andNot .i64 (wrap64 (a2 + 1)) (wrap64 ((shl .i64 1 (wrap64 (8 * a1))) - 1))) (wrap64 (a0))) + (wrap64 (Int.tdiv (shl .i64 1 (wrap64 (8 * a1))) 2)))) ≤ (wrap64 (a2 + 1)) then (octet_Whole.j1 kj3 (wrap64 (a2 + 1)) (shl .i64 1 (wrap64 (8 * a1))) (Go.bits .or .i64 (Go.bits .andNot .i64 (wrap64 (a2 + 1)) (wrap64 ((shl .i64 1 (wrap64 (8 * a1))) - 1))) (wrap64 (a0))) (decide ((wrap64 ((Go.bits .or .i64 (Go.bits .andNot .i64 (wrap64 (a2 + 1)) (wrap64 ((shl .i64 1 (wrap64 (8 * a1))) - 1))) (wrap64 (a0))) + (shl .i64 1 (wrap64 (8 * a1))))) ≤ 4611686018427387903))) else (octet_Whole.j1 kj3 (wrap64 (a2 + 1)) (shl .i64 1 (wrap64 (8 * a1))) (Go.bits .or .i64 (Go.bits .andNot .i64 (wrap64 (a2 + 1)) (wrap64 ((shl .i64 1 (wrap64 (8 * a1))) - 1))) (wrap64 (a0))) false)) else (none)) = some (r1, r2) := by rw [if_neg (show ¬ (false = true) by decide)] at H; exact H
        clear H
        have H := H1
        clear H1
        obtain ⟨ji13, hji13⟩ : ∃ j_ : Int, (wrap64 (8 * a1)) = j_ := ⟨_, rfl⟩
        replace H : (if 0 ≤ (ji13) then (if (wrap64 ((Go.bits .or .i64 (Go.bits .andNot .i64 (wrap64 (a2 + 1)) (wrap64 ((shl .i64 1 (ji13)) - 1))) (wrap64 (a0))) + (wrap64 (Int.tdiv (shl .i64 1 (ji13)) 2)))) ≤ (wrap64 (a2 + 1)) then (octet_Whole.j1 kj3 (wrap64 (a2 + 1)) (shl .i64 1 (ji13)) (Go.bits .or .i64 (Go.bits .andNot .i64 (wrap64 (a2 + 1)) (wrap64 ((shl .i64 1 (ji13)) - 1))) (wrap64 (a0))) (decide ((wrap64 ((Go.bits .or .i64 (Go.bits .andNot .i64 (wrap64 (a2 + 1)) (wrap64 ((shl .i64 1 (ji13)) - 1))) (wrap64 (a0))) + (shl .i64 1 (ji13)))) ≤ 4611686018427387903))) else (octet_Whole.j1 kj3 (wrap64 (a2 + 1)) (shl .i64 1 (ji13)) (Go.bits .or .i64 (Go.bits .andNot .i64 (wrap64 (a2 + 1)) (wrap64 ((shl .i64 1 (ji13)) - 1))) (wrap64 (a0))) false)) else (none)) = some (r1, r2) := by first | (rw [hji13] at H; exact H) | (simp only [hji13] at H ⊢; exact H)
        have hji13w : (IntKind.i64.wrap (8 * a1)) = ji13 := (i64_w _).trans hji13
        by_cases c14 : 0 ≤ (ji13)
        · rw [if_pos c14] at H
          have c14b0 := eq_true c14
          have c14b1 : decide (0 ≤ (ji13)) = true := decide_eq_true c14
          clear c14
          obtain ⟨ji15, hji15⟩ : ∃ j_ : Int, (shl .i64 1 (ji13)) = j_ := ⟨_, rfl⟩
          replace H : (if (wrap64 ((Go.bits .or .i64 (Go.bits .andNot .i64 (wrap64 (a2 + 1)) (wrap64 ((ji15) - 1))) (wrap64 (a0))) + (wrap64 (Int.tdiv (ji15) 2)))) ≤ (wrap64 (a2 + 1)) then (octet_Whole.j1 kj3 (wrap64 (a2 + 1)) ji15 (Go.bits .or .i64 (Go.bits .andNot .i64 (wrap64 (a2 + 1)) (wrap64 ((ji15) - 1))) (wrap64 (a0))) (decide ((wrap64 ((Go.bits .or .i64 (Go.bits .andNot .i64 (wrap64 (a2 + 1)) (wrap64 ((ji15) - 1))) (wrap64 (a0))) + (ji15))) ≤ 4611686018427387903))) else (octet_Whole.j1 kj3 (wrap64 (a2 + 1)) ji15 (Go.bits .or .i64 (Go.bits .andNot .i64 (wrap64 (a2 + 1)) (wrap64 ((ji15) - 1))) (wrap64 (a0))) false)) = some (r1, r2) := by first | (rw [hji15] at H; exact H) | (simp only [hji15] at H ⊢; exact H)
          have hji15_ : (IntKind.i64.wrap (1 * 2 ^ min (ji13).toNat 64)) = ji15 := hji15
          have hji15z : (ji13) ≤ 64 → (IntKind.i64.wrap (1 * 2 ^ (ji13).toNat)) = ji15 := shl_small hji15
          have hji15u : (IntKind.i64.wrap (2 ^ min (ji13).toNat 64)) = ji15 := by have h_ := hji15_; rw [Int.one_mul] at h_; exact h_
          have hji15v : (ji13) ≤ 64 → (IntKind.i64.wrap (2 ^ (ji13).toNat)) = ji15 := fun hle_ => by have h_ := hji15z hle_; rw [Int.one_mul] at h_; exact h_
          have hji15y : (wrap64 (1 * 2 ^ min (ji13).toNat 64)) = ji15 := (i64_w _).symm.trans hji15_
          have hji15x : (ji13) ≤ 64 → (wrap64 (1 * 2 ^ (ji13).toNat)) = ji15 := fun h_ => (i64_w _).symm.trans (hji15z h_)
          have HC16 := Aside0.mk H
          clear H
          go_upto_region 5 with (fail)
          repeat (go_quiet (fail); go_upto_region 5 with (fail))
          go_cut [44] (fun v44 wc => ∃ (kq : Nat) (x44_15 : Bool), v44 = .bool x44_15 ∧ Aside0 (octet_Whole.j1 kq (wrap64 (a2 + 1)) ji15 (Go.bits .or .i64 (Go.bits .andNot .i64 (wrap64 (a2 + 1)) (wrap64 ((ji15) - 1))) (wrap64 (a0))) x44_15 = some (r1, r2)) ∧ Aside0 (kq ≤ kj3) ∧ Drawn0 w wc)
          case first =>
            have H := HC16.out
            clear HC16
            by_cases c17 : (wrap64 ((Go.bits .or .i64 (Go.bits .andNot .i64 (wrap64 (a2 + 1)) (wrap64 ((ji15) - 1))) (wrap64 (a0))) + (wrap64 (Int.tdiv (ji15) 2)))) ≤ (wrap64 (a2 + 1))
            · rw [if_pos c17] at H
              have c17b0 : decide ((wrap64 ((Go.bits .or .i64 (Go.bits .andNot .i64 (wrap64 (a2 + 1)) (wrap64 ((ji15) - 1))) (wrap64 (a0))) + (wrap64 (Int.tdiv (ji15) 2)))) ≤ (wrap64 (a2 + 1))) = true := decide_eq_true c17
              clear c17
              (first | rw [c17b0] | (simp only [i64_w, i32_w]; rw [c17b0]) | skip)
              have H' := Aside0.mk H
              clear H
              go_wp2
              repeat (go_quiet (fail); try go_wp2)
              go_meet
              case rel => exact ⟨_, (decide ((wrap64 ((Go.bits .or .i64 (Go.bits .andNot .i64 (wrap64 (a2 + 1)) (wrap64 ((ji15) - 1))) (wrap64 (a0))) + (ji15))) ≤ 4611686018427387903)), (by first | rfl | (simp; done) | (simp only [← hji15] <;> (first | rfl | simp)) | (simp [*]; done)), H', ⟨by have := HJ3.out; first | omega | exact Nat.le_refl _⟩, by repeat (first | exact Drawn0.refl _ | apply Drawn0.step)⟩
            · rw [if_neg c17] at H
              have c17b0 : decide ((wrap64 ((Go.bits .or .i64 (Go.bits .andNot .i64 (wrap64 (a2 + 1)) (wrap64 ((ji15) - 1))) (wrap64 (a0))) + (wrap64 (Int.tdiv (ji15) 2)))) ≤ (wrap64 (a2 + 1))) = false := decide_eq_false c17
              clear c17
              (first | rw [c17b0] | (simp only [i64_w, i32_w]; rw [c17b0]) | skip)
              have H' := Aside0.mk H
              clear H
              go_wp2
              repeat (go_quiet (fail); try go_wp2)
              go_meet
              case rel => exact ⟨_, (false), (by first | rfl | (simp; done) | (simp [*]; done)), H', ⟨by have := HJ3.out; first | omega | exact Nat.le_refl _⟩, by repeat (first | exact Drawn0.refl _ | apply Drawn0.step)⟩
          case rest =>
            clear HC16
            try clear c1
            try clear p2
            try clear c3
            try clear c5
            try clear c5b0
            try clear c6
            try clear c6b0
            try clear p6
            try clear c8
            try clear c8b0
            try clear c8b1
            try clear c10
            try clear c10b0
            try clear c10b1
            try clear c11
            try clear c11b0
            try clear c12
            try clear c14
            try clear c14b0
            try clear c14b1
            try clear c17
            try clear c17b0
            try clear p2
            try clear p6
            obtain ⟨kq, x44_15, rfl, HA, HJ15, ⟨mc15, rfl⟩⟩ := hcut
            cases kq with
            | zero => exact absurd HA.out (by simp [octet_Whole.j1])
            | succ kj15 =>
              have H := HA.out
              clear HA
              simp only [octet_Whole.j1] at H
              by_cases c18 : x44_15 = true
              · subst c18
                have H1 : (some (wrap64 ((Go.bits .or .i64 (Go.bits .andNot .i64 (wrap64 (a2 + 1)) (wrap64 ((ji15) - 1))) (wrap64 (a0))) + ji15), 0)) = some (r1, r2) := by rw [if_pos rfl] at H; exact H
                clear H
                have H := H1
                clear H1
                simp only [Option.some.injEq, Prod.mk.injEq] at H
                obtain ⟨rfl, rfl⟩ := H
                go_wp2
                repeat (go_quiet (fail); try go_wp2)
                go_ret2
                exact ⟨by first | rfl | (simp; done) | (simp only [← hji13, ← hji15] <;> (first | rfl | simp)) | (simp [*]; done), by repeat (first | exact Drawn0.refl _ | apply Drawn0.step)⟩
              · replace c18 := Bool.eq_false_iff.mpr c18
                subst c18
                have H1 : (if (wrap64 ((Go.bits .or .i64 (Go.bits .andNot .i64 (wrap64 (a2 + 1)) (wrap64 ((ji15) - 1))) (wrap64 (a0))) - (wrap64 (Int.tdiv ji15 2)))) > (wrap64 (a2 + 1)) then (if (Go.bits .or .i64 (Go.bits .andNot .i64 (wrap64 (a2 + 1)) (wrap64 ((ji15) - 1))) (wrap64 (a0))) ≥ ji15 then (some (wrap64 ((Go.bits .or .i64 (Go.bits .andNot .i64 (wrap64 (a2 + 1)) (wrap64 ((ji15) - 1))) (wrap64 (a0))) - ji15), 0)) else (if (Go.bits .or .i64 (Go.bits .andNot .i64 (wrap64 (a2 + 1)) (wrap64 ((ji15) - 1))) (wrap64 (a0))) > 4611686018427387903 then (some (wrap64 ((Go.bits .or .i64 (Go.bits .andNot .i64 (wrap64 (a2 + 1)) (wrap64 ((ji15) - 1))) (wrap64 (a0))) - ji15), 0)) else (some ((Go.bits .or .i64 (Go.bits .andNot .i64 (wrap64 (a2 + 1)) (wrap64 ((ji15) - 1))) (wrap64 (a0))), 0)))) else (if (Go.bits .or .i64 (Go.bits .andNot .i64 (wrap64 (a2 + 1)) (wrap64 ((ji15) - 1))) (wrap64 (a0))) > 4611686018427387903 then (some (wrap64 ((Go.bits .or .i64 (Go.bits .andNot .i64 (wrap64 (a2 + 1)) (wrap64 ((ji15) - 1))) (wrap64 (a0))) - ji15), 0)) else (some ((Go.bits .or .i64 (Go.bits .andNot .i64 (wrap64 (a2 + 1)) (wrap64 ((ji15) - 1))) (wrap64 (a0))), 0)))) = some (r1, r2) := by rw [if_neg (show ¬ (false = true) by decide)] at H; exact H
                clear H
                have H := H1
                clear H1
                by_cases c19 : (wrap64 ((Go.bits .or .i64 (Go.bits .andNot .i64 (wrap64 (a2 + 1)) (wrap64 ((ji15) - 1))) (wrap64 (a0))) - (wrap64 (Int.tdiv ji15 2)))) > (wrap64 (a2 + 1))
                · rw [if_pos c19] at H
                  have c19b0 : decide ((wrap64 (a2 + 1)) < (wrap64 ((Go.bits .or .i64 (Go.bits .andNot .i64 (wrap64 (a2 + 1)) (wrap64 ((ji15) - 1))) (wrap64 (a0))) - (wrap64 (Int.tdiv ji15 2))))) = true := decide_eq_true c19
                  clear c19
                  by_cases c20 : (Go.bits .or .i64 (Go.bits .andNot .i64 (wrap64 (a2 + 1)) (wrap64 ((ji15) - 1))) (wrap64 (a0))) ≥ ji15
                  · rw [if_pos c20] at H
                    have c20b0 : decide (ji15 ≤ (Go.bits .or .i64 (Go.bits .andNot .i64 (wrap64 (a2 + 1)) (wrap64 ((ji15) - 1))) (wrap64 (a0)))) = true := decide_eq_true c20
                    clear c20
                    simp only [Option.some.injEq, Prod.mk.injEq] at H
                    obtain ⟨rfl, rfl⟩ := H
                    go_wp2
                    repeat (go_quiet (fail); try go_wp2)
                    go_ret2
                    exact ⟨by first | rfl | (simp; done) | (simp only [← hji13, ← hji15] <;> (first | rfl | simp)) | (simp [*]; done), by repeat (first | exact Drawn0.refl _ | apply Drawn0.step)⟩
                  · rw [if_neg c20] at H
                    have c20b0 : decide (ji15 ≤ (Go.bits .or .i64 (Go.bits .andNot .i64 (wrap64 (a2 + 1)) (wrap64 ((ji15) - 1))) (wrap64 (a0)))) = false := decide_eq_false c20
                    clear c20
                    by_cases c21 : (Go.bits .or .i64 (Go.bits .andNot .i64 (wrap64 (a2 + 1)) (wrap64 ((ji15) - 1))) (wrap64 (a0))) > 4611686018427387903
                    · rw [if_pos c21] at H
                      have c21b0 : decide (4611686018427387903 < (Go.bits .or .i64 (Go.bits .andNot .i64 (wrap64 (a2 + 1)) (wrap64 ((ji15) - 1))) (wrap64 (a0)))) = true := decide_eq_true c21
                      clear c21
                      simp only [Option.some.injEq, Prod.mk.injEq] at H
                      obtain ⟨rfl, rfl⟩ := H
                      go_wp2
                      repeat (go_quiet (fail); try go_wp2)
                      go_ret2
                      exact ⟨by first | rfl | (simp; done) | (simp only [← hji13, ← hji15] <;> (first | rfl | simp)) | (simp [*]; done), by repeat (first | exact Drawn0.refl _ | apply Drawn0.step)⟩
                    · rw [if_neg c21] at H
                      have c21b0 : decide (4611686018427387903 < (Go.bits .or .i64 (Go.bits .andNot .i64 (wrap64 (a2 + 1)) (wrap64 ((ji15) - 1))) (wrap64 (a0)))) = false := decide_eq_false c21
                      clear c21
                      simp only [Option.some.injEq, Prod.mk.injEq] at H
                      obtain ⟨rfl, rfl⟩ := H
                      go_wp2
                      repeat (go_quiet (fail); try go_wp2)
                      go_ret2
                      exact ⟨by first | rfl | (simp; done) | (simp only [← hji13, ← hji15] <;> (first | rfl | simp)) | (simp [*]; done), by repeat (first | exact Drawn0.refl _ | apply Drawn0.step)⟩
                · rw [if_neg c19] at H
                  have c19b0 : decide ((wrap64 (a2 + 1)) < (wrap64 ((Go.bits .or .i64 (Go.bits .andNot .i64 (wrap64 (a2 + 1)) (wrap64 ((ji15) - 1))) (wrap64 (a0))) - (wrap64 (Int.tdiv ji15 2))))) = false := decide_eq_false c19
                  clear c19
                  by_cases c22 : (Go.bits .or .i64 (Go.bits .andNot .i64 (wrap64 (a2 + 1)) (wrap64 ((ji15) - 1))) (wrap64 (a0))) > 4611686018427387903
                  · rw [if_pos c22] at H
                    have c22b0 : decide (4611686018427387903 < (Go.bits .or .i64 (Go.bits .andNot .i64 (wrap64 (a2 + 1)) (wrap64 ((ji15) - 1))) (wrap64 (a0)))) = true := decide_eq_true c22
                    clear c22
                    simp only [Option.some.injEq, Prod.mk.injEq] at H
                    obtain ⟨rfl, rfl⟩ := H
                    go_wp2
                    repeat (go_quiet (fail); try go_wp2)
                    go_ret2
                    exact ⟨by first | rfl | (simp; done) | (simp only [← hji13, ← hji15] <;> (first | rfl | simp)) | (simp [*]; done), by repeat (first | exact Drawn0.refl _ | apply Drawn0.step)⟩
                  · rw [if_neg c22] at H
                    have c22b0 : decide (4611686018427387903 < (Go.bits .or .i64 (Go.bits .andNot .i64 (wrap64 (a2 + 1)) (wrap64 ((ji15) - 1))) (wrap64 (a0)))) = false := decide_eq_false c22
                    clear c22
                    simp only [Option.some.injEq, Prod.mk.injEq] at H
                    obtain ⟨rfl, rfl⟩ := H
                    go_wp2
                    repeat (go_quiet (fail); try go_wp2)
                    go_ret2
                    exact ⟨by first | rfl | (simp; done) | (simp only [← hji13, ← hji15] <;> (first | rfl | simp)) | (simp [*]; done), by repeat (first | exact Drawn0.refl _ | apply Drawn0.step)⟩
        · rw [if_neg c14] at H
          exact absurd H (by simp)

end Go.Proofs.Ytpilpgdlgkndmaa.QOct
