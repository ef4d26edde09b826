/- The pacer: what it holds, none, Budget, Sent, New. -/
import Derived.Test.YtpilpgdlgkndmaaPacer1
set_option linter.unusedVariables false
set_option linter.unusedSimpArgs false
namespace Go.Proofs.Ytpilpgdlgkndmaa.Pc
open Go.RowKit Go.Lib Go.Proofs.YtpilpgdlgkndmaaW.PrintWords
/-- A pacer at block g. -/
structure Pac (w : World) (g : Nat) (bu b t : Int) : Prop where
  c0 : w.cell? ⟨g, 0, none⟩ = some (.int .i64 bu)
  c1 : w.cell? ⟨g, 1, none⟩ = some (.int .i64 b)
  c2 : w.cell? ⟨g, 2, none⟩ = some (.int .i64 t)
  z1 : w.frozen? ⟨g, 1, none⟩ = false
  z2 : w.frozen? ⟨g, 2, none⟩ = false
theorem Pac.below {w w' : World} {g : Nat} {bu b t : Int} (h : Pac w g bu b t) (hb : Below w.heap.size w w') : Pac w' g bu b t :=
  ⟨(hb.cell (World.block_lt_of_cell? w _ h.c0)).trans h.c0, (hb.cell (World.block_lt_of_cell? w _ h.c1)).trans h.c1, (hb.cell (World.block_lt_of_cell? w _ h.c2)).trans h.c2, (hb.frozen (World.block_lt_of_cell? w _ h.c1)).trans h.z1, (hb.frozen (World.block_lt_of_cell? w _ h.c2)).trans h.z2⟩
theorem balloc {w W : World} (h : Below w.heap.size w W) (o : Obj) : Below w.heap.size w (W.alloc o) := h.alloc h.size o
theorem bdrew {B : Nat} {w W : World} (h : Below B w W) {n : Nat} : Below B w (W.drewN n) := ⟨h.os, h.tape, h.output, h.size, h.block⟩
theorem quiet_of2 {P : Program} {f : FuncId} {args : Array Value} {w : World} {k n : Nat} {v : Value}
    (h : Calls P f args (w.drewN (k + n)) fun e w' => e = .returned v ∧ ∃ m, w' = (w.drewN (k + n)).drewN m) : Calls P f args (w.drewN (k + n)) fun e w'' => e = .returned v ∧ ∃ m, w'' = w.drewN (k + m) :=
  h.mono fun _ _ ⟨he, m, hm⟩ => ⟨he, n + m, by rw [hm, World.drewN_drewN, Nat.add_assoc]⟩
theorem none_p {w : World} {g : Nat} {bu b t : Int} (h : Pac w g bu b t) (h0 : bu ≠ 0) : Calls Try.prog 44 #[.pointer (some ⟨g, 0, none⟩)] w fun e w' => e = .returned (.bool false) ∧ w = w' := by
  obtain ⟨c0, c1, c2, z1, z2⟩ := h
  have hd : (bu == 0) = false := beq_eq_false_iff_ne.mpr h0
  go_enter Try.func44, Try.ntmps44
  go_wp2_with fail
  go_ret
  exact ⟨rfl, rfl⟩
set_option maxRecDepth 100000 in
/-- What came since, by the closure. -/
theorem came_in (w : World) (g g1 g2 g3 g4 : Nat) (bu b t now wi rt : Int) (h : Pac w g bu b t)
    (k1 : w.cell? ⟨g1, 0, none⟩ = some (.int .i64 wi)) (k2 : w.cell? ⟨g2, 0, none⟩ = some (.int .i64 rt)) (k3 : w.cell? ⟨g3, 0, none⟩ = some (.int .i64 now)) (k4 : w.cell? ⟨g4, 0, none⟩ = some (.pointer (some ⟨g, 0, none⟩)))
    (t0 : 0 ≤ t) (t1 : t ≤ now) (t2 : now ≤ 4611686018427387904) (t3 : now - t ≤ 1073741824) (b0 : 0 ≤ b) (b1 : b ≤ bu) (b2 : bu ≤ 4611686018427387904) (h0 : 0 ≤ wi) (h1 : wi ≤ 1073741824) (h2 : 1 ≤ rt) (h3 : rt ≤ 1125899906842624) :
    Calls Try.prog 45 #[.pointer (some ⟨g1, 0, none⟩), .pointer (some ⟨g2, 0, none⟩), .pointer (some ⟨g3, 0, none⟩), .pointer (some ⟨g4, 0, none⟩)] w fun e w' => e = .returned (.int .i64 (min ((now - t) * (5 * wi) / (4 * rt)) (bu - b))) ∧ ∃ m, w' = w.drewN m := by
  obtain ⟨c0, c1, c2, _, _⟩ := h
  have z0 : 0 ≤ (now - t) * (5 * wi) := Int.mul_nonneg (by omega) (by omega)
  have z1 : (now - t) * (5 * wi) ≤ 1073741824 * 5368709120 := Int.mul_le_mul t3 (by omega) (by omega) (by omega)
  have q0 : 0 ≤ (now - t) * (5 * wi) / (4 * rt) := Int.ediv_nonneg z0 (by omega)
  obtain ⟨z, hz⟩ : ∃ z, (now - t) * (5 * wi) = z := ⟨_, rfl⟩
  rw [hz] at z0 z1 q0 ⊢
  have m0 : 0 ≤ min (z / (4 * rt)) (bu - b) := by omega
  have m1 : min (z / (4 * rt)) (bu - b) ≤ 4611686018427387904 := by omega
  obtain ⟨m, hm⟩ : ∃ m, min (z / (4 * rt)) (bu - b) = m := ⟨_, rfl⟩
  have Hz := Aside0.mk (And.intro hz hm)
  rw [hm] at m0 m1 ⊢
  clear hz hm q0
  go_enter Try.func45, Try.ntmps45
  go_wp2_with (go_at_call 46; refine (rate_in _ _ (by omega) (by omega) (by omega) (by omega) _).mono ?_; rintro e w' ⟨rfl, rfl⟩)
  have e1 : IntKind.i64.wrap (now - t) = now - t := by rw [IntKind.wrap_i64]; omega
  have e2 : (if (1073741824 : Int) < now - t then (1073741824 : Int) else now - t) = now - t := if_neg (by omega)
  have e3 : IntKind.u64.wrap (now - t) = now - t := by rw [IntKind.wrap_u64]; omega
  have e4 : IntKind.i64.wrap (bu - b) = bu - b := by rw [IntKind.wrap_i64]; omega
  have e5 : IntKind.u64.wrap (bu - b) = bu - b := by rw [IntKind.wrap_u64]; omega
  have e6 : IntKind.i64.wrap m = m := by rw [IntKind.wrap_i64]; omega
  have hs : ∀ W : World, Calls Try.prog 47 #[.int .u64 (now - t), .int .u64 (5 * wi), .int .u64 (4 * rt), .int .u64 0, .int .u64 (bu - b)] W fun e w' => e = .returned (.int .u64 m) ∧ ∃ m, w' = W.drewN m := by
    intro W
    have := scaled_in (now - t) (5 * wi) (4 * rt) (bu - b) z Hz.out.1 (by omega) (by omega) (by omega) (by omega) z0 (by omega) (by omega) (by omega) (by omega) (by omega) W
    rw [Hz.out.2] at this
    exact this
  go_quiet (exact Calls.quiet_of (hs _))
  go_wp2
  go_ret
  exact ⟨rfl, _, rfl⟩
theorem min3_nn (x y z : Int) (hx : 0 ≤ x) (hy : 0 ≤ y) (hz : 0 ≤ z) : ∃ m : Int, 0 ≤ m ∧ ∀ W : World, (Builtin.min_ #[3, 3, 3] 3 #[.int .i64 x, .int .i64 y, .int .i64 z]).run Try.prog W = .ok (.int .i64 m) W := by
  refine ⟨if z < (if y < x then y else x) then z else (if y < x then y else x), by split <;> split <;> omega, fun W => ?_⟩
  simp [Builtin.min_, Builtin.min2, go_sem]
theorem min4_nn (x y z u : Int) (hx : 0 ≤ x) (hy : 0 ≤ y) (hz : 0 ≤ z) (hu : 0 ≤ u) : ∃ m : Int, 0 ≤ m ∧ ∀ W : World, (Builtin.min_ #[3, 3, 3, 3] 3 #[.int .i64 x, .int .i64 y, .int .i64 z, .int .i64 u]).run Try.prog W = .ok (.int .i64 m) W := by
  refine ⟨if u < (if z < (if y < x then y else x) then z else (if y < x then y else x)) then u else (if z < (if y < x then y else x) then z else (if y < x then y else x)), by split <;> split <;> split <;> omega, fun W => ?_⟩
  simp [Builtin.min_, Builtin.min2, go_sem]
set_option maxRecDepth 100000 in
theorem budget_stay (w : World) (g : Nat) (bu b t now wi rt : Int) (h : Pac w g bu b t) (hbu : bu ≠ 0) (t0 : 0 ≤ now) (t1 : now ≤ t) (h0 : 0 ≤ wi) (h2 : 0 ≤ rt) :
    Calls Try.prog 33 #[.pointer (some ⟨g, 0, none⟩), .int .i64 now, .int .i64 wi, .int .i64 rt] w fun e w' => e = .returned (.int .i64 b) ∧ Below w.heap.size w w' := by
  have H := Aside0.mk h
  obtain ⟨c0, c1, c2, z1, z2⟩ := h
  have hB : Below w.heap.size w ((((w.alloc (.cells #[.pointer (some ⟨g, 0, none⟩)] 77)).alloc (.cells #[.int .i64 now] 3)).alloc (.cells #[.int .i64 wi] 3)).alloc (.cells #[.int .i64 rt] 3)) := by repeat (first | exact Below.refl _ _ | apply balloc)
  have c1a := (H.out.below hB).c1
  have c2a := (H.out.below hB).c2
  clear hB
  obtain ⟨mm, hm0, hm⟩ := min3_nn now wi rt t0 h0 h2
  have hd : decide (mm < 0) = false := decide_eq_false (by omega)
  go_enter Try.func33, Try.ntmps33
  have hmf : ∀ (fn : Fn) (first cap : Array Value) (w : World), (Instr.makeFunc fn first cap).run Try.prog w = .ok (.func fn first cap) w := fun _ _ _ _ => rfl
  go_wp2_with (go_at_call 44; refine (none_p (H.out.below (by repeat (first | exact Below.refl _ _ | apply balloc))) hbu).mono ?_; rintro e w' ⟨rfl, rfl⟩)
  go_quiet (fail)
  go_wp2
  go_ret
  exact ⟨rfl, by repeat (first | exact Below.refl _ _ | apply bdrew | apply balloc)⟩
theorem budget_more (w : World) (g : Nat) (bu b t now wi rt : Int) (h : Pac w g bu b t) (hbu : bu ≠ 0)
    (t0 : 0 ≤ t) (t1 : t < now) (t2 : now ≤ 4611686018427387904) (t3 : now - t ≤ 1073741824) (b0 : 0 ≤ b) (b1 : b ≤ bu) (b2 : bu ≤ 4611686018427387904) (h0 : 0 ≤ wi) (h1 : wi ≤ 1073741824) (h2 : 1 ≤ rt) (h3 : rt ≤ 1125899906842624) :
    Calls Try.prog 33 #[.pointer (some ⟨g, 0, none⟩), .int .i64 now, .int .i64 wi, .int .i64 rt] w fun e w' => e = .returned (.int .i64 (b + min ((now - t) * (5 * wi) / (4 * rt)) (bu - b))) ∧ Below w.heap.size w w' := by
  have H := Aside0.mk h
  obtain ⟨c0, c1, c2, z1, z2⟩ := h
  have hB : Below w.heap.size w ((((w.alloc (.cells #[.pointer (some ⟨g, 0, none⟩)] 77)).alloc (.cells #[.int .i64 now] 3)).alloc (.cells #[.int .i64 wi] 3)).alloc (.cells #[.int .i64 rt] 3)) := by repeat (first | exact Below.refl _ _ | apply balloc)
  have c1a := (H.out.below hB).c1
  have c2a := (H.out.below hB).c2
  clear hB
  obtain ⟨mm, hm0, hm⟩ := min3_nn now wi rt (by omega) h0 (by omega)
  have hd : decide (mm < 0) = false := decide_eq_false (by omega)
  have q0 : 0 ≤ (now - t) * (5 * wi) / (4 * rt) := Int.ediv_nonneg (Int.mul_nonneg (by omega) (by omega)) (by omega)
  have m0 : 0 ≤ min ((now - t) * (5 * wi) / (4 * rt)) (bu - b) := by omega
  have m1 : min ((now - t) * (5 * wi) / (4 * rt)) (bu - b) ≤ bu - b := by omega
  obtain ⟨m, hm'⟩ : ∃ m, min ((now - t) * (5 * wi) / (4 * rt)) (bu - b) = m := ⟨_, rfl⟩
  have hc : ∀ (W : World), Below w.heap.size w W → ∀ g1 g2 g3 g4 : Nat, W.cell? ⟨g1, 0, none⟩ = some (.int .i64 wi) → W.cell? ⟨g2, 0, none⟩ = some (.int .i64 rt) → W.cell? ⟨g3, 0, none⟩ = some (.int .i64 now) → W.cell? ⟨g4, 0, none⟩ = some (.pointer (some ⟨g, 0, none⟩)) →
      Calls Try.prog 45 #[.pointer (some ⟨g1, 0, none⟩), .pointer (some ⟨g2, 0, none⟩), .pointer (some ⟨g3, 0, none⟩), .pointer (some ⟨g4, 0, none⟩)] W fun e w' => e = .returned (.int .i64 m) ∧ ∃ m, w' = W.drewN m := by
    intro W hB g1 g2 g3 g4 k1 k2 k3 k4
    have := came_in W g g1 g2 g3 g4 bu b t now wi rt (H.out.below hB) k1 k2 k3 k4 t0 (by omega) t2 t3 b0 b1 b2 h0 h1 h2 h3
    rw [hm'] at this
    exact this
  rw [hm'] at m0 m1 ⊢
  have Hc := Aside0.mk hc
  clear hc hm' q0
  have e1 : IntKind.i64.wrap (b + m) = b + m := by rw [IntKind.wrap_i64]; omega
  go_enter Try.func33, Try.ntmps33
  have hmf : ∀ (fn : Fn) (first cap : Array Value) (w : World), (Instr.makeFunc fn first cap).run Try.prog w = .ok (.func fn first cap) w := fun _ _ _ _ => rfl
  go_wp2_with (go_at_call 44; refine (none_p (H.out.below (by repeat (first | exact Below.refl _ _ | apply balloc))) hbu).mono ?_; rintro e w' ⟨rfl, rfl⟩)
  go_quiet (fail)
  go_wp2_with fail
  go_quiet (exact quiet_of2 (Hc.out _ (by repeat (first | exact Below.refl _ _ | apply bdrew | apply balloc)) _ _ _ _ (by go_simp) (by go_simp) (by go_simp) (by go_simp)))
  go_wp2
  go_ret
  exact ⟨rfl, by repeat (first | exact Below.refl _ _ | apply bdrew | apply balloc)⟩
end Go.Proofs.Ytpilpgdlgkndmaa.Pc
