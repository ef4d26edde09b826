/- The pacer whole: Budget, New, Sent, When. -/
import Derived.Test.YtmkojmjjlcfohaaPacE2
import Derived.LoopTactic
set_option linter.unusedVariables false
set_option linter.unusedSimpArgs false
namespace Go.Proofs.Ytmkojmjjlcfohaa.Pc
open Go.RowKit Go.Lib
/-- A pacer at block g. -/
structure Pac (w : World) (g : Nat) (bu b t : Int) : Prop where
  c0 : w.cell? ⟨g, 0, none⟩ = some (.int .i64 bu)
  c1 : w.cell? ⟨g, 1, none⟩ = some (.int .i64 b)
  c2 : w.cell? ⟨g, 2, none⟩ = some (.int .i64 t)
  z1 : w.frozen? ⟨g, 1, none⟩ = false
  z2 : w.frozen? ⟨g, 2, none⟩ = false
theorem Pac.below {w w' : World} {g : Nat} {bu b t : Int} (h : Pac w g bu b t) (hb : Below w.heap.size w w') : Pac w' g bu b t :=
  ⟨(hb.cell (World.block_lt_of_cell? w _ h.c0)).trans h.c0, (hb.cell (World.block_lt_of_cell? w _ h.c1)).trans h.c1, (hb.cell (World.block_lt_of_cell? w _ h.c2)).trans h.c2, (hb.frozen (World.block_lt_of_cell? w _ h.c1)).trans h.z1, (hb.frozen (World.block_lt_of_cell? w _ h.c2)).trans h.z2⟩
theorem balloc {w W : World} (h : Below w.heap.size w W) (o : Obj) : Below w.heap.size w (W.alloc o) := h.alloc h.size o
theorem bdrew {B : Nat} {w W : World} (h : Below B w W) {n : Nat} : Below B w (W.drewN n) := ⟨h.os, h.tape, h.output, h.size, h.block⟩
theorem quiet_of2 {P : Program} {f : FuncId} {args : Array Value} {w : World} {k n : Nat} {v : Value}
    (h : Calls P f args (w.drewN (k + n)) fun e w' => e = .returned v ∧ ∃ m, w' = (w.drewN (k + n)).drewN m) : Calls P f args (w.drewN (k + n)) fun e w'' => e = .returned v ∧ ∃ m, w'' = w.drewN (k + m) :=
  h.mono fun _ _ ⟨he, m, hm⟩ => ⟨he, n + m, by rw [hm, World.drewN_drewN, Nat.add_assoc]⟩
theorem none_p {w : World} {g : Nat} {bu b t : Int} (h : Pac w g bu b t) (h0 : bu ≠ 0) : Calls Try.prog 36 #[.pointer (some ⟨g, 0, none⟩)] w fun e w' => e = .returned (.bool false) ∧ w = w' := by
  obtain ⟨c0, c1, c2, z1, z2⟩ := h
  have hd : (bu == 0) = false := beq_eq_false_iff_ne.mpr h0
  go_enter Try.func36, Try.ntmps36
  go_wp2_with fail
  go_ret
  exact ⟨rfl, rfl⟩
set_option maxRecDepth 100000 in
/-- What came since, by the closure. -/
theorem came_any (HD : DivOk) (w : World) (g g1 g2 g3 g4 : Nat) (bu b t now wi rt wf rf dd : Int) (h : Pac w g bu b t)
    (k1 : w.cell? ⟨g1, 0, none⟩ = some (.int .i64 wi)) (k2 : w.cell? ⟨g2, 0, none⟩ = some (.int .i64 rt)) (k3 : w.cell? ⟨g3, 0, none⟩ = some (.int .i64 now)) (k4 : w.cell? ⟨g4, 0, none⟩ = some (.pointer (some ⟨g, 0, none⟩)))
    (t0 : 0 ≤ t) (t1 : t ≤ now) (t2 : now ≤ 4611686018427387904) (hdd : dd = min (now - t) 1073741824) (b0 : 0 ≤ b) (b1 : b ≤ bu) (b2 : bu ≤ 4611686018427387904) (h0 : 0 ≤ wi) (hwf : wf = min wi 1073741824) (h2 : 0 ≤ rt) (hrf : rf = min (max rt 1) 1125899906842624) :
    Calls Try.prog 37 #[.pointer (some ⟨g1, 0, none⟩), .pointer (some ⟨g2, 0, none⟩), .pointer (some ⟨g3, 0, none⟩), .pointer (some ⟨g4, 0, none⟩)] w fun e w' => e = .returned (.int .i64 (min (dd * (5 * wf) / (4 * rf)) (bu - b))) ∧ ∃ m, w' = w.drewN m := by
  obtain ⟨c0, c1, c2, _, _⟩ := h
  have z0 : 0 ≤ dd * (5 * wf) := Int.mul_nonneg (by omega) (by omega)
  have z1 : dd * (5 * wf) ≤ 1073741824 * 5368709120 := Int.mul_le_mul (by omega) (by omega) (by omega) (by omega)
  have q0 : 0 ≤ dd * (5 * wf) / (4 * rf) := Int.ediv_nonneg z0 (by omega)
  obtain ⟨z, hz⟩ : ∃ z, dd * (5 * wf) = z := ⟨_, rfl⟩
  rw [hz] at z0 z1 q0 ⊢
  have m0 : 0 ≤ min (z / (4 * rf)) (bu - b) := by omega
  have m1 : min (z / (4 * rf)) (bu - b) ≤ 4611686018427387904 := by omega
  obtain ⟨m, hm⟩ : ∃ m, min (z / (4 * rf)) (bu - b) = m := ⟨_, rfl⟩
  rw [hm] at m0 m1 ⊢
  have e1 : IntKind.i64.wrap (now - t) = now - t := by rw [IntKind.wrap_i64]; omega
  have e2 : (if (1073741824 : Int) < now - t then (1073741824 : Int) else now - t) = dd := by split <;> omega
  have e3 : IntKind.u64.wrap dd = dd := by rw [IntKind.wrap_u64]; omega
  have e4 : IntKind.i64.wrap (bu - b) = bu - b := by rw [IntKind.wrap_i64]; omega
  have e5 : IntKind.u64.wrap (bu - b) = bu - b := by rw [IntKind.wrap_u64]; omega
  have e6 : IntKind.i64.wrap m = m := by rw [IntKind.wrap_i64]; omega
  have hs : ∀ W : World, Calls Try.prog 39 #[.int .u64 dd, .int .u64 (5 * wf), .int .u64 (4 * rf), .int .u64 0, .int .u64 (bu - b)] W fun e w' => e = .returned (.int .u64 m) ∧ ∃ m, w' = W.drewN m := by
    intro W
    have := scaled_any HD dd (5 * wf) (4 * rf) 0 (bu - b) z hz (by omega) (by omega) (by omega) (by omega) z0 (by omega) (by omega) (by omega) (by omega) (by omega) (by omega) (by omega) W
    rw [Int.add_zero, hm] at this
    exact this
  have Hr := Aside0.mk (fun W => rate_any wi rt wf rf h0 hwf h2 hrf W)
  have Hs := Aside0.mk hs
  clear hz hm q0 hwf hrf hdd hs
  go_enter Try.func37, Try.ntmps37
  go_wp2_with (go_at_call 38; refine (Hr.out _).mono ?_; rintro e w' ⟨rfl, hw⟩; rw [hw]; clear hw)
  go_quiet (exact Calls.quiet_of (Hs.out _))
  go_wp2
  go_ret
  exact ⟨rfl, _, rfl⟩
theorem min3_nn (x y z : Int) (hx : 0 ≤ x) (hy : 0 ≤ y) (hz : 0 ≤ z) : ∃ m : Int, 0 ≤ m ∧ ∀ W : World, (Builtin.min_ #[3, 3, 3] 3 #[.int .i64 x, .int .i64 y, .int .i64 z]).run Try.prog W = .ok (.int .i64 m) W := by
  refine ⟨if z < (if y < x then y else x) then z else (if y < x then y else x), by split <;> split <;> omega, fun W => ?_⟩
  simp [Builtin.min_, Builtin.min2, go_sem]
theorem min4_nn (x y z u : Int) (hx : 0 ≤ x) (hy : 0 ≤ y) (hz : 0 ≤ z) (hu : 0 ≤ u) : ∃ m : Int, 0 ≤ m ∧ ∀ W : World, (Builtin.min_ #[3, 3, 3, 3] 3 #[.int .i64 x, .int .i64 y, .int .i64 z, .int .i64 u]).run Try.prog W = .ok (.int .i64 m) W := by
  refine ⟨if u < (if z < (if y < x then y else x) then z else (if y < x then y else x)) then u else (if z < (if y < x then y else x) then z else (if y < x then y else x)), by split <;> split <;> split <;> omega, fun W => ?_⟩
  simp [Builtin.min_, Builtin.min2, go_sem]
set_option maxRecDepth 100000 in
theorem budget_stay (w : World) (g : Nat) (bu b t now wi rt : Int) (h : Pac w g bu b t) (hbu : bu ≠ 0) (t0 : 0 ≤ now) (t1 : now ≤ t) (h0 : 0 ≤ wi) (h2 : 0 ≤ rt) :
    Calls Try.prog 13 #[.pointer (some ⟨g, 0, none⟩), .int .i64 now, .int .i64 wi, .int .i64 rt] w fun e w' => e = .returned (.int .i64 b) ∧ Below w.heap.size w w' := by
  have H := Aside0.mk h
  obtain ⟨c0, c1, c2, z1, z2⟩ := h
  have hB : Below w.heap.size w ((((w.alloc (.cells #[.pointer (some ⟨g, 0, none⟩)] 24)).alloc (.cells #[.int .i64 now] 3)).alloc (.cells #[.int .i64 wi] 3)).alloc (.cells #[.int .i64 rt] 3)) := by repeat (first | exact Below.refl _ _ | apply balloc)
  have c1a := (H.out.below hB).c1
  have c2a := (H.out.below hB).c2
  clear hB
  obtain ⟨mm, hm0, hm⟩ := min3_nn now wi rt t0 h0 h2
  have hd : decide (mm < 0) = false := decide_eq_false (by omega)
  go_enter Try.func13, Try.ntmps13
  have hmf : ∀ (fn : Fn) (first cap : Array Value) (w : World), (Instr.makeFunc fn first cap).run Try.prog w = .ok (.func fn first cap) w := fun _ _ _ _ => rfl
  go_wp2_with (go_at_call 36; refine (none_p (H.out.below (by repeat (first | exact Below.refl _ _ | apply balloc))) hbu).mono ?_; rintro e w' ⟨rfl, rfl⟩)
  go_quiet (fail)
  go_wp2
  go_ret
  exact ⟨rfl, by repeat (first | exact Below.refl _ _ | apply bdrew | apply balloc)⟩
theorem budget_any (HD : DivOk) (w : World) (g : Nat) (bu b t now wi rt wf rf dd : Int) (h : Pac w g bu b t) (hbu : bu ≠ 0)
    (t0 : 0 ≤ t) (t1 : t < now) (t2 : now ≤ 4611686018427387904) (hdd : dd = min (now - t) 1073741824) (b0 : 0 ≤ b) (b1 : b ≤ bu) (b2 : bu ≤ 4611686018427387904) (h0 : 0 ≤ wi) (hwf : wf = min wi 1073741824) (h2 : 0 ≤ rt) (hrf : rf = min (max rt 1) 1125899906842624) :
    Calls Try.prog 13 #[.pointer (some ⟨g, 0, none⟩), .int .i64 now, .int .i64 wi, .int .i64 rt] w fun e w' => e = .returned (.int .i64 (b + min (dd * (5 * wf) / (4 * rf)) (bu - b))) ∧ Below w.heap.size w w' := by
  have H := Aside0.mk h
  obtain ⟨c0, c1, c2, z1, z2⟩ := h
  have hB : Below w.heap.size w ((((w.alloc (.cells #[.pointer (some ⟨g, 0, none⟩)] 24)).alloc (.cells #[.int .i64 now] 3)).alloc (.cells #[.int .i64 wi] 3)).alloc (.cells #[.int .i64 rt] 3)) := by repeat (first | exact Below.refl _ _ | apply balloc)
  have c1a := (H.out.below hB).c1
  have c2a := (H.out.below hB).c2
  clear hB
  obtain ⟨mm, hm0, hm⟩ := min3_nn now wi rt (by omega) h0 (by omega)
  have hd : decide (mm < 0) = false := decide_eq_false (by omega)
  have q0 : 0 ≤ dd * (5 * wf) / (4 * rf) := Int.ediv_nonneg (Int.mul_nonneg (by omega) (by omega)) (by omega)
  have m0 : 0 ≤ min (dd * (5 * wf) / (4 * rf)) (bu - b) := by omega
  have m1 : min (dd * (5 * wf) / (4 * rf)) (bu - b) ≤ bu - b := by omega
  obtain ⟨m, hm'⟩ : ∃ m, min (dd * (5 * wf) / (4 * rf)) (bu - b) = m := ⟨_, rfl⟩
  have hc : ∀ (W : World), Below w.heap.size w W → ∀ g1 g2 g3 g4 : Nat, W.cell? ⟨g1, 0, none⟩ = some (.int .i64 wi) → W.cell? ⟨g2, 0, none⟩ = some (.int .i64 rt) → W.cell? ⟨g3, 0, none⟩ = some (.int .i64 now) → W.cell? ⟨g4, 0, none⟩ = some (.pointer (some ⟨g, 0, none⟩)) →
      Calls Try.prog 37 #[.pointer (some ⟨g1, 0, none⟩), .pointer (some ⟨g2, 0, none⟩), .pointer (some ⟨g3, 0, none⟩), .pointer (some ⟨g4, 0, none⟩)] W fun e w' => e = .returned (.int .i64 m) ∧ ∃ m, w' = W.drewN m := by
    intro W hB g1 g2 g3 g4 k1 k2 k3 k4
    have := came_any HD W g g1 g2 g3 g4 bu b t now wi rt wf rf dd (H.out.below hB) k1 k2 k3 k4 t0 (by omega) t2 hdd b0 b1 b2 h0 hwf h2 hrf
    rw [hm'] at this
    exact this
  rw [hm'] at m0 m1 ⊢
  have Hc := Aside0.mk hc
  clear hc hm' q0
  have e1 : IntKind.i64.wrap (b + m) = b + m := by rw [IntKind.wrap_i64]; omega
  go_enter Try.func13, Try.ntmps13
  have hmf : ∀ (fn : Fn) (first cap : Array Value) (w : World), (Instr.makeFunc fn first cap).run Try.prog w = .ok (.func fn first cap) w := fun _ _ _ _ => rfl
  go_wp2_with (go_at_call 36; refine (none_p (H.out.below (by repeat (first | exact Below.refl _ _ | apply balloc))) hbu).mono ?_; rintro e w' ⟨rfl, rfl⟩)
  go_quiet (fail)
  go_wp2_with fail
  go_quiet (exact quiet_of2 (Hc.out _ (by repeat (first | exact Below.refl _ _ | apply bdrew | apply balloc)) _ _ _ _ (by go_simp) (by go_simp) (by go_simp) (by go_simp)))
  go_wp2
  go_ret
  exact ⟨rfl, by repeat (first | exact Below.refl _ _ | apply bdrew | apply balloc)⟩
theorem new_ok (w : World) (s : Int) (h0 : 1200 ≤ s) (h1 : s ≤ 65535) :
    Calls Try.prog 12 #[.int .i64 s] w fun e w' => e = .returned (.tuple #[.pointer (some ⟨w.heap.size, 0, none⟩), .int .i64 0]) ∧ Below w.heap.size w w' ∧ Pac w' w.heap.size (10 * s) (10 * s) 0 := by
  go_enter Try.func12, Try.ntmps12
  go_wp2_with fail
  go_ret2
  exact ⟨rfl, by repeat (first | exact Below.refl _ _ | apply balloc), by constructor <;> go_simp⟩
set_option maxRecDepth 100000 in
theorem sent_ok (w : World) (base g : Nat) (bu b t n now wi rt B x : Int) (hg : base ≤ g) (hw : base ≤ w.heap.size) (h : Pac w g bu b t) (hbu : bu ≠ 0) (hn : 0 ≤ n) (hnow : 0 ≤ now) (hnow1 : now ≤ 1125899906842624) (ht : t ≤ now) (h0 : 0 ≤ wi) (h2 : 0 ≤ rt)
    (hB : Calls Try.prog 13 #[.pointer (some ⟨g, 0, none⟩), .int .i64 now, .int .i64 wi, .int .i64 rt] w fun e w' => e = .returned (.int .i64 B) ∧ Below w.heap.size w w')
    (hr0 : -9223372036854775808 ≤ B - n) (hr1 : B - n ≤ 9223372036854775807) (hx : (if B - n > 0 then B - n else 0) = x) :
    Calls Try.prog 14 #[.pointer (some ⟨g, 0, none⟩), .int .i64 n, .int .i64 now, .int .i64 wi, .int .i64 rt] w fun e w' => e = .returned (.int .i64 0) ∧ Below base w w' ∧ Pac w' g bu x now := by
  have H := Aside0.mk h
  have HC := Aside0.mk hB
  have HG := Aside0.mk (And.intro hg hw)
  obtain ⟨c0, c1, c2, z1, z2⟩ := h
  obtain ⟨mm, hm0, hm⟩ := min4_nn n now wi rt hn hnow h0 h2
  have hd : decide (mm < 0) = false := decide_eq_false (by omega)
  have hd2 : decide (now > 1125899906842624) = false := decide_eq_false (by omega)
  have e1 : IntKind.i64.wrap (B - n) = B - n := by rw [IntKind.wrap_i64]; omega
  obtain ⟨y, hy⟩ : ∃ y, B - n = y := ⟨_, rfl⟩
  have e2 : ∀ W : World, (Builtin.max_ #[3, 3] 3 #[.int .i64 0, .int .i64 y]).run Try.prog W = .ok (.int .i64 x) W := by
    intro W; rw [← hx, hy]; simp [Builtin.max_, Builtin.max2, go_sem]
  have e3 : ∀ W : World, (Builtin.max_ #[3, 3] 3 #[.int .i64 t, .int .i64 now]).run Try.prog W = .ok (.int .i64 now) W := by
    intro W
    have : (if now > t then now else t) = now := by split <;> omega
    simp [Builtin.max_, Builtin.max2, go_sem, this]
  rw [hy] at e1
  clear hx hB hg hw hr0 hr1
  go_enter Try.func14, Try.ntmps14
  go_wp2_with (first
    | (go_at_call 36; refine (none_p H.out hbu).mono ?_; rintro e w' ⟨rfl, rfl⟩)
    | (go_at_call 13; refine HC.out.mono ?_; rintro e w1 ⟨rfl, hb1⟩; obtain ⟨d0, d1, d2, y1, y2⟩ := H.out.below hb1; have HB1 := Aside0.mk hb1; clear hb1))
  go_ret
  refine ⟨rfl, ?_, by constructor <;> go_simp⟩
  exact ((HB1.out.mono HG.out.2).setCell HG.out.1 _).setCell HG.out.1 _
theorem min4_any (x y z u : Int) : ∃ m : Int, (m < 0 ↔ (x < 0 ∨ y < 0 ∨ z < 0 ∨ u < 0)) ∧ ∀ W : World, (Builtin.min_ #[3, 3, 3, 3] 3 #[.int .i64 x, .int .i64 y, .int .i64 z, .int .i64 u]).run Try.prog W = .ok (.int .i64 m) W := by
  refine ⟨if u < (if z < (if y < x then y else x) then z else (if y < x then y else x)) then u else (if z < (if y < x then y else x) then z else (if y < x then y else x)), by split <;> split <;> split <;> omega, fun W => ?_⟩
  simp [Builtin.min_, Builtin.min2, go_sem]
/-- Sent of what is wrong is refused. -/
theorem sent_err (w : World) (g : Nat) (bu b t n now wi rt : Int) (h : Pac w g bu b t) (hbu : bu ≠ 0) (hbad : (n < 0 ∨ now < 0 ∨ wi < 0 ∨ rt < 0) ∨ 1125899906842624 < now) :
    Calls Try.prog 14 #[.pointer (some ⟨g, 0, none⟩), .int .i64 n, .int .i64 now, .int .i64 wi, .int .i64 rt] w fun e w' => e = .returned (.int .i64 2) ∧ w = w' := by
  obtain ⟨mm, hm0, hm⟩ := min4_any n now wi rt
  have H := Aside0.mk h
  by_cases hneg : mm < 0
  · have hd : decide (mm < 0) = true := decide_eq_true hneg
    clear hbad hm0
    go_enter Try.func14, Try.ntmps14
    go_wp2_with (go_at_call 36; refine (none_p H.out hbu).mono ?_; rintro e w' ⟨rfl, hw⟩; rw [← hw]; clear hw)
    go_ret
    exact ⟨rfl, rfl⟩
  · have hd : decide (mm < 0) = false := decide_eq_false hneg
    have hn : 1125899906842624 < now := by rcases hbad with hb | hb; exact absurd (hm0.2 hb) hneg; exact hb
    clear hbad hm0
    go_enter Try.func14, Try.ntmps14
    go_wp2_with (go_at_call 36; refine (none_p H.out hbu).mono ?_; rintro e w' ⟨rfl, hw⟩; rw [← hw]; clear hw)
    go_ret
    exact ⟨rfl, rfl⟩
theorem when_err (w : World) (g : Nat) (bu b t n wi rt : Int) (h : Pac w g bu b t) (hbu : bu ≠ 0) (hn : n < 0) :
    Calls Try.prog 15 #[.pointer (some ⟨g, 0, none⟩), .int .i64 n, .int .i64 wi, .int .i64 rt] w fun e w' => e = .returned (.tuple #[.int .i64 0, .int .i64 2]) ∧ w = w' := by
  obtain ⟨mm, hm0, hm⟩ : ∃ m : Int, m < 0 ∧ ∀ W : World, (Builtin.min_ #[3, 3, 3] 3 #[.int .i64 n, .int .i64 wi, .int .i64 rt]).run Try.prog W = .ok (.int .i64 m) W := by
    refine ⟨if rt < (if wi < n then wi else n) then rt else (if wi < n then wi else n), by split <;> split <;> omega, fun W => ?_⟩
    simp [Builtin.min_, Builtin.min2, go_sem]
  have hd : decide (mm < 0) = true := decide_eq_true hm0
  have H := Aside0.mk h
  go_enter Try.func15, Try.ntmps15
  go_wp2_with (go_at_call 36; refine (none_p H.out hbu).mono ?_; rintro e w' ⟨rfl, hw⟩; rw [← hw]; clear hw)
  go_ret2
  exact ⟨rfl, rfl⟩
theorem when_big (w : World) (g : Nat) (bu b t n wi rt : Int) (h : Pac w g bu b t) (hbu : bu ≠ 0) (hn0 : 0 ≤ n) (h0 : 0 ≤ wi) (h2 : 0 ≤ rt) (hn : bu < n) :
    Calls Try.prog 15 #[.pointer (some ⟨g, 0, none⟩), .int .i64 n, .int .i64 wi, .int .i64 rt] w fun e w' => e = .returned (.tuple #[.int .i64 0, .int .i64 3]) ∧ w = w' := by
  obtain ⟨mm, hm0, hm⟩ := min3_nn n wi rt hn0 h0 h2
  have hd : decide (mm < 0) = false := decide_eq_false (by omega)
  have H := Aside0.mk h
  obtain ⟨c0, c1, c2, z1, z2⟩ := h
  go_enter Try.func15, Try.ntmps15
  go_wp2_with (go_at_call 36; refine (none_p H.out hbu).mono ?_; rintro e w' ⟨rfl, hw⟩; rw [← hw]; clear hw)
  go_ret2
  exact ⟨rfl, rfl⟩
theorem when_now (w : World) (g : Nat) (bu b t n wi rt : Int) (h : Pac w g bu b t) (hbu : bu ≠ 0) (hn0 : 0 ≤ n) (h0 : 0 ≤ wi) (h2 : 0 ≤ rt) (hn : n ≤ bu) (hn2 : n ≤ b) :
    Calls Try.prog 15 #[.pointer (some ⟨g, 0, none⟩), .int .i64 n, .int .i64 wi, .int .i64 rt] w fun e w' => e = .returned (.tuple #[.int .i64 t, .int .i64 0]) ∧ w = w' := by
  obtain ⟨mm, hm0, hm⟩ := min3_nn n wi rt hn0 h0 h2
  have hd : decide (mm < 0) = false := decide_eq_false (by omega)
  have H := Aside0.mk h
  obtain ⟨c0, c1, c2, z1, z2⟩ := h
  have hd2 : decide (bu < n) = false := decide_eq_false (by omega)
  go_enter Try.func15, Try.ntmps15
  go_wp2_with (go_at_call 36; refine (none_p H.out hbu).mono ?_; rintro e w' ⟨rfl, hw⟩; rw [← hw]; clear hw)
  go_ret2
  exact ⟨rfl, rfl⟩
theorem when_none (w : World) (g : Nat) (bu b t n rt : Int) (h : Pac w g bu b t) (hbu : bu ≠ 0) (hn0 : 0 ≤ n) (h2 : 0 ≤ rt) (hn : n ≤ bu) (hn2 : b < n) :
    Calls Try.prog 15 #[.pointer (some ⟨g, 0, none⟩), .int .i64 n, .int .i64 0, .int .i64 rt] w fun e w' => e = .returned (.tuple #[.int .i64 0, .int .i64 15]) ∧ w = w' := by
  obtain ⟨mm, hm0, hm⟩ := min3_nn n 0 rt hn0 (by omega) h2
  have hd : decide (mm < 0) = false := decide_eq_false (by omega)
  have H := Aside0.mk h
  obtain ⟨c0, c1, c2, z1, z2⟩ := h
  have hd2 : decide (bu < n) = false := decide_eq_false (by omega)
  have hd3 : decide (n ≤ b) = false := decide_eq_false (by omega)
  go_enter Try.func15, Try.ntmps15
  go_wp2_with (go_at_call 36; refine (none_p H.out hbu).mono ?_; rintro e w' ⟨rfl, hw⟩; rw [← hw]; clear hw)
  go_ret2
  exact ⟨rfl, rfl⟩
set_option maxRecDepth 100000 in
set_option maxHeartbeats 1000000 in
theorem when_later (HD : DivOk) (w : World) (g : Nat) (bu b t n wi rt wf rf : Int) (h : Pac w g bu b t) (hbu : bu ≠ 0) (hn0 : 0 ≤ n) (h0 : 0 < wi) (hwf : wf = min wi 1073741824) (h2 : 0 ≤ rt) (hrf : rf = min (max rt 1) 1125899906842624) (hn : n ≤ bu) (hn2 : b < n) (b0 : 0 ≤ b) (b1 : bu ≤ 12000) (t0 : 0 ≤ t) (t1 : t ≤ 1125899906842624) :
    Calls Try.prog 15 #[.pointer (some ⟨g, 0, none⟩), .int .i64 n, .int .i64 wi, .int .i64 rt] w fun e w' => e = .returned (.tuple #[.int .i64 (t + min (((n - b) * (4 * rf) + (5 * wf - 1)) / (5 * wf)) 1152921504606846976), .int .i64 0]) ∧ ∃ m, w' = w.drewN m := by
  obtain ⟨mm, hm0, hm⟩ := min3_nn n wi rt hn0 (by omega) h2
  have hd : decide (mm < 0) = false := decide_eq_false (by omega)
  have H := Aside0.mk h
  obtain ⟨c0, c1, c2, z1, z2⟩ := h
  have hd2 : decide (bu < n) = false := decide_eq_false (by omega)
  have hd3 : decide (n ≤ b) = false := decide_eq_false (by omega)
  have hd4 : (wi == 0) = false := beq_eq_false_iff_ne.mpr (by omega)
  have y0 : 0 ≤ (n - b) * (4 * rf) := Int.mul_nonneg (by omega) (by omega)
  have y1 : (n - b) * (4 * rf) ≤ 12000 * 4503599627370496 := Int.mul_le_mul (by omega) (by omega) (by omega) (by omega)
  obtain ⟨z, hz⟩ : ∃ z, (n - b) * (4 * rf) = z := ⟨_, rfl⟩
  rw [hz] at y0 y1 ⊢
  have q0 : 0 ≤ (z + (5 * wf - 1)) / (5 * wf) := Int.ediv_nonneg (by omega) (by omega)
  have m0 : 0 ≤ min ((z + (5 * wf - 1)) / (5 * wf)) 1152921504606846976 := by omega
  have m1 : min ((z + (5 * wf - 1)) / (5 * wf)) 1152921504606846976 ≤ 1152921504606846976 := by omega
  obtain ⟨m, hm'⟩ : ∃ m, min ((z + (5 * wf - 1)) / (5 * wf)) 1152921504606846976 = m := ⟨_, rfl⟩
  have hs : ∀ W : World, Calls Try.prog 39 #[.int .u64 (n - b), .int .u64 (4 * rf), .int .u64 (5 * wf), .int .u64 (5 * wf - 1), .int .u64 1152921504606846976] W fun e w' => e = .returned (.int .u64 m) ∧ ∃ m, w' = W.drewN m := by
    intro W
    have := scaled_any HD (n - b) (4 * rf) (5 * wf) (5 * wf - 1) 1152921504606846976 z hz (by omega) (by omega) (by omega) (by omega) y0 (by omega) (by omega) (by omega) (by omega) (by omega) (by omega) (by omega) W
    rw [hm'] at this
    exact this
  rw [hm'] at m0 m1 ⊢
  have e1 : IntKind.i64.wrap (n - b) = n - b := by rw [IntKind.wrap_i64]; omega
  have e3 : IntKind.u64.wrap (n - b) = n - b := by rw [IntKind.wrap_u64]; omega
  have e4 : IntKind.u64.wrap (5 * wf - 1) = 5 * wf - 1 := by rw [IntKind.wrap_u64]; omega
  have e6 : IntKind.i64.wrap m = m := by rw [IntKind.wrap_i64]; omega
  have e7 : IntKind.i64.wrap (t + m) = t + m := by rw [IntKind.wrap_i64]; omega
  have Hr := Aside0.mk (fun W => rate_any wi rt wf rf (by omega) hwf h2 hrf W)
  have Hs := Aside0.mk hs
  clear hz hm' q0 hwf hrf hs
  go_enter Try.func15, Try.ntmps15
  go_wp2_with (first
    | (go_at_call 36; refine (none_p H.out hbu).mono ?_; rintro e w' ⟨rfl, hw⟩; rw [← hw]; clear hw)
    | (go_at_call 38; refine (Hr.out _).mono ?_; rintro e w' ⟨rfl, hw⟩; rw [hw]; clear hw))
  go_quiet (exact Calls.quiet_of (Hs.out _))
  go_wp2
  go_ret2
  exact ⟨rfl, _, rfl⟩
end Go.Proofs.Ytmkojmjjlcfohaa.Pc
