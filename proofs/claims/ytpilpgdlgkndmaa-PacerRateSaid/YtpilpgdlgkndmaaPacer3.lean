/- The pacer: New, Sent; PacerRate's walk; no condition but the reach of its arguments. -/
import Derived.Test.YtpilpgdlgkndmaaPacer2
import Derived.LoopTactic
set_option linter.unusedVariables false
set_option linter.unusedSimpArgs false
namespace Go.Proofs.Ytpilpgdlgkndmaa.Pc
open Go.RowKit Go.Lib Go.Proofs.YtpilpgdlgkndmaaW.PrintWords
theorem new_ok (w : World) (s : Int) (h0 : 1200 ≤ s) (h1 : s ≤ 65535) :
    Calls Try.prog 32 #[.int .i64 s] w fun e w' => e = .returned (.tuple #[.pointer (some ⟨w.heap.size, 0, none⟩), .int .i64 0]) ∧ Below w.heap.size w w' ∧ Pac w' w.heap.size (10 * s) (10 * s) 0 := by
  go_enter Try.func32, Try.ntmps32
  go_wp2_with fail
  go_ret2
  exact ⟨rfl, by repeat (first | exact Below.refl _ _ | apply balloc), by constructor <;> go_simp⟩
set_option maxRecDepth 100000 in
theorem sent_ok (w : World) (base g : Nat) (bu b t n now wi rt B x : Int) (hg : base ≤ g) (hw : base ≤ w.heap.size) (h : Pac w g bu b t) (hbu : bu ≠ 0) (hn : 0 ≤ n) (hnow : 0 ≤ now) (hnow1 : now ≤ 1125899906842624) (ht : t ≤ now) (h0 : 0 ≤ wi) (h2 : 0 ≤ rt)
    (hB : Calls Try.prog 33 #[.pointer (some ⟨g, 0, none⟩), .int .i64 now, .int .i64 wi, .int .i64 rt] w fun e w' => e = .returned (.int .i64 B) ∧ Below w.heap.size w w')
    (hr0 : -9223372036854775808 ≤ B - n) (hr1 : B - n ≤ 9223372036854775807) (hx : (if B - n > 0 then B - n else 0) = x) :
    Calls Try.prog 34 #[.pointer (some ⟨g, 0, none⟩), .int .i64 n, .int .i64 now, .int .i64 wi, .int .i64 rt] w fun e w' => e = .returned (.int .i64 0) ∧ Below base w w' ∧ Pac w' g bu x now := by
  have H := Aside0.mk h
  have HC := Aside0.mk hB
  have HG := Aside0.mk (And.intro hg hw)
  obtain ⟨c0, c1, c2, z1, z2⟩ := h
  obtain ⟨mm, hm0, hm⟩ := min4_nn n now wi rt hn hnow h0 h2
  have hd : decide (mm < 0) = false := decide_eq_false (by omega)
  have hd2 : decide (now > 1125899906842624) = false := decide_eq_false (by omega)
  have e1 : IntKind.i64.wrap (B - n) = B - n := by rw [IntKind.wrap_i64]; omega
  obtain ⟨y, hy⟩ : ∃ y, B - n = y := ⟨_, rfl⟩
  have e2 : ∀ W : World, (Builtin.max_ #[3, 3] 3 #[.int .i64 0, .int .i64 y]).run Try.prog W = .ok (.int .i64 x) W := by
    intro W; rw [← hx, hy]; simp [Builtin.max_, Builtin.max2, go_sem]
  have e3 : ∀ W : World, (Builtin.max_ #[3, 3] 3 #[.int .i64 t, .int .i64 now]).run Try.prog W = .ok (.int .i64 now) W := by
    intro W
    have : (if now > t then now else t) = now := by split <;> omega
    simp [Builtin.max_, Builtin.max2, go_sem, this]
  rw [hy] at e1
  clear hx hB hg hw hr0 hr1
  go_enter Try.func34, Try.ntmps34
  go_wp2_with (first
    | (go_at_call 44; refine (none_p H.out hbu).mono ?_; rintro e w' ⟨rfl, rfl⟩)
    | (go_at_call 33; refine HC.out.mono ?_; rintro e w1 ⟨rfl, hb1⟩; obtain ⟨d0, d1, d2, y1, y2⟩ := H.out.below hb1; have HB1 := Aside0.mk hb1; clear hb1))
  go_ret
  refine ⟨rfl, ?_, by constructor <;> go_simp⟩
  exact ((HB1.out.mono HG.out.2).setCell HG.out.1 _).setCell HG.out.1 _
/-- Sent of a number below nothing is refused. -/
theorem sent_bad (w : World) (g : Nat) (bu b t n now wi rt : Int) (h : Pac w g bu b t) (hbu : bu ≠ 0) (hn : n < 0) :
    Calls Try.prog 34 #[.pointer (some ⟨g, 0, none⟩), .int .i64 n, .int .i64 now, .int .i64 wi, .int .i64 rt] w fun e w' => e = .returned (.int .i64 2) ∧ w = w' := by
  obtain ⟨mm, hm0, hm⟩ : ∃ m : Int, m < 0 ∧ ∀ W : World, (Builtin.min_ #[3, 3, 3, 3] 3 #[.int .i64 n, .int .i64 now, .int .i64 wi, .int .i64 rt]).run Try.prog W = .ok (.int .i64 m) W := by
    refine ⟨if rt < (if wi < (if now < n then now else n) then wi else (if now < n then now else n)) then rt else (if wi < (if now < n then now else n) then wi else (if now < n then now else n)), by split <;> split <;> split <;> omega, fun W => ?_⟩
    simp [Builtin.min_, Builtin.min2, go_sem]
  have hd : decide (mm < 0) = true := decide_eq_true hm0
  go_enter Try.func34, Try.ntmps34
  go_wp2_with (go_at_call 44; refine (none_p h hbu).mono ?_; rintro e w' ⟨rfl, rfl⟩)
  go_ret
  exact ⟨rfl, rfl⟩
end Go.Proofs.Ytpilpgdlgkndmaa.Pc
