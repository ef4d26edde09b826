/- The paths: lies, Valid, Sent. -/
import Derived.Test.YtpilpgdlgkndmaaPath1
import Derived.Maps.OwnSet
set_option linter.unusedVariables false
set_option linter.unusedSimpArgs false
namespace Go.Proofs.Ytpilpgdlgkndmaa.Pm
open Go.RowKit Go.Maps
theorem lies_in (n : Int) (h0 : 0 ≤ n) (h1 : n ≤ 1125899906842624) (w : World) : Calls Try.prog 43 #[.int .i64 n] w fun e w' => e = .returned (.bool true) ∧ w' = w := by
  go_enter Try.func43, Try.ntmps43
  go_wp2
  go_ret
  exact ⟨rfl, rfl⟩
/-- Valid at an address that is kept. -/
theorem valid_hit {w : World} {p m n : Nat} {D : DataW Unit} (h : Pth w p m n D) (k : Int) (hk : keyOf Try.prog 3 (.int .i64 k) = some (.int .i64 k)) (g : Nat) (hat : ∀ zd, D.atKey (.int .i64 k) zd = .lit (.int .i64 g)) (b : Bool) (hv : w.cell? ⟨g, 0, none⟩ = some (.bool b)) (hz : w.frozen? ⟨g, 0, none⟩ = false) :
    Calls Try.prog 25 #[.pointer (some ⟨p, 0, none⟩), .int .i64 k] w fun e w' => e = .returned (.int .i64 0) ∧ w' = w.setCell ⟨g, 0, none⟩ (.bool true) := by
  have H := Aside0.mk (at_hit h k hk g hat)
  clear h hat hk
  go_enter Try.func25, Try.ntmps25
  go_wp2_with (go_at_call 42; refine H.out.mono ?_; rintro e w' ⟨rfl, hw⟩; rw [hw]; clear hw)
  go_ret
  exact ⟨rfl, rfl⟩
/-- Valid at an address that is not kept. -/
theorem valid_miss {w : World} {p m n : Nat} {D : DataW Unit} (h : Pth w p m n D) (k : Int) (hk : keyOf Try.prog 3 (.int .i64 k) = some (.int .i64 k)) (hat : ∀ zd, D.atKey (.int .i64 k) zd = zd) :
    Calls Try.prog 25 #[.pointer (some ⟨p, 0, none⟩), .int .i64 k] w fun e w' => e = .returned (.int .i64 15) ∧ w' = w := by
  have H := Aside0.mk (at_miss h k hk hat)
  clear h hat hk
  go_enter Try.func25, Try.ntmps25
  go_wp2_with (go_at_call 42; refine H.out.mono ?_; rintro e w' ⟨rfl, hw⟩; rw [hw]; clear hw)
  go_ret
  exact ⟨rfl, rfl⟩
/-- Sent of more than may be. -/
theorem sent_flow {w : World} {p m n : Nat} {D : DataW Unit} (h : Pth w p m n D) (k : Int) (hk : keyOf Try.prog 3 (.int .i64 k) = some (.int .i64 k)) (g : Nat) (hat : ∀ zd, D.atKey (.int .i64 k) zd = .lit (.int .i64 g)) (came sent x b : Int) (hv : w.cell? ⟨g, 0, none⟩ = some (.bool false)) (hc : w.cell? ⟨g, 1, none⟩ = some (.int .i64 came)) (hs : w.cell? ⟨g, 2, none⟩ = some (.int .i64 sent))
    (c0 : 0 ≤ came) (c1 : came ≤ 1125899906842624) (s0 : 0 ≤ sent) (s1 : sent ≤ 1125899906842624) (hx : x = max 0 (3 * came - sent)) (b0 : 0 ≤ b) (b1 : b ≤ 1125899906842624) (hb : x < b) :
    Calls Try.prog 24 #[.pointer (some ⟨p, 0, none⟩), .int .i64 k, .int .i64 b] w fun e w' => e = .returned (.int .i64 30) ∧ ∃ j, w' = w.drewN j := by
  have H := Aside0.mk (at_hit h k hk g hat)
  have HM := Aside0.mk (may_some h k hk g hat came sent x hv hc hs c0 c1 s0 s1 hx)
  clear h hat hk hx
  go_enter Try.func24, Try.ntmps24
  go_wp2_with (first
    | (go_at_call 42; refine H.out.mono ?_; rintro e w' ⟨rfl, hw⟩; rw [hw]; clear hw)
    | (go_at_call 43; refine (lies_in b b0 b1 _).mono ?_; rintro e w' ⟨rfl, hw⟩; rw [hw]; clear hw)
    | (go_at_call 22; refine HM.out.mono ?_; rintro e w' ⟨rfl, j, hw⟩; rw [hw]; clear hw))
  go_ret
  exact ⟨rfl, _, rfl⟩
/-- Sent of what may be. -/
theorem sent_ok {w : World} {p m n : Nat} {D : DataW Unit} (h : Pth w p m n D) (k : Int) (hk : keyOf Try.prog 3 (.int .i64 k) = some (.int .i64 k)) (g : Nat) (hat : ∀ zd, D.atKey (.int .i64 k) zd = .lit (.int .i64 g)) (came x b : Int) (hv : w.cell? ⟨g, 0, none⟩ = some (.bool false)) (hc : w.cell? ⟨g, 1, none⟩ = some (.int .i64 came)) (hs : w.cell? ⟨g, 2, none⟩ = some (.int .i64 0)) (hz : w.frozen? ⟨g, 2, none⟩ = false)
    (c0 : 0 ≤ came) (c1 : came ≤ 1125899906842624) (hx : x = max 0 (3 * came - 0)) (b0 : 0 ≤ b) (b1 : b ≤ 65535) (hb : b ≤ x) :
    Calls Try.prog 24 #[.pointer (some ⟨p, 0, none⟩), .int .i64 k, .int .i64 b] w fun e w' => e = .returned (.int .i64 0) ∧ ∃ j, w' = (w.drewN j).setCell ⟨g, 2, none⟩ (.int .i64 b) := by
  have H := Aside0.mk (at_hit h k hk g hat)
  have HM := Aside0.mk (may_some h k hk g hat came 0 x hv hc hs c0 c1 (by omega) (by omega) hx)
  clear h hat hk hx
  go_enter Try.func24, Try.ntmps24
  go_wp2_with (first
    | (go_at_call 42; refine H.out.mono ?_; rintro e w' ⟨rfl, hw⟩; rw [hw]; clear hw)
    | (go_at_call 43; refine (lies_in b b0 (by omega) _).mono ?_; rintro e w' ⟨rfl, hw⟩; rw [hw]; clear hw)
    | (go_at_call 22; refine HM.out.mono ?_; rintro e w' ⟨rfl, j, hw⟩; rw [hw]; clear hw))
  go_ret
  exact ⟨rfl, _, rfl⟩
end Go.Proofs.Ytpilpgdlgkndmaa.Pm
