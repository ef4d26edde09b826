/- The paths: what they hold, and at, May. -/
import Derived.Test.YtpilpgdlgkndmaaChecked
import Derived.Test.YtpilpgdlgkndmaaPtrMap
import Derived.WalkKit
import Derived.Below
import Derived.Maps.OwnOps
import Derived.Deep.RegionHeld3
import Derived.Deep.QuietTactic
import Derived.BigQuiet
import Derived.Outline
set_option linter.unusedVariables false
set_option linter.unusedSimpArgs false
namespace Go.Proofs.Ytpilpgdlgkndmaa.Pm
open Go.RowKit Go.Maps
structure Aside0 (p : Prop) : Prop where mk :: (out : p)
theorem law : Keyed Try.prog 3 := int_keyed Try.underlying3
theorem zeroP (w : World) : (zeroValue 88).run Try.prog w = .ok (.pointer none) w := by kernel_rfl
/-- Paths at block p, their map at block m. -/
structure Pth (w : World) (p m n : Nat) (D : DataW Unit) : Prop where
  c0 : w.cell? ⟨p, 0, none⟩ = some (.map (some m))
  own : w.ownsMap Try.prog 3 ptrElem m n D
set_option maxRecDepth 100000 in
theorem none_p {w : World} {p m n : Nat} {D : DataW Unit} (h : Pth w p m n D) : Calls Try.prog 50 #[.pointer (some ⟨p, 0, none⟩)] w fun e w' => e = .returned (.bool false) ∧ w' = w := by
  have c0 := h.c0
  clear h
  have heq : ∀ W : World, (binOp .eql 92 (.map (some m)) (.map none)).run Try.prog W = .ok (.bool false) W := fun _ => by kernel_rfl
  go_enter Try.func50, Try.ntmps50
  go_wp2_with fail
  go_ret
  exact ⟨rfl, rfl⟩
theorem at_hit {w : World} {p m n : Nat} {D : DataW Unit} (h : Pth w p m n D) (k : Int) (hk : keyOf Try.prog 3 (.int .i64 k) = some (.int .i64 k)) (g : Nat) (hat : ∀ zd, D.atKey (.int .i64 k) zd = .lit (.int .i64 g)) :
    Calls Try.prog 42 #[.pointer (some ⟨p, 0, none⟩), .int .i64 k] w fun e w' => e = .returned (.tuple #[.pointer (some ⟨g, 0, none⟩), .int .i64 0]) ∧ w' = w := by
  have c0 := h.c0
  have hl := look_hit h.own law Try.underlying92 (zeroP w) hk g hat
  have H := Aside0.mk h
  clear h hat hk
  go_enter Try.func42, Try.ntmps42
  go_wp2_with (go_at_call 50; refine (none_p H.out).mono ?_; rintro e w' ⟨rfl, hw⟩; rw [hw]; clear hw)
  go_ret2
  exact ⟨rfl, rfl⟩
theorem at_miss {w : World} {p m n : Nat} {D : DataW Unit} (h : Pth w p m n D) (k : Int) (hk : keyOf Try.prog 3 (.int .i64 k) = some (.int .i64 k)) (hat : ∀ zd, D.atKey (.int .i64 k) zd = zd) :
    Calls Try.prog 42 #[.pointer (some ⟨p, 0, none⟩), .int .i64 k] w fun e w' => e = .returned (.tuple #[.pointer none, .int .i64 15]) ∧ w' = w := by
  have c0 := h.c0
  have hl := look_miss h.own law Try.underlying92 (zeroP w) hk hat
  have H := Aside0.mk h
  clear h hat hk
  go_enter Try.func42, Try.ntmps42
  go_wp2_with (go_at_call 50; refine (none_p H.out).mono ?_; rintro e w' ⟨rfl, hw⟩; rw [hw]; clear hw)
  go_ret2
  exact ⟨rfl, rfl⟩
/-- May at an address that is known to be the peer's. -/
theorem may_valid {w : World} {p m n : Nat} {D : DataW Unit} (h : Pth w p m n D) (k : Int) (hk : keyOf Try.prog 3 (.int .i64 k) = some (.int .i64 k)) (g : Nat) (hat : ∀ zd, D.atKey (.int .i64 k) zd = .lit (.int .i64 g)) (hv : w.cell? ⟨g, 0, none⟩ = some (.bool true)) :
    Calls Try.prog 22 #[.pointer (some ⟨p, 0, none⟩), .int .i64 k] w fun e w' => e = .returned (.int .i64 1125899906842624) ∧ ∃ j, w' = w.drewN j := by
  have H := Aside0.mk (at_hit h k hk g hat)
  clear h hat hk
  go_enter Try.func22, Try.ntmps22
  go_wp2_with (go_at_call 42; refine H.out.mono ?_; rintro e w' ⟨rfl, hw⟩; rw [hw]; clear hw)
  go_ret
  exact ⟨rfl, 0, rfl⟩
/-- May at an address that is not known. -/
theorem may_miss {w : World} {p m n : Nat} {D : DataW Unit} (h : Pth w p m n D) (k : Int) (hk : keyOf Try.prog 3 (.int .i64 k) = some (.int .i64 k)) (hat : ∀ zd, D.atKey (.int .i64 k) zd = zd) :
    Calls Try.prog 22 #[.pointer (some ⟨p, 0, none⟩), .int .i64 k] w fun e w' => e = .returned (.int .i64 0) ∧ ∃ j, w' = w.drewN j := by
  have H := Aside0.mk (at_miss h k hk hat)
  clear h hat hk
  go_enter Try.func22, Try.ntmps22
  go_wp2_with (go_at_call 42; refine H.out.mono ?_; rintro e w' ⟨rfl, hw⟩; rw [hw]; clear hw)
  go_ret
  exact ⟨rfl, 0, rfl⟩
/-- May at an address whose bytes are counted. -/
theorem may_some {w : World} {p m n : Nat} {D : DataW Unit} (h : Pth w p m n D) (k : Int) (hk : keyOf Try.prog 3 (.int .i64 k) = some (.int .i64 k)) (g : Nat) (hat : ∀ zd, D.atKey (.int .i64 k) zd = .lit (.int .i64 g)) (came sent x : Int) (hv : w.cell? ⟨g, 0, none⟩ = some (.bool false)) (hc : w.cell? ⟨g, 1, none⟩ = some (.int .i64 came)) (hs : w.cell? ⟨g, 2, none⟩ = some (.int .i64 sent))
    (c0 : 0 ≤ came) (c1 : came ≤ 1125899906842624) (s0 : 0 ≤ sent) (s1 : sent ≤ 1125899906842624) (hx : x = max 0 (3 * came - sent)) :
    Calls Try.prog 22 #[.pointer (some ⟨p, 0, none⟩), .int .i64 k] w fun e w' => e = .returned (.int .i64 x) ∧ ∃ j, w' = w.drewN j := by
  have H := Aside0.mk (at_hit h k hk g hat)
  clear h hat hk
  have e1 : IntKind.i64.wrap (3 * came) = 3 * came := by rw [IntKind.wrap_i64]; omega
  have e2 : IntKind.i64.wrap (3 * came - sent) = 3 * came - sent := by rw [IntKind.wrap_i64]; omega
  have e3 : (if (0 : Int) < 3 * came - sent then 3 * came - sent else 0) = x := by split <;> omega
  go_enter Try.func22, Try.ntmps22
  go_wp2_with (go_at_call 42; refine H.out.mono ?_; rintro e w' ⟨rfl, hw⟩; rw [hw]; clear hw)
  go_quiet (fail)
  go_wp2
  all_goals
    go_ret
    exact ⟨congrArg (fun x => Ending.returned (Value.int .i64 x)) (by first | rfl | omega), _, rfl⟩
end Go.Proofs.Ytpilpgdlgkndmaa.Pm
