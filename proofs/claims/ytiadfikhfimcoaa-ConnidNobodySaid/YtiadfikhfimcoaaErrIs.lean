/- errors.Is(e, e), e an api.Errno: true; no condition. -/
import Derived.Test.YtiadfikhfimcoaaChecked
import Derived.WalkKit
import Derived.Handy
import Derived.LaidEql
import Derived.Stop.Asserts
import Derived.RowKitTokens
import Derived.Test.YtiadfikhfimcoaaMin
set_option linter.unusedVariables false
set_option linter.unusedSimpArgs false
namespace Go.Proofs.Ytiadfikhfimcoaa
open Go.RowKit Go.Extern.Stop Go.Stop Go.Extern
theorem isTypeOf (v : Value) (w : World) : (Extern.ReflectliteType.typeOf #[.iface 24 v]).run Try.prog w = .ok (.iface 156 (.agg #[.pointer (some ⟨0, 24, none⟩)])) w := by kernel_rfl
def cmpX : Array Value → Sem Value := ReflectliteType.method fun t => do Extern.Rtype.noPackHeld "Comparable" t; pure (.bool (← typeInfo t).comparable)
theorem isComparable (w : World) : (cmpX #[.agg #[.pointer (some ⟨0, 24, none⟩)]]).run Try.prog w = .ok (.bool true) w := by kernel_rfl
theorem isMethodComparable (v : Value) (w : World) : (Go.method 334 156 v "Comparable").run Try.prog w = .ok (141, v) w := by kernel_rfl
theorem errno_same (n : Int) (w : World) :
    Calls Try.prog 35 #[.iface 24 (.int .i64 n), .iface 24 (.int .i64 n)] w fun e w' => e = .returned (.bool true) ∧ w = w' := by
  have h8 := @run_callFunc_extern Try.prog 64 _ Extern.ReflectliteType.typeOf Try.func64 (by kernel_rfl) (by kernel_rfl) (by kernel_rfl) (by kernel_rfl)
  have h32 := @run_callFunc_extern Try.prog 141 _ cmpX Try.func141 (by kernel_rfl) (by kernel_rfl) (by kernel_rfl) (by kernel_rfl)
  have tT := isTypeOf
  have cT := isComparable
  have mR := isMethodComparable
  have heq : ∀ W : World, (binOp .eql 78 (.iface 24 (.int .i64 n)) (.iface 24 (.int .i64 n))).run Try.prog W = .ok (.bool true) W := fun W => by
    have e0 : (binOp .eql 78 (.iface 24 (.int .i64 n)) (.iface 24 (.int .i64 n))).run Try.prog W = .ok (.bool (n == n)) W := by kernel_rfl
    rw [e0]; simp
  go_enter Try.func35, Try.ntmps35
  go_wp2
  refine wp_loop_rounds 1 ?_
  rw [rounds_succ]
  go_wp2
  go_ret
  exact ⟨rfl, rfl⟩
end Go.Proofs.Ytiadfikhfimcoaa
