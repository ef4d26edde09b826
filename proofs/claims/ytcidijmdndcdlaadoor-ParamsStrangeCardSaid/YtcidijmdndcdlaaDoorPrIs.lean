/- errors.Is at two api.Errno, or at nil; no condition. -/
import Derived.Test.YtcidijmdndcdlaaDoorChecked
import Derived.WalkKit
import Derived.Handy
import Derived.LaidEql
import Derived.Stop.Asserts
import Derived.RowKitTokens
import Derived.Test.YtcidijmdndcdlaaDoorMin
set_option linter.unusedVariables false
set_option linter.unusedSimpArgs false
namespace Go.Proofs.YtcidijmdndcdlaaDoor.Pr
open Go.RowKit Go.Extern.Stop Go.Stop Go.Extern
theorem isTypeOf (v : Value) (w : World) : (Extern.ReflectliteType.typeOf #[.iface 26 v]).run Tryd.prog w = .ok (.iface 109 (.agg #[.pointer (some ⟨1, 26, none⟩)])) w := by kernel_rfl
def cmpX : Array Value → Sem Value := ReflectliteType.method fun t => do Extern.Rtype.noPackHeld "Comparable" t; pure (.bool (← typeInfo t).comparable)
theorem isComparable (w : World) : (cmpX #[.agg #[.pointer (some ⟨1, 26, none⟩)]]).run Tryd.prog w = .ok (.bool true) w := by kernel_rfl
theorem isMethodComparable (v : Value) (w : World) : (Go.method 254 109 v "Comparable").run Tryd.prog w = .ok (74, v) w := by kernel_rfl
set_option maxRecDepth 100000 in
set_option maxHeartbeats 1600000 in
theorem errno_is (n k : Int) (w : World) :
    Calls Tryd.prog 23 #[.iface 26 (.int .i64 n), .iface 26 (.int .i64 k)] w fun e w' => e = .returned (.bool (n == k)) ∧ w = w' := by
  have h8 := @run_callFunc_extern Tryd.prog 42 _ Extern.ReflectliteType.typeOf Tryd.func42 (by kernel_rfl) (by kernel_rfl) (by kernel_rfl) (by kernel_rfl)
  have h32 := @run_callFunc_extern Tryd.prog 74 _ cmpX Tryd.func74 (by kernel_rfl) (by kernel_rfl) (by kernel_rfl) (by kernel_rfl)
  have tT := isTypeOf
  have cT := isComparable
  have mR := isMethodComparable
  obtain ⟨r, hr⟩ : ∃ r, (n == k) = r := ⟨_, rfl⟩
  have heq : ∀ W : World, (binOp .eql 62 (.iface 26 (.int .i64 n)) (.iface 26 (.int .i64 k))).run Tryd.prog W = .ok (.bool r) W := fun W => by
    have e0 : (binOp .eql 62 (.iface 26 (.int .i64 n)) (.iface 26 (.int .i64 k))).run Tryd.prog W = .ok (.bool (n == k)) W := by kernel_rfl
    rw [e0, hr]
  rw [hr]
  clear hr
  have a1 : ∀ (v : Value) (xT : TypeId) (w : World), (Instr.typeAssert (.iface 26 v) xT 111 true).run Tryd.prog w = .ok (.tuple #[.nilIface, .bool false]) w := fun v xT w => run_typeAssert_lacksB Tryd.underlying111 (by kernel_rfl) (by kernel_rfl) v xT w
  have a2 : ∀ (v : Value) (xT : TypeId) (w : World), (Instr.typeAssert (.iface 26 v) xT 114 true).run Tryd.prog w = .ok (.tuple #[.nilIface, .bool false]) w := fun v xT w => run_typeAssert_lacksB Tryd.underlying114 (by kernel_rfl) (by kernel_rfl) v xT w
  have a3 : ∀ (v : Value) (xT : TypeId) (w : World), (Instr.typeAssert (.iface 26 v) xT 116 true).run Tryd.prog w = .ok (.tuple #[.nilIface, .bool false]) w := fun v xT w => run_typeAssert_lacksB Tryd.underlying116 (by kernel_rfl) (by kernel_rfl) v xT w
  go_enter Tryd.func23, Tryd.ntmps23
  cases r with
  | true =>
    go_wp2
    refine wp_loop_rounds 1 ?_
    rw [rounds_succ]
    go_wp2
    go_ret
    exact ⟨rfl, rfl⟩
  | false =>
    go_wp2
    refine wp_loop_rounds 1 ?_
    rw [rounds_succ]
    go_wp2
    go_ret
    exact ⟨rfl, rfl⟩
set_option maxRecDepth 100000 in
theorem errno_nil (k : Int) (w : World) :
    Calls Tryd.prog 23 #[.nilIface, .iface 26 (.int .i64 k)] w fun e w' => e = .returned (.bool false) ∧ w = w' := by
  have heq : ∀ W : World, (binOp .eql 62 .nilIface (.iface 26 (.int .i64 k))).run Tryd.prog W = .ok (.bool false) W := fun W => by kernel_rfl
  have heq2 : ∀ W : World, (binOp .eql 62 .nilIface .nilIface).run Tryd.prog W = .ok (.bool true) W := fun W => by kernel_rfl
  go_enter Tryd.func23, Tryd.ntmps23
  go_wp2
  go_ret
  exact ⟨rfl, rfl⟩
end Go.Proofs.YtcidijmdndcdlaaDoor.Pr
