/- Written by a program of this session: walks of the functions that a statement reaches, in the form of the kit's print; no condition. -/
import Derived.Test.YtcidijmdndcdlaaDoorProg
import Derived.Below
import Derived.Deep.Draws
import Derived.Deep.AppendLies
import Derived.Maps.AppendAt
import Derived.OwnWalk
import Derived.Laws.BytesArg
import Derived.Laws.MakeOwn
import Derived.Laws.OwnMore
import Derived.Deep.OwnRows
import Derived.Tactics
import Derived.Lib.ConvBytes
import Derived.Laws.Slices
import Derived.WalkKit
import Derived.KernelRfl
import Derived.RowKit3
import Derived.Deep.LoopGhost
import Derived.Deep.QuietTactic
import Derived.BigQuiet
import Derived.WideLaws
import Derived.Deep.DeepCutAuto
import Derived.Deep.CutBlock
import Derived.Deep.RegionHeld3
import Derived.Laws.Rows
import Derived.Lib.AppendStr
import Derived.ArgAppend
import Derived.Laws.IdiomCopy
import Derived.OrdersHeld
import Derived.Laws.BitsLemmas
import Derived.RowKit
import Derived.Test.YtcidijmdndcdlaaDoorClone
import Derived.Test.YtcidijmdndcdlaaDoorOctet
import Derived.Test.YtcidijmdndcdlaaDoorRefRead
import Derived.Test.YtcidijmdndcdlaaDoorWWords
import Derived.Test.YtcidijmdndcdlaaDoorWLast
import Derived.Test.YtcidijmdndcdlaaDoorWTab
import Derived.Test.YtcidijmdndcdlaaDoorWFour
import Derived.Test.YtcidijmdndcdlaaDoorWQPut
import Derived.Test.YtcidijmdndcdlaaDoorWApart
import Derived.Test.YtcidijmdndcdlaaDoorWArr
import Derived.Test.YtcidijmdndcdlaaDoorWZeros
import Derived.Test.YtcidijmdndcdlaaDoorWFoot
import Derived.Test.YtcidijmdndcdlaaDoorWKept
import Derived.Test.YtcidijmdndcdlaaDoorWShare
import Derived.Test.YtcidijmdndcdlaaDoorWN
import Derived.Test.YtcidijmdndcdlaaDoorWFootNe
import Derived.Test.YtcidijmdndcdlaaDoorWAt
import Derived.Test.YtcidijmdndcdlaaDoorWEqStruct
import Derived.Test.YtcidijmdndcdlaaDoorWRepsOne
import Derived.Test.YtcidijmdndcdlaaDoorWInv
import Derived.Test.YtcidijmdndcdlaaDoorWInvWords
import Derived.Test.YtcidijmdndcdlaaDoorWGuard
import Derived.Test.YtcidijmdndcdlaaDoorWNEv
import Derived.Test.YtcidijmdndcdlaaDoorWMore
namespace Go.Proofs.YtcidijmdndcdlaaDoor.QOct
open Go.RowKit Go.Proofs.YtcidijmdndcdlaaDoorW.PrintWords Go.Proofs.YtcidijmdndcdlaaDoorW.PrintLast Go.Proofs.YtcidijmdndcdlaaDoorW.PrintMore
attribute [local go_sem] max2_int min2_int max_two min_two max_three min_three max_four min_four   -- for this text's walks alone
set_option linter.unusedVariables false
set_option linter.unusedSimpArgs false



def errW : Option Int → Value
  | none => .nilIface
  | some c => .iface 26 (.int .i64 c)
theorem errW_none : errW none = .nilIface := rfl
theorem errW_some (c : Int) : errW (some c) = .iface 26 (.int .i64 c) := rfl

theorem rng_of {l : List Int} (h : List.all l (fun x => decide (0 ≤ x ∧ x < 256)) = true) : ∀ x ∈ l, 0 ≤ x ∧ x < 256 := fun x hx => by simpa using (List.all_eq_true.1 h) x hx

theorem info3 : (Tryd.prog.info? 3).map (fun i => (i.zero, i.size, i.bytes)) = some (some (.int .i64 0), 1, 8) := by kernel_rfl
theorem info5 : (Tryd.prog.info? 5).map (fun i => (i.zero, i.size, i.bytes)) = some (some (.int .u8 0), 1, 1) := by kernel_rfl
-- the values' own types

end Go.Proofs.YtcidijmdndcdlaaDoor.QOct
