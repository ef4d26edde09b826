/- Written by a program of this session: walks of the functions that a statement reaches, in the form of the kit's print; no condition. -/
import Derived.Test.YtpilpgdlgkndmaaDoorProg
import Derived.Below
import Derived.Deep.Draws
import Derived.Deep.AppendLies
import Derived.Maps.AppendAt
import Derived.OwnWalk
import Derived.Laws.BytesArg
import Derived.Laws.MakeOwn
import Derived.Laws.OwnMore
import Derived.Deep.OwnRows
import Derived.Tactics
import Derived.Lib.ConvBytes
import Derived.Laws.Slices
import Derived.WalkKit
import Derived.KernelRfl
import Derived.RowKit3
import Derived.Deep.LoopGhost
import Derived.Deep.QuietTactic
import Derived.BigQuiet
import Derived.WideLaws
import Derived.Deep.DeepCutAuto
import Derived.Deep.CutBlock
import Derived.Deep.RegionHeld3
import Derived.Laws.Rows
import Derived.Lib.AppendStr
import Derived.ArgAppend
import Derived.Laws.IdiomCopy
import Derived.OrdersHeld
import Derived.Laws.BitsLemmas
import Derived.RowKit
import Derived.Test.YtpilpgdlgkndmaaDoorClone
import Derived.Test.YtpilpgdlgkndmaaDoorOctet
import Derived.Test.YtpilpgdlgkndmaaDoorRefRead
import Derived.Test.YtpilpgdlgkndmaaDoorWWords
import Derived.Test.YtpilpgdlgkndmaaDoorWLast
import Derived.Test.YtpilpgdlgkndmaaDoorWTab
import Derived.Test.YtpilpgdlgkndmaaDoorWFour
import Derived.Test.YtpilpgdlgkndmaaDoorWQPut
import Derived.Test.YtpilpgdlgkndmaaDoorWApart
import Derived.Test.YtpilpgdlgkndmaaDoorWArr
import Derived.Test.YtpilpgdlgkndmaaDoorWZeros
import Derived.Test.YtpilpgdlgkndmaaDoorWFoot
import Derived.Test.YtpilpgdlgkndmaaDoorWKept
import Derived.Test.YtpilpgdlgkndmaaDoorWShare
import Derived.Test.YtpilpgdlgkndmaaDoorWN
import Derived.Test.YtpilpgdlgkndmaaDoorWFootNe
import Derived.Test.YtpilpgdlgkndmaaDoorWAt
import Derived.Test.YtpilpgdlgkndmaaDoorWEqStruct
import Derived.Test.YtpilpgdlgkndmaaDoorWRepsOne
import Derived.Test.YtpilpgdlgkndmaaDoorWInv
import Derived.Test.YtpilpgdlgkndmaaDoorWInvWords
import Derived.Test.YtpilpgdlgkndmaaDoorWGuard
import Derived.Test.YtpilpgdlgkndmaaDoorWNEv
import Derived.Test.YtpilpgdlgkndmaaDoorWMore
namespace Go.Proofs.YtpilpgdlgkndmaaDoor.QOct
open Go.RowKit Go.Proofs.YtpilpgdlgkndmaaDoorW.PrintWords Go.Proofs.YtpilpgdlgkndmaaDoorW.PrintLast Go.Proofs.YtpilpgdlgkndmaaDoorW.PrintMore
attribute [local go_sem] max2_int min2_int max_two min_two max_three min_three max_four min_four   -- for this text's walks alone
set_option linter.unusedVariables false
set_option linter.unusedSimpArgs false



def errW : Option Int → Value
  | none => .nilIface
  | some c => .iface 0 (.int .i64 c)
theorem errW_none : errW none = .nilIface := rfl
theorem errW_some (c : Int) : errW (some c) = .iface 0 (.int .i64 c) := rfl

theorem rng_of {l : List Int} (h : List.all l (fun x => decide (0 ≤ x ∧ x < 256)) = true) : ∀ x ∈ l, 0 ≤ x ∧ x < 256 := fun x hx => by simpa using (List.all_eq_true.1 h) x hx

theorem info3 : (Tryd.prog.info? 3).map (fun i => (i.zero, i.size, i.bytes)) = some (some (.int .i64 0), 1, 8) := by kernel_rfl
theorem info5 : (Tryd.prog.info? 5).map (fun i => (i.zero, i.size, i.bytes)) = some (some (.int .u8 0), 1, 1) := by kernel_rfl
-- the values' own types

end Go.Proofs.YtpilpgdlgkndmaaDoor.QOct
