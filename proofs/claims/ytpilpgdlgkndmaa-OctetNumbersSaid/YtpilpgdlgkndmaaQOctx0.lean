/- Written by a program of this session: walks of the functions that a statement reaches, in the form of the kit's print; no condition. -/
import Derived.Test.YtpilpgdlgkndmaaProg
import Derived.Below
import Derived.Deep.Draws
import Derived.Deep.AppendLies
import Derived.Maps.AppendAt
import Derived.OwnWalk
import Derived.Laws.BytesArg
import Derived.Laws.MakeOwn
import Derived.Laws.OwnMore
import Derived.Deep.OwnRows
import Derived.Tactics
import Derived.Lib.ConvBytes
import Derived.Laws.Slices
import Derived.WalkKit
import Derived.KernelRfl
import Derived.RowKit3
import Derived.Deep.LoopGhost
import Derived.Deep.QuietTactic
import Derived.BigQuiet
import Derived.WideLaws
import Derived.Deep.DeepCutAuto
import Derived.Deep.CutBlock
import Derived.Deep.RegionHeld3
import Derived.Laws.Rows
import Derived.Lib.AppendStr
import Derived.ArgAppend
import Derived.Laws.IdiomCopy
import Derived.OrdersHeld
import Derived.Laws.BitsLemmas
import Derived.RowKit
import Derived.Test.YtpilpgdlgkndmaaBits
import Derived.Test.YtpilpgdlgkndmaaWWords
import Derived.Test.YtpilpgdlgkndmaaWLast
import Derived.Test.YtpilpgdlgkndmaaWTab
import Derived.Test.YtpilpgdlgkndmaaWFour
import Derived.Test.YtpilpgdlgkndmaaWQPut
import Derived.Test.YtpilpgdlgkndmaaWApart
import Derived.Test.YtpilpgdlgkndmaaWArr
import Derived.Test.YtpilpgdlgkndmaaWZeros
import Derived.Test.YtpilpgdlgkndmaaWFoot
import Derived.Test.YtpilpgdlgkndmaaWKept
import Derived.Test.YtpilpgdlgkndmaaWShare
import Derived.Test.YtpilpgdlgkndmaaWN
import Derived.Test.YtpilpgdlgkndmaaWFootNe
import Derived.Test.YtpilpgdlgkndmaaWAt
import Derived.Test.YtpilpgdlgkndmaaWEqStruct
import Derived.Test.YtpilpgdlgkndmaaWRepsOne
import Derived.Test.YtpilpgdlgkndmaaWInv
import Derived.Test.YtpilpgdlgkndmaaWInvWords
import Derived.Test.YtpilpgdlgkndmaaWGuard
import Derived.Test.YtpilpgdlgkndmaaWNEv
import Derived.Test.YtpilpgdlgkndmaaWMore
namespace Go.Proofs.Ytpilpgdlgkndmaa.QOct
open Go.RowKit Go.Proofs.YtpilpgdlgkndmaaW.PrintWords Go.Proofs.YtpilpgdlgkndmaaW.PrintLast Go.Proofs.YtpilpgdlgkndmaaW.PrintMore
attribute [local go_sem] max2_int min2_int max_two min_two max_three min_three max_four min_four   -- for this text's walks alone
set_option linter.unusedVariables false
set_option linter.unusedSimpArgs false



def errW : Option Int → Value
  | none => .nilIface
  | some c => .iface 0 (.int .i64 c)
theorem errW_none : errW none = .nilIface := rfl
theorem errW_some (c : Int) : errW (some c) = .iface 0 (.int .i64 c) := rfl

-- the values' own types

end Go.Proofs.Ytpilpgdlgkndmaa.QOct
