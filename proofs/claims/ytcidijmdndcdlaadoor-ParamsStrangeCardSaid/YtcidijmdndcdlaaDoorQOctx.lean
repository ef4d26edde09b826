/- Written by a program of this session: walks of the functions that a statement reaches, in the form of the kit's print; no condition. -/
import Derived.Test.YtcidijmdndcdlaaDoorQOctx0
import Derived.Test.YtcidijmdndcdlaaDoorQOctx1
import Derived.Test.YtcidijmdndcdlaaDoorQOctx2
namespace Go.Proofs.YtcidijmdndcdlaaDoor.QOct
open Go.RowKit Go.Proofs.YtcidijmdndcdlaaDoorW.PrintWords Go.Proofs.YtcidijmdndcdlaaDoorW.PrintLast Go.Proofs.YtcidijmdndcdlaaDoorW.PrintMore
attribute [local go_sem] max2_int min2_int max_two min_two max_three min_three max_four min_four   -- for this text's walks alone
set_option linter.unusedVariables false
set_option linter.unusedSimpArgs false

end Go.Proofs.YtcidijmdndcdlaaDoor.QOct
