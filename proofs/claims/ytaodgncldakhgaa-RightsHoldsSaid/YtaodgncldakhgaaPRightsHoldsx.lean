-- Written by wip/xprint of this repo (our own program) out of the translation; what is marked BY HAND is ours. Not trusted: Lean checks it.
import Derived.Test.YtaodgncldakhgaaPRightsHoldsx0
import Derived.Test.YtaodgncldakhgaaPRightsHoldsx1
import Derived.Test.YtaodgncldakhgaaPRightsHoldsx2
import Derived.Test.YtaodgncldakhgaaPRightsHoldsx3
import Derived.Test.YtaodgncldakhgaaPRightsHoldsx4
import Derived.Test.YtaodgncldakhgaaPRightsHoldsx5
namespace Go.Proofs.Ytaodgncldakhgaa.PRightsHolds
open Go.RowKit Go.Proofs.YtaodgncldakhgaaW.PrintWords Go.Proofs.YtaodgncldakhgaaW.PrintLast Go.Proofs.YtaodgncldakhgaaW.PrintMore
attribute [local go_sem] max2_int min2_int max_two min_two max_three min_three max_four min_four   -- for this text's walks alone
set_option linter.unusedVariables false
set_option linter.unusedSimpArgs false

end Go.Proofs.Ytaodgncldakhgaa.PRightsHolds
