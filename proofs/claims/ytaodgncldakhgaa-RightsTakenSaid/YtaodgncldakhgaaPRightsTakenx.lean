-- Written by wip/xprint of this repo (our own program) out of the translation; what is marked BY HAND is ours. Not trusted: Lean checks it.
import Derived.Test.YtaodgncldakhgaaPRightsTakenx0
import Derived.Test.YtaodgncldakhgaaPRightsTakenx1
import Derived.Test.YtaodgncldakhgaaPRightsTakenx2
import Derived.Test.YtaodgncldakhgaaPRightsTakenx3
import Derived.Test.YtaodgncldakhgaaPRightsTakenx4
namespace Go.Proofs.Ytaodgncldakhgaa.PRightsTaken
open Go.RowKit Go.Proofs.YtaodgncldakhgaaW.PrintWords Go.Proofs.YtaodgncldakhgaaW.PrintLast Go.Proofs.YtaodgncldakhgaaW.PrintMore
attribute [local go_sem] max2_int min2_int max_two min_two max_three min_three max_four min_four   -- for this text's walks alone
set_option linter.unusedVariables false
set_option linter.unusedSimpArgs false

end Go.Proofs.Ytaodgncldakhgaa.PRightsTaken
