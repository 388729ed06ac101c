-- Written by wip/xprint of this repo (our own program) out of the translation; what is marked BY HAND is ours. Not trusted: Lean checks it.
import Derived.Test.YtaodgncldakhgaaPRightsBackx0
import Derived.Test.YtaodgncldakhgaaPRightsBackx1
import Derived.Test.YtaodgncldakhgaaPRightsBackx2
import Derived.Test.YtaodgncldakhgaaPRightsBackx3
import Derived.Test.YtaodgncldakhgaaPRightsBackx4
import Derived.Test.YtaodgncldakhgaaPRightsBackx5
import Derived.Test.YtaodgncldakhgaaPRightsBackx6
import Derived.Test.YtaodgncldakhgaaPRightsBackx7
namespace Go.Proofs.Ytaodgncldakhgaa.PRightsBack
open Go.RowKit Go.Proofs.YtaodgncldakhgaaW.PrintWords Go.Proofs.YtaodgncldakhgaaW.PrintLast Go.Proofs.YtaodgncldakhgaaW.PrintMore
attribute [local go_sem] max2_int min2_int max_two min_two max_three min_three max_four min_four   -- for this text's walks alone
set_option linter.unusedVariables false
set_option linter.unusedSimpArgs false

end Go.Proofs.Ytaodgncldakhgaa.PRightsBack
