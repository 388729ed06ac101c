-- Written by wip/xprint of this repo (our own program) out of the translation; what is marked BY HAND is ours. Not trusted: Lean checks it.
import Derived.Test.YtklnnmgfoebbhaaPWireOnlyx0
import Derived.Test.YtklnnmgfoebbhaaPWireOnlyx1
import Derived.Test.YtklnnmgfoebbhaaPWireOnlyx2
import Derived.Test.YtklnnmgfoebbhaaPWireOnlyx3
import Derived.Test.YtklnnmgfoebbhaaPWireOnlyx4
import Derived.Test.YtklnnmgfoebbhaaPWireOnlyx5
import Derived.Test.YtklnnmgfoebbhaaPWireOnlyx6
import Derived.Test.YtklnnmgfoebbhaaPWireOnlyx7
import Derived.Test.YtklnnmgfoebbhaaPWireOnlyx8
import Derived.Test.YtklnnmgfoebbhaaPWireOnlyx9
namespace Go.Proofs.Ytklnnmgfoebbhaa.PWireOnly
open Go.RowKit Go.Proofs.YtklnnmgfoebbhaaW.PrintWords Go.Proofs.YtklnnmgfoebbhaaW.PrintLast Go.Proofs.YtklnnmgfoebbhaaW.PrintMore
attribute [local go_sem] max2_int min2_int max_two min_two max_three min_three max_four min_four   -- for this text's walks alone
set_option linter.unusedVariables false
set_option linter.unusedSimpArgs false

end Go.Proofs.Ytklnnmgfoebbhaa.PWireOnly
