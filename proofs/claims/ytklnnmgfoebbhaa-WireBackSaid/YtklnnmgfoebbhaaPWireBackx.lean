-- Written by wip/xprint of this repo (our own program) out of the translation; what is marked BY HAND is ours. Not trusted: Lean checks it.
import Derived.Test.YtklnnmgfoebbhaaPWireBackx0
import Derived.Test.YtklnnmgfoebbhaaPWireBackx1
import Derived.Test.YtklnnmgfoebbhaaPWireBackx2
import Derived.Test.YtklnnmgfoebbhaaPWireBackx3
import Derived.Test.YtklnnmgfoebbhaaPWireBackx4
import Derived.Test.YtklnnmgfoebbhaaPWireBackx5
import Derived.Test.YtklnnmgfoebbhaaPWireBackx6
import Derived.Test.YtklnnmgfoebbhaaPWireBackx7
import Derived.Test.YtklnnmgfoebbhaaPWireBackx8
import Derived.Test.YtklnnmgfoebbhaaPWireBackx9
import Derived.Test.YtklnnmgfoebbhaaPWireBackx10
namespace Go.Proofs.Ytklnnmgfoebbhaa.PWireBack
open Go.RowKit Go.Proofs.YtklnnmgfoebbhaaW.PrintWords Go.Proofs.YtklnnmgfoebbhaaW.PrintLast Go.Proofs.YtklnnmgfoebbhaaW.PrintMore
attribute [local go_sem] max2_int min2_int max_two min_two max_three min_three max_four min_four   -- for this text's walks alone
set_option linter.unusedVariables false
set_option linter.unusedSimpArgs false

end Go.Proofs.Ytklnnmgfoebbhaa.PWireBack
