-- Written by wip/xprint of this repo (our own program) out of the translation; what is marked BY HAND is ours. Not trusted: Lean checks it.
import Derived.Test.YtklnnmgfoebbhaaPWireRepliesx0
import Derived.Test.YtklnnmgfoebbhaaPWireRepliesx1
import Derived.Test.YtklnnmgfoebbhaaPWireRepliesx2
import Derived.Test.YtklnnmgfoebbhaaPWireRepliesx3
import Derived.Test.YtklnnmgfoebbhaaPWireRepliesx4
import Derived.Test.YtklnnmgfoebbhaaPWireRepliesx5
import Derived.Test.YtklnnmgfoebbhaaPWireRepliesx6
import Derived.Test.YtklnnmgfoebbhaaPWireRepliesx7
import Derived.Test.YtklnnmgfoebbhaaPWireRepliesx8
import Derived.Test.YtklnnmgfoebbhaaPWireRepliesx9
import Derived.Test.YtklnnmgfoebbhaaPWireRepliesx10
import Derived.Test.YtklnnmgfoebbhaaPWireRepliesx11
import Derived.Test.YtklnnmgfoebbhaaPWireRepliesx12
import Derived.Test.YtklnnmgfoebbhaaPWireRepliesx13
namespace Go.Proofs.Ytklnnmgfoebbhaa.PWireReplies
open Go.RowKit Go.Proofs.YtklnnmgfoebbhaaW.PrintWords Go.Proofs.YtklnnmgfoebbhaaW.PrintLast Go.Proofs.YtklnnmgfoebbhaaW.PrintMore
attribute [local go_sem] max2_int min2_int max_two min_two max_three min_three max_four min_four   -- for this text's walks alone
set_option linter.unusedVariables false
set_option linter.unusedSimpArgs false

end Go.Proofs.Ytklnnmgfoebbhaa.PWireReplies
