-- Written by wip/xprint of this repo (our own program) out of the translation; what is marked BY HAND is ours. Not trusted: Lean checks it.
import Derived.Test.YtklnnmgfoebbhaaPWireMsgsx0
import Derived.Test.YtklnnmgfoebbhaaPWireMsgsx1
import Derived.Test.YtklnnmgfoebbhaaPWireMsgsx2
import Derived.Test.YtklnnmgfoebbhaaPWireMsgsx3
import Derived.Test.YtklnnmgfoebbhaaPWireMsgsx4
import Derived.Test.YtklnnmgfoebbhaaPWireMsgsx5
import Derived.Test.YtklnnmgfoebbhaaPWireMsgsx6
import Derived.Test.YtklnnmgfoebbhaaPWireMsgsx7
import Derived.Test.YtklnnmgfoebbhaaPWireMsgsx8
import Derived.Test.YtklnnmgfoebbhaaPWireMsgsx9
import Derived.Test.YtklnnmgfoebbhaaPWireMsgsx10
namespace Go.Proofs.Ytklnnmgfoebbhaa.PWireMsgs
open Go.RowKit Go.Proofs.YtklnnmgfoebbhaaW.PrintWords Go.Proofs.YtklnnmgfoebbhaaW.PrintLast Go.Proofs.YtklnnmgfoebbhaaW.PrintMore
attribute [local go_sem] max2_int min2_int max_two min_two max_three min_three max_four min_four   -- for this text's walks alone
set_option linter.unusedVariables false
set_option linter.unusedSimpArgs false

end Go.Proofs.Ytklnnmgfoebbhaa.PWireMsgs
