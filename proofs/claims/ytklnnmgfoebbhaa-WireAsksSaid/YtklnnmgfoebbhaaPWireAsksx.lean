-- Written by wip/xprint of this repo (our own program) out of the translation; what is marked BY HAND is ours. Not trusted: Lean checks it.
import Derived.Test.YtklnnmgfoebbhaaPWireAsksx0
import Derived.Test.YtklnnmgfoebbhaaPWireAsksx1
import Derived.Test.YtklnnmgfoebbhaaPWireAsksx2
import Derived.Test.YtklnnmgfoebbhaaPWireAsksx3
import Derived.Test.YtklnnmgfoebbhaaPWireAsksx4
import Derived.Test.YtklnnmgfoebbhaaPWireAsksx5
import Derived.Test.YtklnnmgfoebbhaaPWireAsksx6
import Derived.Test.YtklnnmgfoebbhaaPWireAsksx7
import Derived.Test.YtklnnmgfoebbhaaPWireAsksx8
import Derived.Test.YtklnnmgfoebbhaaPWireAsksx9
import Derived.Test.YtklnnmgfoebbhaaPWireAsksx10
import Derived.Test.YtklnnmgfoebbhaaPWireAsksx11
import Derived.Test.YtklnnmgfoebbhaaPWireAsksx12
namespace Go.Proofs.Ytklnnmgfoebbhaa.PWireAsks
open Go.RowKit Go.Proofs.YtklnnmgfoebbhaaW.PrintWords Go.Proofs.YtklnnmgfoebbhaaW.PrintLast Go.Proofs.YtklnnmgfoebbhaaW.PrintMore
attribute [local go_sem] max2_int min2_int max_two min_two max_three min_three max_four min_four   -- for this text's walks alone
set_option linter.unusedVariables false
set_option linter.unusedSimpArgs false

end Go.Proofs.Ytklnnmgfoebbhaa.PWireAsks
