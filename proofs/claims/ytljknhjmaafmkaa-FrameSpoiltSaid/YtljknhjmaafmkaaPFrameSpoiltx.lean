-- Written by wip/xprint of this repo (our own program) out of the translation; what is marked BY HAND is ours. Not trusted: Lean checks it.
import Derived.Test.YtljknhjmaafmkaaPFrameSpoiltx0
import Derived.Test.YtljknhjmaafmkaaPFrameSpoiltx1
import Derived.Test.YtljknhjmaafmkaaPFrameSpoiltx2
import Derived.Test.YtljknhjmaafmkaaPFrameSpoiltx3
import Derived.Test.YtljknhjmaafmkaaPFrameSpoiltx4
namespace Go.Proofs.Ytljknhjmaafmkaa.PFrameSpoilt
open Go.RowKit Go.Proofs.YtljknhjmaafmkaaW.PrintWords Go.Proofs.YtljknhjmaafmkaaW.PrintLast Go.Proofs.YtljknhjmaafmkaaW.PrintMore
attribute [local go_sem] max2_int min2_int max_two min_two max_three min_three max_four min_four   -- for this text's walks alone
set_option linter.unusedVariables false
set_option linter.unusedSimpArgs false

end Go.Proofs.Ytljknhjmaafmkaa.PFrameSpoilt
