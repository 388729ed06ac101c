-- Written by wip/xprint of this repo (our own program) out of the translation; what is marked BY HAND is ours. Not trusted: Lean checks it.
import Derived.Test.YtlehgphnjpgjnaaPBloomMorex0
import Derived.Test.YtlehgphnjpgjnaaPBloomMorex1
import Derived.Test.YtlehgphnjpgjnaaPBloomMorex2
import Derived.Test.YtlehgphnjpgjnaaPBloomMorex3
namespace Go.Proofs.Ytlehgphnjpgjnaa.PBloomMore
open Go.RowKit Go.Proofs.YtlehgphnjpgjnaaW.PrintWords Go.Proofs.YtlehgphnjpgjnaaW.PrintLast Go.Proofs.YtlehgphnjpgjnaaW.PrintMore
attribute [local go_sem] max2_int min2_int max_two min_two max_three min_three max_four min_four   -- for this text's walks alone
set_option linter.unusedVariables false
set_option linter.unusedSimpArgs false

end Go.Proofs.Ytlehgphnjpgjnaa.PBloomMore
