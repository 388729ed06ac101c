-- Written by wip/xprint of this repo (our own program) out of the translation; what is marked BY HAND is ours. Not trusted: Lean checks it.
import Derived.Test.YtlehgphnjpgjnabPCodeBackx0
import Derived.Test.YtlehgphnjpgjnabPCodeBackx1
import Derived.Test.YtlehgphnjpgjnabPCodeBackx2
import Derived.Test.YtlehgphnjpgjnabPCodeBackx3
import Derived.Test.YtlehgphnjpgjnabPCodeBackx4
import Derived.Test.YtlehgphnjpgjnabPCodeBackx5
namespace Go.Proofs.Ytlehgphnjpgjnab.PCodeBack
open Go.RowKit Go.Proofs.YtlehgphnjpgjnabW.PrintWords Go.Proofs.YtlehgphnjpgjnabW.PrintLast Go.Proofs.YtlehgphnjpgjnabW.PrintMore
attribute [local go_sem] max2_int min2_int max_two min_two max_three min_three max_four min_four   -- for this text's walks alone
set_option linter.unusedVariables false
set_option linter.unusedSimpArgs false

end Go.Proofs.Ytlehgphnjpgjnab.PCodeBack
