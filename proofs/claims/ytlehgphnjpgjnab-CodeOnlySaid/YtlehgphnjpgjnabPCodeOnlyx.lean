-- Written by wip/xprint of this repo (our own program) out of the translation; what is marked BY HAND is ours. Not trusted: Lean checks it.
import Derived.Test.YtlehgphnjpgjnabPCodeOnlyx0
import Derived.Test.YtlehgphnjpgjnabPCodeOnlyx1
import Derived.Test.YtlehgphnjpgjnabPCodeOnlyx2
import Derived.Test.YtlehgphnjpgjnabPCodeOnlyx3
import Derived.Test.YtlehgphnjpgjnabPCodeOnlyx4
namespace Go.Proofs.Ytlehgphnjpgjnab.PCodeOnly
open Go.RowKit Go.Proofs.YtlehgphnjpgjnabW.PrintWords Go.Proofs.YtlehgphnjpgjnabW.PrintLast Go.Proofs.YtlehgphnjpgjnabW.PrintMore
attribute [local go_sem] max2_int min2_int max_two min_two max_three min_three max_four min_four   -- for this text's walks alone
set_option linter.unusedVariables false
set_option linter.unusedSimpArgs false

end Go.Proofs.Ytlehgphnjpgjnab.PCodeOnly
