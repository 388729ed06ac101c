-- Written by wip/xprint of this repo (our own program) out of the translation; what is marked BY HAND is ours. Not trusted: Lean checks it.
import Derived.Test.YthpclknekfjnkaaPSumBurstsx0
import Derived.Test.YthpclknekfjnkaaPSumBurstsx1
import Derived.Test.YthpclknekfjnkaaPSumBurstsx2
namespace Go.Proofs.Ythpclknekfjnkaa.PSumBursts
open Go.RowKit Go.Proofs.YthpclknekfjnkaaW.PrintWords Go.Proofs.YthpclknekfjnkaaW.PrintLast Go.Proofs.YthpclknekfjnkaaW.PrintMore
attribute [local go_sem] max2_int min2_int max_two min_two max_three min_three max_four min_four   -- for this text's walks alone
set_option linter.unusedVariables false
set_option linter.unusedSimpArgs false

end Go.Proofs.Ythpclknekfjnkaa.PSumBursts
