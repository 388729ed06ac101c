/- Texts of the kit's print or of our run of it, cut down to what this claim names (by a program of ours). -/
import Derived.Test.YtaodgncldakhgaaPRightsBytesx0
import Derived.Test.YtaodgncldakhgaaPRightsBytesx1
import Derived.Test.YtaodgncldakhgaaPRightsBytesx2
import Derived.Test.YtaodgncldakhgaaPRightsBytesx3
import Derived.Test.YtaodgncldakhgaaPRightsBytesx4
import Derived.Test.YtaodgncldakhgaaPRightsBytesx5
import Derived.Test.YtaodgncldakhgaaPRightsBytesx6
import Derived.Test.YtaodgncldakhgaaPRightsBytesx7
import Derived.Test.YtaodgncldakhgaaPRightsBytesx8
import Derived.Test.YtaodgncldakhgaaPRightsBytesx9
import Derived.Test.YtaodgncldakhgaaPRightsBytesx10
namespace Go.Proofs.Ytaodgncldakhgaa.PRightsBytes
open Go.RowKit Go.Proofs.YtaodgncldakhgaaW.PrintWords Go.Proofs.YtaodgncldakhgaaW.PrintLast Go.Proofs.YtaodgncldakhgaaW.PrintMore
attribute [local go_sem] max2_int min2_int max_two min_two max_three min_three max_four min_four
set_option linter.unusedVariables false
set_option linter.unusedSimpArgs false
end Go.Proofs.Ytaodgncldakhgaa.PRightsBytes
