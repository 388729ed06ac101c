/- Texts of the kit's print or of our run of it, cut down to what this claim names (by a program of ours). -/
import Derived.Test.YtaodgncldakhgaaWInv
import Derived.Test.YtaodgncldakhgaaWFootNe
namespace Go.Proofs.YtaodgncldakhgaaW.PrintWords
open Go.RowKit
end Go.Proofs.YtaodgncldakhgaaW.PrintWords
namespace Go.Proofs.YtaodgncldakhgaaW.PrintLast
section
variable {ops : Array Oper} {a : Act} {o og : Oper} {g : Nat} {t : Tmp} {u : Bool}
end
end Go.Proofs.YtaodgncldakhgaaW.PrintLast
