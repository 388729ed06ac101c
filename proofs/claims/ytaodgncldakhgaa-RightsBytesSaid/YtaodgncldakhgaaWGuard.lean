/- Texts of the kit's print or of our run of it, cut down to what this claim names (by a program of ours). -/
import Derived.Test.YtaodgncldakhgaaWWords
namespace Go.Proofs.YtaodgncldakhgaaW.PrintWords
open Go.RowKit
section
variable {P : Program} {ops : Array Oper} {rest : List Oper} {o : Oper} {a : Act} {Q : Exit → Act → World → Prop} {W : World}
end
end Go.Proofs.YtaodgncldakhgaaW.PrintWords
