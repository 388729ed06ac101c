import Derived.Test.YtklnnmgfoebbhaaWInv
import Derived.Test.YtklnnmgfoebbhaaWFootNe
namespace Go.Proofs.YtklnnmgfoebbhaaW.PrintWords
open Go.RowKit
end Go.Proofs.YtklnnmgfoebbhaaW.PrintWords
namespace Go.Proofs.YtklnnmgfoebbhaaW.PrintLast
section
variable {ops : Array Oper} {a : Act} {o og : Oper} {g : Nat} {t : Tmp} {u : Bool}
end
end Go.Proofs.YtklnnmgfoebbhaaW.PrintLast
