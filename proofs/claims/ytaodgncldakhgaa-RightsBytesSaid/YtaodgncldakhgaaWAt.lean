/- Texts of the kit's print or of our run of it, cut down to what this claim names (by a program of ours). -/
import Derived.Test.YtaodgncldakhgaaWFootNe
namespace Go.Proofs.YtaodgncldakhgaaW.PrintWords
open Go.RowKit
section
variable {w w' u : World} {m B g : Nat} {o : Obj} {row : Option Nat} {S : Nat → Prop} {a : Addr} {v : Value}
end
namespace Kd
section
variable {α : Type} {d : Kd α} {e base n m : Nat} {ok : Nat → Prop} {w w' : World} {v : Value} {A : Option Addr} {xs : List α}
end
end Kd
end Go.Proofs.YtaodgncldakhgaaW.PrintWords
