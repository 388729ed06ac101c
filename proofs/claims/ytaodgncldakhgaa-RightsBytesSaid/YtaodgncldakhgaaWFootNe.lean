/- Texts of the kit's print or of our run of it, cut down to what this claim names (by a program of ours). -/
import Derived.Test.YtaodgncldakhgaaWN
namespace Go.Proofs.YtaodgncldakhgaaW.PrintWords
open Go.RowKit
namespace Kd
section
variable {α : Type} {d : Kd α} {W : World} {g n : Nat} {S ok : Nat → Prop} {A : Option Addr} {ad : Addr} {xs : List α}
end
end Kd
end Go.Proofs.YtaodgncldakhgaaW.PrintWords
