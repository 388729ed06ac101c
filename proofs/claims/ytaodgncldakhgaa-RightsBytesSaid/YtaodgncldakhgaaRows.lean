/-
  No cell of these rows narrows 'for every input' (looked for: loops, veiled, ifaces, maps, wideKeys, modest, calm, conditions, laid).
  DERIVED. THE GIVEN ROWS OF THIS SEAT. 8 by the template 'for every input the law returns true; each argument reads behind the call as it read before'; 0 by the template 'total and deterministic' (their statements: YtaodgncldakhgaaTotals.lean).
  GIVEN WITH THE SEED: the statements are not yours to turn. If you find one false, say at which input.
  Laid BY PROGRAM, IN A SANDBOX (cutbox-rows.mjs): the forced cells as the released guide's own fill.sh prints them over the translation 1c0e947d7a3e6887… (all of the seat's roots in one cut). By AI agents, Wed Nov 11 2026. No macro, syntax, notation, axiom, sorry.
-/
import Derived.Test.YtaodgncldakhgaaChecked
import GoSem.Claim
import GoSem.ClaimJoined
import GoSem.ClaimMapViews
import Derived.JoinedTies
import Derived.KernelRfl
namespace Go.Proofs.Ytaodgncldakhgaa
/- THE CELL 'sum', in the pinned program and in every row, IS THE sha256 OF THE DUMP (.gsa) THAT YtaodgncldakhgaaProg.lean LOADS. Nothing in Lean hashes anything: it is a label: what it is worth is what the hold of that sum in a sandbox is worth. -/
noncomputable def Try.pinned : Pinned := { name := "ytaodgncldakhgaa", sum := "1c0e947d7a3e6887f9f7ee4f8a366719706504f00dae7c151eb12169b724ca8f", checked := Try.checked }
namespace Rows
def none {H : Type} : Left H := { results := [], args := [] }

/-- 'lienlaw20.RightsHolds': WHATEVER THE INPUT: true; the input reads as it did. -/
def rightsHoldsSpec : ChangeSpec := { name := "rightsHolds", fn := fun _ => fun
  | [d1, d2] => { results := [.lit (.bool true)], args := [d1, d2] }
  | _ => none }
def rightsHoldsRow : OpenClaim := { program := "ytaodgncldakhgaa", sum := "1c0e947d7a3e6887f9f7ee4f8a366719706504f00dae7c151eb12169b724ca8f", func := "lien/lienlaw20.RightsHolds", spec := "rightsHolds", unfollowed := true, recurses := true, apart := false }
def RightsHoldsSaid : Prop := rightsHoldsRow.holds Try.pinned (OpenSpec.ofChange rightsHoldsSpec)

/-- ITS FALSE NEIGHBOUR: 'it returns false'. Refute it at one input. -/
def rightsHoldsWrong : ChangeSpec := { name := "rightsHolds", fn := fun _ => fun
  | [d1, d2] => { results := [.lit (.bool false)], args := [d1, d2] }
  | _ => none }
def RightsHoldsWrongFalsely : Prop := rightsHoldsRow.holds Try.pinned (OpenSpec.ofChange rightsHoldsWrong)

/-- 'lienlaw20.RightsTimes': WHATEVER THE INPUT: true; the input reads as it did. -/
def rightsTimesSpec : ChangeSpec := { name := "rightsTimes", fn := fun _ => fun
  | [d1, d2, d3] => { results := [.lit (.bool true)], args := [d1, d2, d3] }
  | _ => none }
def rightsTimesRow : OpenClaim := { program := "ytaodgncldakhgaa", sum := "1c0e947d7a3e6887f9f7ee4f8a366719706504f00dae7c151eb12169b724ca8f", func := "lien/lienlaw20.RightsTimes", spec := "rightsTimes", unfollowed := true, recurses := true, apart := false }
def RightsTimesSaid : Prop := rightsTimesRow.holds Try.pinned (OpenSpec.ofChange rightsTimesSpec)

/-- ITS FALSE NEIGHBOUR: 'it returns false'. Refute it at one input. -/
def rightsTimesWrong : ChangeSpec := { name := "rightsTimes", fn := fun _ => fun
  | [d1, d2, d3] => { results := [.lit (.bool false)], args := [d1, d2, d3] }
  | _ => none }
def RightsTimesWrongFalsely : Prop := rightsTimesRow.holds Try.pinned (OpenSpec.ofChange rightsTimesWrong)

/-- 'lienlaw20.RightsTaken': WHATEVER THE INPUT: true; the input reads as it did. -/
def rightsTakenSpec : ChangeSpec := { name := "rightsTaken", fn := fun _ => fun
  | [d1, d2] => { results := [.lit (.bool true)], args := [d1, d2] }
  | _ => none }
def rightsTakenRow : OpenClaim := { program := "ytaodgncldakhgaa", sum := "1c0e947d7a3e6887f9f7ee4f8a366719706504f00dae7c151eb12169b724ca8f", func := "lien/lienlaw20.RightsTaken", spec := "rightsTaken", unfollowed := true, recurses := true, apart := false }
def RightsTakenSaid : Prop := rightsTakenRow.holds Try.pinned (OpenSpec.ofChange rightsTakenSpec)

/-- ITS FALSE NEIGHBOUR: 'it returns false'. Refute it at one input. -/
def rightsTakenWrong : ChangeSpec := { name := "rightsTaken", fn := fun _ => fun
  | [d1, d2] => { results := [.lit (.bool false)], args := [d1, d2] }
  | _ => none }
def RightsTakenWrongFalsely : Prop := rightsTakenRow.holds Try.pinned (OpenSpec.ofChange rightsTakenWrong)

/-- 'lienlaw20.RightsChecks': WHATEVER THE INPUT: true; the input reads as it did. -/
def rightsChecksSpec : ChangeSpec := { name := "rightsChecks", fn := fun _ => fun
  | [d1, d2] => { results := [.lit (.bool true)], args := [d1, d2] }
  | _ => none }
def rightsChecksRow : OpenClaim := { program := "ytaodgncldakhgaa", sum := "1c0e947d7a3e6887f9f7ee4f8a366719706504f00dae7c151eb12169b724ca8f", func := "lien/lienlaw20.RightsChecks", spec := "rightsChecks", unfollowed := true, recurses := true, apart := false }
def RightsChecksSaid : Prop := rightsChecksRow.holds Try.pinned (OpenSpec.ofChange rightsChecksSpec)

/-- ITS FALSE NEIGHBOUR: 'it returns false'. Refute it at one input. -/
def rightsChecksWrong : ChangeSpec := { name := "rightsChecks", fn := fun _ => fun
  | [d1, d2] => { results := [.lit (.bool false)], args := [d1, d2] }
  | _ => none }
def RightsChecksWrongFalsely : Prop := rightsChecksRow.holds Try.pinned (OpenSpec.ofChange rightsChecksWrong)

/-- 'lienlaw20.RightsCounts': WHATEVER THE INPUT: true; the input reads as it did. -/
def rightsCountsSpec : ChangeSpec := { name := "rightsCounts", fn := fun _ => fun
  | [d1, d2] => { results := [.lit (.bool true)], args := [d1, d2] }
  | _ => none }
def rightsCountsRow : OpenClaim := { program := "ytaodgncldakhgaa", sum := "1c0e947d7a3e6887f9f7ee4f8a366719706504f00dae7c151eb12169b724ca8f", func := "lien/lienlaw20.RightsCounts", spec := "rightsCounts", unfollowed := true, recurses := true, apart := false }
def RightsCountsSaid : Prop := rightsCountsRow.holds Try.pinned (OpenSpec.ofChange rightsCountsSpec)

/-- ITS FALSE NEIGHBOUR: 'it returns false'. Refute it at one input. -/
def rightsCountsWrong : ChangeSpec := { name := "rightsCounts", fn := fun _ => fun
  | [d1, d2] => { results := [.lit (.bool false)], args := [d1, d2] }
  | _ => none }
def RightsCountsWrongFalsely : Prop := rightsCountsRow.holds Try.pinned (OpenSpec.ofChange rightsCountsWrong)

/-- 'lienlaw20.RightsKept': WHATEVER THE INPUT: true; the input reads as it did. -/
def rightsKeptSpec : ChangeSpec := { name := "rightsKept", fn := fun _ => fun
  | [d] => { results := [.lit (.bool true)], args := [d] }
  | _ => none }
def rightsKeptRow : OpenClaim := { program := "ytaodgncldakhgaa", sum := "1c0e947d7a3e6887f9f7ee4f8a366719706504f00dae7c151eb12169b724ca8f", func := "lien/lienlaw20.RightsKept", spec := "rightsKept", unfollowed := true, recurses := true, apart := false }
def RightsKeptSaid : Prop := rightsKeptRow.holds Try.pinned (OpenSpec.ofChange rightsKeptSpec)

/-- ITS FALSE NEIGHBOUR: 'it returns false'. Refute it at one input. -/
def rightsKeptWrong : ChangeSpec := { name := "rightsKept", fn := fun _ => fun
  | [d] => { results := [.lit (.bool false)], args := [d] }
  | _ => none }
def RightsKeptWrongFalsely : Prop := rightsKeptRow.holds Try.pinned (OpenSpec.ofChange rightsKeptWrong)

/-- 'lienlaw20.RightsBytes': WHATEVER THE INPUT: true; the input reads as it did. -/
def rightsBytesSpec : ChangeSpec := { name := "rightsBytes", fn := fun _ => fun
  | [d1, d2, d3] => { results := [.lit (.bool true)], args := [d1, d2, d3] }
  | _ => none }
def rightsBytesRow : OpenClaim := { program := "ytaodgncldakhgaa", sum := "1c0e947d7a3e6887f9f7ee4f8a366719706504f00dae7c151eb12169b724ca8f", func := "lien/lienlaw20.RightsBytes", spec := "rightsBytes", unfollowed := true, recurses := true, apart := false }
def RightsBytesSaid : Prop := rightsBytesRow.holds Try.pinned (OpenSpec.ofChange rightsBytesSpec)

/-- ITS FALSE NEIGHBOUR: 'it returns false'. Refute it at one input. -/
def rightsBytesWrong : ChangeSpec := { name := "rightsBytes", fn := fun _ => fun
  | [d1, d2, d3] => { results := [.lit (.bool false)], args := [d1, d2, d3] }
  | _ => none }
def RightsBytesWrongFalsely : Prop := rightsBytesRow.holds Try.pinned (OpenSpec.ofChange rightsBytesWrong)

/-- 'lienlaw20.RightsBack': WHATEVER THE INPUT: true; the input reads as it did. -/
def rightsBackSpec : ChangeSpec := { name := "rightsBack", fn := fun _ => fun
  | [d1, d2, d3] => { results := [.lit (.bool true)], args := [d1, d2, d3] }
  | _ => none }
def rightsBackRow : OpenClaim := { program := "ytaodgncldakhgaa", sum := "1c0e947d7a3e6887f9f7ee4f8a366719706504f00dae7c151eb12169b724ca8f", func := "lien/lienlaw20.RightsBack", spec := "rightsBack", unfollowed := true, recurses := true, apart := false }
def RightsBackSaid : Prop := rightsBackRow.holds Try.pinned (OpenSpec.ofChange rightsBackSpec)

/-- ITS FALSE NEIGHBOUR: 'it returns false'. Refute it at one input. -/
def rightsBackWrong : ChangeSpec := { name := "rightsBack", fn := fun _ => fun
  | [d1, d2, d3] => { results := [.lit (.bool false)], args := [d1, d2, d3] }
  | _ => none }
def RightsBackWrongFalsely : Prop := rightsBackRow.holds Try.pinned (OpenSpec.ofChange rightsBackWrong)

/- THE SECOND FORM. 'bulk': how many values and letters a reading holds, each counted each time it is reached (what is shared counts as often as it is met; a slice's spare places count too). A statement '..UptoSaid' is the law's where the arguments, and the package variables that the reading takes, are together of bulk at most 1048576: NARROWER than '..Said'. Prove '..Said' where nothing that the law and all that it calls make is longer than what came in: it says more and counts as full. Else prove '..UptoSaid'. A law counts once. -/
mutual
def uptoBulk {H : Type} : DataW H → Nat
  | .lit (.string bytes) => bytes.length + 1
  | .lit _ => 1
  | .nil => 1
  | .ptr d => uptoBulk d + 1
  | .slice elems spare => uptoBulkAll elems + uptoBulkAll spare + 1
  | .agg parts => uptoBulkAll parts + 1
  | .iface _ d => uptoBulk d + 1
  | .map entries => uptoBulkEntries entries + 1
  | .held _ => 1
def uptoBulkAll {H : Type} : List (DataW H) → Nat
  | [] => 0
  | d :: r => uptoBulk d + uptoBulkAll r
def uptoBulkEntries {H : Type} : List (Lit × DataW H) → Nat
  | [] => 0
  | x :: r => uptoBulkEntry x + uptoBulkEntries r
def uptoBulkEntry {H : Type} : Lit × DataW H → Nat
  | (.string bytes, d) => bytes.length + uptoBulk d + 1
  | (_, d) => uptoBulk d + 1
 end
def uptoSmall : (H : Type) → List (DataW H) → Bool := fun _ ds => decide (uptoBulkAll ds ≤ 1048576)
def OpenSpec.upto (s : _root_.Go.ChangeSpec) : _root_.Go.OpenSpec := { _root_.Go.OpenSpec.ofChange s with cond := some uptoSmall }

/-- 'lienlaw20.RightsHolds', WHERE WHAT IT READS IS OF BULK AT MOST 1048576: true; the input reads as it did. -/
def rightsHoldsUptoRow : OpenClaim := { program := "ytaodgncldakhgaa", sum := "1c0e947d7a3e6887f9f7ee4f8a366719706504f00dae7c151eb12169b724ca8f", func := "lien/lienlaw20.RightsHolds", spec := "rightsHolds", unfollowed := true, recurses := true, apart := false, narrowed := true }
def RightsHoldsUptoSaid : Prop := rightsHoldsUptoRow.holds Try.pinned (OpenSpec.upto rightsHoldsSpec)

/-- 'lienlaw20.RightsTimes', WHERE WHAT IT READS IS OF BULK AT MOST 1048576: true; the input reads as it did. -/
def rightsTimesUptoRow : OpenClaim := { program := "ytaodgncldakhgaa", sum := "1c0e947d7a3e6887f9f7ee4f8a366719706504f00dae7c151eb12169b724ca8f", func := "lien/lienlaw20.RightsTimes", spec := "rightsTimes", unfollowed := true, recurses := true, apart := false, narrowed := true }
def RightsTimesUptoSaid : Prop := rightsTimesUptoRow.holds Try.pinned (OpenSpec.upto rightsTimesSpec)

/-- 'lienlaw20.RightsTaken', WHERE WHAT IT READS IS OF BULK AT MOST 1048576: true; the input reads as it did. -/
def rightsTakenUptoRow : OpenClaim := { program := "ytaodgncldakhgaa", sum := "1c0e947d7a3e6887f9f7ee4f8a366719706504f00dae7c151eb12169b724ca8f", func := "lien/lienlaw20.RightsTaken", spec := "rightsTaken", unfollowed := true, recurses := true, apart := false, narrowed := true }
def RightsTakenUptoSaid : Prop := rightsTakenUptoRow.holds Try.pinned (OpenSpec.upto rightsTakenSpec)

/-- 'lienlaw20.RightsChecks', WHERE WHAT IT READS IS OF BULK AT MOST 1048576: true; the input reads as it did. -/
def rightsChecksUptoRow : OpenClaim := { program := "ytaodgncldakhgaa", sum := "1c0e947d7a3e6887f9f7ee4f8a366719706504f00dae7c151eb12169b724ca8f", func := "lien/lienlaw20.RightsChecks", spec := "rightsChecks", unfollowed := true, recurses := true, apart := false, narrowed := true }
def RightsChecksUptoSaid : Prop := rightsChecksUptoRow.holds Try.pinned (OpenSpec.upto rightsChecksSpec)

/-- 'lienlaw20.RightsCounts', WHERE WHAT IT READS IS OF BULK AT MOST 1048576: true; the input reads as it did. -/
def rightsCountsUptoRow : OpenClaim := { program := "ytaodgncldakhgaa", sum := "1c0e947d7a3e6887f9f7ee4f8a366719706504f00dae7c151eb12169b724ca8f", func := "lien/lienlaw20.RightsCounts", spec := "rightsCounts", unfollowed := true, recurses := true, apart := false, narrowed := true }
def RightsCountsUptoSaid : Prop := rightsCountsUptoRow.holds Try.pinned (OpenSpec.upto rightsCountsSpec)

/-- 'lienlaw20.RightsKept', WHERE WHAT IT READS IS OF BULK AT MOST 1048576: true; the input reads as it did. -/
def rightsKeptUptoRow : OpenClaim := { program := "ytaodgncldakhgaa", sum := "1c0e947d7a3e6887f9f7ee4f8a366719706504f00dae7c151eb12169b724ca8f", func := "lien/lienlaw20.RightsKept", spec := "rightsKept", unfollowed := true, recurses := true, apart := false, narrowed := true }
def RightsKeptUptoSaid : Prop := rightsKeptUptoRow.holds Try.pinned (OpenSpec.upto rightsKeptSpec)

/-- 'lienlaw20.RightsBytes', WHERE WHAT IT READS IS OF BULK AT MOST 1048576: true; the input reads as it did. -/
def rightsBytesUptoRow : OpenClaim := { program := "ytaodgncldakhgaa", sum := "1c0e947d7a3e6887f9f7ee4f8a366719706504f00dae7c151eb12169b724ca8f", func := "lien/lienlaw20.RightsBytes", spec := "rightsBytes", unfollowed := true, recurses := true, apart := false, narrowed := true }
def RightsBytesUptoSaid : Prop := rightsBytesUptoRow.holds Try.pinned (OpenSpec.upto rightsBytesSpec)

/-- 'lienlaw20.RightsBack', WHERE WHAT IT READS IS OF BULK AT MOST 1048576: true; the input reads as it did. -/
def rightsBackUptoRow : OpenClaim := { program := "ytaodgncldakhgaa", sum := "1c0e947d7a3e6887f9f7ee4f8a366719706504f00dae7c151eb12169b724ca8f", func := "lien/lienlaw20.RightsBack", spec := "rightsBack", unfollowed := true, recurses := true, apart := false, narrowed := true }
def RightsBackUptoSaid : Prop := rightsBackUptoRow.holds Try.pinned (OpenSpec.upto rightsBackSpec)

end Rows
end Go.Proofs.Ytaodgncldakhgaa
