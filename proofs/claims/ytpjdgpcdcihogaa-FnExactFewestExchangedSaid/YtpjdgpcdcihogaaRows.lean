/-
  No cell of these rows narrows 'for every input' (looked for: loops, veiled, ifaces, maps, wideKeys, modest, calm, conditions, laid).
  DERIVED. THE GIVEN ROWS OF THIS SEAT. 7 by the template 'for every input the law returns true; each argument reads behind the call as it read before'; 0 by the template 'total and deterministic' (their statements: YtpjdgpcdcihogaaTotals.lean).
  GIVEN WITH THE SEED: the statements are not yours to turn. If you find one false, say at which input.
  Laid BY PROGRAM, IN A SANDBOX (cutbox-rows.mjs): the forced cells as the released guide's own fill.sh prints them over the translation d127d42547f31318… (all of the seat's roots in one cut). By AI agents, Wed Nov 11 2026. No macro, syntax, notation, axiom, sorry.
-/
import Derived.Test.YtpjdgpcdcihogaaChecked
import GoSem.Claim
import GoSem.ClaimJoined
import GoSem.ClaimMapViews
import Derived.JoinedTies
import Derived.KernelRfl
namespace Go.Proofs.Ytpjdgpcdcihogaa
/- THE CELL 'sum', in the pinned program and in every row, IS THE sha256 OF THE DUMP (.gsa) THAT YtpjdgpcdcihogaaProg.lean LOADS. Nothing in Lean hashes anything: it is a label: what it is worth is what the hold of that sum in a sandbox is worth. -/
noncomputable def Try.pinned : Pinned := { name := "ytpjdgpcdcihogaa", sum := "d127d42547f313185c8cac9679714874bb6c7517985e2cbc3e44e1461523ae8c", checked := Try.checked }
namespace Rows
def none {H : Type} : Left H := { results := [], args := [] }

/-- 'laws.FnExactJointsAt': WHATEVER THE INPUT: true; the input reads as it did. -/
def fnExactJointsAtSpec : ChangeSpec := { name := "fnExactJointsAt", fn := fun _ => fun
  | [d1, d2] => { results := [.lit (.bool true)], args := [d1, d2] }
  | _ => none }
def fnExactJointsAtRow : OpenClaim := { program := "ytpjdgpcdcihogaa", sum := "d127d42547f313185c8cac9679714874bb6c7517985e2cbc3e44e1461523ae8c", func := "loop.example/g01383/laws.FnExactJointsAt", spec := "fnExactJointsAt", unfollowed := true, recurses := true, apart := false }
def FnExactJointsAtSaid : Prop := fnExactJointsAtRow.holds Try.pinned (OpenSpec.ofChange fnExactJointsAtSpec)

/-- ITS FALSE NEIGHBOUR: 'it returns false'. Refute it at one input. -/
def fnExactJointsAtWrong : ChangeSpec := { name := "fnExactJointsAt", fn := fun _ => fun
  | [d1, d2] => { results := [.lit (.bool false)], args := [d1, d2] }
  | _ => none }
def FnExactJointsAtWrongFalsely : Prop := fnExactJointsAtRow.holds Try.pinned (OpenSpec.ofChange fnExactJointsAtWrong)

/-- 'laws.FnExactGrowCrack': WHATEVER THE INPUT: true; the input reads as it did. -/
def fnExactGrowCrackSpec : ChangeSpec := { name := "fnExactGrowCrack", fn := fun _ => fun
  | [d1, d2, d3, d4] => { results := [.lit (.bool true)], args := [d1, d2, d3, d4] }
  | _ => none }
def fnExactGrowCrackRow : OpenClaim := { program := "ytpjdgpcdcihogaa", sum := "d127d42547f313185c8cac9679714874bb6c7517985e2cbc3e44e1461523ae8c", func := "loop.example/g01383/laws.FnExactGrowCrack", spec := "fnExactGrowCrack", unfollowed := true, recurses := true, apart := false }
def FnExactGrowCrackSaid : Prop := fnExactGrowCrackRow.holds Try.pinned (OpenSpec.ofChange fnExactGrowCrackSpec)

/-- ITS FALSE NEIGHBOUR: 'it returns false'. Refute it at one input. -/
def fnExactGrowCrackWrong : ChangeSpec := { name := "fnExactGrowCrack", fn := fun _ => fun
  | [d1, d2, d3, d4] => { results := [.lit (.bool false)], args := [d1, d2, d3, d4] }
  | _ => none }
def FnExactGrowCrackWrongFalsely : Prop := fnExactGrowCrackRow.holds Try.pinned (OpenSpec.ofChange fnExactGrowCrackWrong)

/-- 'laws.FnExactTouchedBy': WHATEVER THE INPUT: true; the input reads as it did. -/
def fnExactTouchedBySpec : ChangeSpec := { name := "fnExactTouchedBy", fn := fun _ => fun
  | [d1, d2] => { results := [.lit (.bool true)], args := [d1, d2] }
  | _ => none }
def fnExactTouchedByRow : OpenClaim := { program := "ytpjdgpcdcihogaa", sum := "d127d42547f313185c8cac9679714874bb6c7517985e2cbc3e44e1461523ae8c", func := "loop.example/g01383/laws.FnExactTouchedBy", spec := "fnExactTouchedBy", unfollowed := true, recurses := true, apart := false }
def FnExactTouchedBySaid : Prop := fnExactTouchedByRow.holds Try.pinned (OpenSpec.ofChange fnExactTouchedBySpec)

/-- ITS FALSE NEIGHBOUR: 'it returns false'. Refute it at one input. -/
def fnExactTouchedByWrong : ChangeSpec := { name := "fnExactTouchedBy", fn := fun _ => fun
  | [d1, d2] => { results := [.lit (.bool false)], args := [d1, d2] }
  | _ => none }
def FnExactTouchedByWrongFalsely : Prop := fnExactTouchedByRow.holds Try.pinned (OpenSpec.ofChange fnExactTouchedByWrong)

/-- 'laws.FnExactTripEdges': WHATEVER THE INPUT: true; the input reads as it did. -/
def fnExactTripEdgesSpec : ChangeSpec := { name := "fnExactTripEdges", fn := fun _ => fun
  | [d1, d2, d3] => { results := [.lit (.bool true)], args := [d1, d2, d3] }
  | _ => none }
def fnExactTripEdgesRow : OpenClaim := { program := "ytpjdgpcdcihogaa", sum := "d127d42547f313185c8cac9679714874bb6c7517985e2cbc3e44e1461523ae8c", func := "loop.example/g01383/laws.FnExactTripEdges", spec := "fnExactTripEdges", unfollowed := true, recurses := true, apart := false }
def FnExactTripEdgesSaid : Prop := fnExactTripEdgesRow.holds Try.pinned (OpenSpec.ofChange fnExactTripEdgesSpec)

/-- ITS FALSE NEIGHBOUR: 'it returns false'. Refute it at one input. -/
def fnExactTripEdgesWrong : ChangeSpec := { name := "fnExactTripEdges", fn := fun _ => fun
  | [d1, d2, d3] => { results := [.lit (.bool false)], args := [d1, d2, d3] }
  | _ => none }
def FnExactTripEdgesWrongFalsely : Prop := fnExactTripEdgesRow.holds Try.pinned (OpenSpec.ofChange fnExactTripEdgesWrong)

/-- 'laws.FnExactCoversTrips': WHATEVER THE INPUT: true; the input reads as it did. -/
def fnExactCoversTripsSpec : ChangeSpec := { name := "fnExactCoversTrips", fn := fun _ => fun
  | [d1, d2, d3, d4] => { results := [.lit (.bool true)], args := [d1, d2, d3, d4] }
  | _ => none }
def fnExactCoversTripsRow : OpenClaim := { program := "ytpjdgpcdcihogaa", sum := "d127d42547f313185c8cac9679714874bb6c7517985e2cbc3e44e1461523ae8c", func := "loop.example/g01383/laws.FnExactCoversTrips", spec := "fnExactCoversTrips", unfollowed := true, recurses := true, apart := false }
def FnExactCoversTripsSaid : Prop := fnExactCoversTripsRow.holds Try.pinned (OpenSpec.ofChange fnExactCoversTripsSpec)

/-- ITS FALSE NEIGHBOUR: 'it returns false'. Refute it at one input. -/
def fnExactCoversTripsWrong : ChangeSpec := { name := "fnExactCoversTrips", fn := fun _ => fun
  | [d1, d2, d3, d4] => { results := [.lit (.bool false)], args := [d1, d2, d3, d4] }
  | _ => none }
def FnExactCoversTripsWrongFalsely : Prop := fnExactCoversTripsRow.holds Try.pinned (OpenSpec.ofChange fnExactCoversTripsWrong)

/-- 'laws.FnExactGreedyExchanged': WHATEVER THE INPUT: true; the input reads as it did. -/
def fnExactGreedyExchangedSpec : ChangeSpec := { name := "fnExactGreedyExchanged", fn := fun _ => fun
  | [d1, d2, d3] => { results := [.lit (.bool true)], args := [d1, d2, d3] }
  | _ => none }
def fnExactGreedyExchangedRow : OpenClaim := { program := "ytpjdgpcdcihogaa", sum := "d127d42547f313185c8cac9679714874bb6c7517985e2cbc3e44e1461523ae8c", func := "loop.example/g01383/laws.FnExactGreedyExchanged", spec := "fnExactGreedyExchanged", unfollowed := true, recurses := true, apart := false }
def FnExactGreedyExchangedSaid : Prop := fnExactGreedyExchangedRow.holds Try.pinned (OpenSpec.ofChange fnExactGreedyExchangedSpec)

/-- ITS FALSE NEIGHBOUR: 'it returns false'. Refute it at one input. -/
def fnExactGreedyExchangedWrong : ChangeSpec := { name := "fnExactGreedyExchanged", fn := fun _ => fun
  | [d1, d2, d3] => { results := [.lit (.bool false)], args := [d1, d2, d3] }
  | _ => none }
def FnExactGreedyExchangedWrongFalsely : Prop := fnExactGreedyExchangedRow.holds Try.pinned (OpenSpec.ofChange fnExactGreedyExchangedWrong)

/-- 'laws.FnExactFewestExchanged': WHATEVER THE INPUT: true; the input reads as it did. -/
def fnExactFewestExchangedSpec : ChangeSpec := { name := "fnExactFewestExchanged", fn := fun _ => fun
  | [d1, d2, d3] => { results := [.lit (.bool true)], args := [d1, d2, d3] }
  | _ => none }
def fnExactFewestExchangedRow : OpenClaim := { program := "ytpjdgpcdcihogaa", sum := "d127d42547f313185c8cac9679714874bb6c7517985e2cbc3e44e1461523ae8c", func := "loop.example/g01383/laws.FnExactFewestExchanged", spec := "fnExactFewestExchanged", unfollowed := true, recurses := true, apart := false }
def FnExactFewestExchangedSaid : Prop := fnExactFewestExchangedRow.holds Try.pinned (OpenSpec.ofChange fnExactFewestExchangedSpec)

/-- ITS FALSE NEIGHBOUR: 'it returns false'. Refute it at one input. -/
def fnExactFewestExchangedWrong : ChangeSpec := { name := "fnExactFewestExchanged", fn := fun _ => fun
  | [d1, d2, d3] => { results := [.lit (.bool false)], args := [d1, d2, d3] }
  | _ => none }
def FnExactFewestExchangedWrongFalsely : Prop := fnExactFewestExchangedRow.holds Try.pinned (OpenSpec.ofChange fnExactFewestExchangedWrong)

/- THE SECOND FORM. 'bulk': how many values and letters a reading holds, each counted each time it is reached (what is shared counts as often as it is met; a slice's spare places count too). A statement '..UptoSaid' is the law's where the arguments, and the package variables that the reading takes, are together of bulk at most 1048576: NARROWER than '..Said'. Prove '..Said' where nothing that the law and all that it calls make is longer than what came in: it says more and counts as full. Else prove '..UptoSaid'. A law counts once. -/
mutual
def uptoBulk {H : Type} : DataW H → Nat
  | .lit (.string bytes) => bytes.length + 1
  | .lit _ => 1
  | .nil => 1
  | .ptr d => uptoBulk d + 1
  | .slice elems spare => uptoBulkAll elems + uptoBulkAll spare + 1
  | .agg parts => uptoBulkAll parts + 1
  | .iface _ d => uptoBulk d + 1
  | .map entries => uptoBulkEntries entries + 1
  | .held _ => 1
def uptoBulkAll {H : Type} : List (DataW H) → Nat
  | [] => 0
  | d :: r => uptoBulk d + uptoBulkAll r
def uptoBulkEntries {H : Type} : List (Lit × DataW H) → Nat
  | [] => 0
  | x :: r => uptoBulkEntry x + uptoBulkEntries r
def uptoBulkEntry {H : Type} : Lit × DataW H → Nat
  | (.string bytes, d) => bytes.length + uptoBulk d + 1
  | (_, d) => uptoBulk d + 1
 end
def uptoSmall : (H : Type) → List (DataW H) → Bool := fun _ ds => decide (uptoBulkAll ds ≤ 1048576)
def OpenSpec.upto (s : _root_.Go.ChangeSpec) : _root_.Go.OpenSpec := { _root_.Go.OpenSpec.ofChange s with cond := some uptoSmall }

/-- 'laws.FnExactJointsAt', WHERE WHAT IT READS IS OF BULK AT MOST 1048576: true; the input reads as it did. -/
def fnExactJointsAtUptoRow : OpenClaim := { program := "ytpjdgpcdcihogaa", sum := "d127d42547f313185c8cac9679714874bb6c7517985e2cbc3e44e1461523ae8c", func := "loop.example/g01383/laws.FnExactJointsAt", spec := "fnExactJointsAt", unfollowed := true, recurses := true, apart := false, narrowed := true }
def FnExactJointsAtUptoSaid : Prop := fnExactJointsAtUptoRow.holds Try.pinned (OpenSpec.upto fnExactJointsAtSpec)

/-- 'laws.FnExactGrowCrack', WHERE WHAT IT READS IS OF BULK AT MOST 1048576: true; the input reads as it did. -/
def fnExactGrowCrackUptoRow : OpenClaim := { program := "ytpjdgpcdcihogaa", sum := "d127d42547f313185c8cac9679714874bb6c7517985e2cbc3e44e1461523ae8c", func := "loop.example/g01383/laws.FnExactGrowCrack", spec := "fnExactGrowCrack", unfollowed := true, recurses := true, apart := false, narrowed := true }
def FnExactGrowCrackUptoSaid : Prop := fnExactGrowCrackUptoRow.holds Try.pinned (OpenSpec.upto fnExactGrowCrackSpec)

/-- 'laws.FnExactTouchedBy', WHERE WHAT IT READS IS OF BULK AT MOST 1048576: true; the input reads as it did. -/
def fnExactTouchedByUptoRow : OpenClaim := { program := "ytpjdgpcdcihogaa", sum := "d127d42547f313185c8cac9679714874bb6c7517985e2cbc3e44e1461523ae8c", func := "loop.example/g01383/laws.FnExactTouchedBy", spec := "fnExactTouchedBy", unfollowed := true, recurses := true, apart := false, narrowed := true }
def FnExactTouchedByUptoSaid : Prop := fnExactTouchedByUptoRow.holds Try.pinned (OpenSpec.upto fnExactTouchedBySpec)

/-- 'laws.FnExactTripEdges', WHERE WHAT IT READS IS OF BULK AT MOST 1048576: true; the input reads as it did. -/
def fnExactTripEdgesUptoRow : OpenClaim := { program := "ytpjdgpcdcihogaa", sum := "d127d42547f313185c8cac9679714874bb6c7517985e2cbc3e44e1461523ae8c", func := "loop.example/g01383/laws.FnExactTripEdges", spec := "fnExactTripEdges", unfollowed := true, recurses := true, apart := false, narrowed := true }
def FnExactTripEdgesUptoSaid : Prop := fnExactTripEdgesUptoRow.holds Try.pinned (OpenSpec.upto fnExactTripEdgesSpec)

/-- 'laws.FnExactCoversTrips', WHERE WHAT IT READS IS OF BULK AT MOST 1048576: true; the input reads as it did. -/
def fnExactCoversTripsUptoRow : OpenClaim := { program := "ytpjdgpcdcihogaa", sum := "d127d42547f313185c8cac9679714874bb6c7517985e2cbc3e44e1461523ae8c", func := "loop.example/g01383/laws.FnExactCoversTrips", spec := "fnExactCoversTrips", unfollowed := true, recurses := true, apart := false, narrowed := true }
def FnExactCoversTripsUptoSaid : Prop := fnExactCoversTripsUptoRow.holds Try.pinned (OpenSpec.upto fnExactCoversTripsSpec)

/-- 'laws.FnExactGreedyExchanged', WHERE WHAT IT READS IS OF BULK AT MOST 1048576: true; the input reads as it did. -/
def fnExactGreedyExchangedUptoRow : OpenClaim := { program := "ytpjdgpcdcihogaa", sum := "d127d42547f313185c8cac9679714874bb6c7517985e2cbc3e44e1461523ae8c", func := "loop.example/g01383/laws.FnExactGreedyExchanged", spec := "fnExactGreedyExchanged", unfollowed := true, recurses := true, apart := false, narrowed := true }
def FnExactGreedyExchangedUptoSaid : Prop := fnExactGreedyExchangedUptoRow.holds Try.pinned (OpenSpec.upto fnExactGreedyExchangedSpec)

/-- 'laws.FnExactFewestExchanged', WHERE WHAT IT READS IS OF BULK AT MOST 1048576: true; the input reads as it did. -/
def fnExactFewestExchangedUptoRow : OpenClaim := { program := "ytpjdgpcdcihogaa", sum := "d127d42547f313185c8cac9679714874bb6c7517985e2cbc3e44e1461523ae8c", func := "loop.example/g01383/laws.FnExactFewestExchanged", spec := "fnExactFewestExchanged", unfollowed := true, recurses := true, apart := false, narrowed := true }
def FnExactFewestExchangedUptoSaid : Prop := fnExactFewestExchangedUptoRow.holds Try.pinned (OpenSpec.upto fnExactFewestExchangedSpec)

end Rows
end Go.Proofs.Ytpjdgpcdcihogaa
