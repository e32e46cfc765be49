/-
  No cell of these rows narrows 'for every input' (looked for: loops, veiled, ifaces, maps, wideKeys, modest, calm, conditions, laid).
  DERIVED. THE GIVEN ROWS OF THIS SEAT. 11 by the template 'for every input the law returns true; each argument reads behind the call as it read before'; 0 by the template 'total and deterministic' (their statements: YtbmkhhhlnollmaaTotals.lean).
  GIVEN WITH THE SEED: the statements are not yours to turn. If you find one false, say at which input.
  Laid BY PROGRAM, IN A SANDBOX (cutbox-rows.mjs): the forced cells as the released guide's own fill.sh prints them over the translation 03217ebbb4f708b5… (all of the seat's roots in one cut). By AI agents, Wed Nov 11 2026. No macro, syntax, notation, axiom, sorry.
-/
import Derived.Test.YtbmkhhhlnollmaaChecked
import GoSem.Claim
import GoSem.ClaimJoined
import GoSem.ClaimMapViews
import Derived.JoinedTies
import Derived.KernelRfl
namespace Go.Proofs.Ytbmkhhhlnollmaa
/- THE CELL 'sum', in the pinned program and in every row, IS THE sha256 OF THE DUMP (.gsa) THAT YtbmkhhhlnollmaaProg.lean LOADS. Nothing in Lean hashes anything: it is a label: what it is worth is what the hold of that sum in a sandbox is worth. -/
noncomputable def Try.pinned : Pinned := { name := "ytbmkhhhlnollmaa", sum := "03217ebbb4f708b5350998a67890e219a7744401fd99d9244642a9ccb77bbb43", checked := Try.checked }
namespace Rows
def none {H : Type} : Left H := { results := [], args := [] }

/-- 'laws.FnExactJointsAt': WHATEVER THE INPUT: true; the input reads as it did. -/
def fnExactJointsAtSpec : ChangeSpec := { name := "fnExactJointsAt", fn := fun _ => fun
  | [d1, d2] => { results := [.lit (.bool true)], args := [d1, d2] }
  | _ => none }
def fnExactJointsAtRow : OpenClaim := { program := "ytbmkhhhlnollmaa", sum := "03217ebbb4f708b5350998a67890e219a7744401fd99d9244642a9ccb77bbb43", func := "loop.example/g01383/laws.FnExactJointsAt", spec := "fnExactJointsAt", unfollowed := true, recurses := true, apart := false }
def FnExactJointsAtSaid : Prop := fnExactJointsAtRow.holds Try.pinned (OpenSpec.ofChange fnExactJointsAtSpec)

/-- ITS FALSE NEIGHBOUR: 'it returns false'. Refute it at one input. -/
def fnExactJointsAtWrong : ChangeSpec := { name := "fnExactJointsAt", fn := fun _ => fun
  | [d1, d2] => { results := [.lit (.bool false)], args := [d1, d2] }
  | _ => none }
def FnExactJointsAtWrongFalsely : Prop := fnExactJointsAtRow.holds Try.pinned (OpenSpec.ofChange fnExactJointsAtWrong)

/-- 'laws.FnExactMeetOf': WHATEVER THE INPUT: true; the input reads as it did. -/
def fnExactMeetOfSpec : ChangeSpec := { name := "fnExactMeetOf", fn := fun _ => fun
  | [d1, d2, d3] => { results := [.lit (.bool true)], args := [d1, d2, d3] }
  | _ => none }
def fnExactMeetOfRow : OpenClaim := { program := "ytbmkhhhlnollmaa", sum := "03217ebbb4f708b5350998a67890e219a7744401fd99d9244642a9ccb77bbb43", func := "loop.example/g01383/laws.FnExactMeetOf", spec := "fnExactMeetOf", unfollowed := true, recurses := true, apart := false }
def FnExactMeetOfSaid : Prop := fnExactMeetOfRow.holds Try.pinned (OpenSpec.ofChange fnExactMeetOfSpec)

/-- ITS FALSE NEIGHBOUR: 'it returns false'. Refute it at one input. -/
def fnExactMeetOfWrong : ChangeSpec := { name := "fnExactMeetOf", fn := fun _ => fun
  | [d1, d2, d3] => { results := [.lit (.bool false)], args := [d1, d2, d3] }
  | _ => none }
def FnExactMeetOfWrongFalsely : Prop := fnExactMeetOfRow.holds Try.pinned (OpenSpec.ofChange fnExactMeetOfWrong)

/-- 'laws.FnExactGrowCrack': WHATEVER THE INPUT: true; the input reads as it did. -/
def fnExactGrowCrackSpec : ChangeSpec := { name := "fnExactGrowCrack", fn := fun _ => fun
  | [d1, d2, d3, d4] => { results := [.lit (.bool true)], args := [d1, d2, d3, d4] }
  | _ => none }
def fnExactGrowCrackRow : OpenClaim := { program := "ytbmkhhhlnollmaa", sum := "03217ebbb4f708b5350998a67890e219a7744401fd99d9244642a9ccb77bbb43", func := "loop.example/g01383/laws.FnExactGrowCrack", spec := "fnExactGrowCrack", unfollowed := true, recurses := true, apart := false }
def FnExactGrowCrackSaid : Prop := fnExactGrowCrackRow.holds Try.pinned (OpenSpec.ofChange fnExactGrowCrackSpec)

/-- ITS FALSE NEIGHBOUR: 'it returns false'. Refute it at one input. -/
def fnExactGrowCrackWrong : ChangeSpec := { name := "fnExactGrowCrack", fn := fun _ => fun
  | [d1, d2, d3, d4] => { results := [.lit (.bool false)], args := [d1, d2, d3, d4] }
  | _ => none }
def FnExactGrowCrackWrongFalsely : Prop := fnExactGrowCrackRow.holds Try.pinned (OpenSpec.ofChange fnExactGrowCrackWrong)

/-- 'laws.FnExactGrowAll': WHATEVER THE INPUT: true; the input reads as it did. -/
def fnExactGrowAllSpec : ChangeSpec := { name := "fnExactGrowAll", fn := fun _ => fun
  | [d1, d2, d3, d4] => { results := [.lit (.bool true)], args := [d1, d2, d3, d4] }
  | _ => none }
def fnExactGrowAllRow : OpenClaim := { program := "ytbmkhhhlnollmaa", sum := "03217ebbb4f708b5350998a67890e219a7744401fd99d9244642a9ccb77bbb43", func := "loop.example/g01383/laws.FnExactGrowAll", spec := "fnExactGrowAll", unfollowed := true, recurses := true, apart := false }
def FnExactGrowAllSaid : Prop := fnExactGrowAllRow.holds Try.pinned (OpenSpec.ofChange fnExactGrowAllSpec)

/-- ITS FALSE NEIGHBOUR: 'it returns false'. Refute it at one input. -/
def fnExactGrowAllWrong : ChangeSpec := { name := "fnExactGrowAll", fn := fun _ => fun
  | [d1, d2, d3, d4] => { results := [.lit (.bool false)], args := [d1, d2, d3, d4] }
  | _ => none }
def FnExactGrowAllWrongFalsely : Prop := fnExactGrowAllRow.holds Try.pinned (OpenSpec.ofChange fnExactGrowAllWrong)

/-- 'laws.FnExactLongestCrack': WHATEVER THE INPUT: true; the input reads as it did. -/
def fnExactLongestCrackSpec : ChangeSpec := { name := "fnExactLongestCrack", fn := fun _ => fun
  | [d1, d2] => { results := [.lit (.bool true)], args := [d1, d2] }
  | _ => none }
def fnExactLongestCrackRow : OpenClaim := { program := "ytbmkhhhlnollmaa", sum := "03217ebbb4f708b5350998a67890e219a7744401fd99d9244642a9ccb77bbb43", func := "loop.example/g01383/laws.FnExactLongestCrack", spec := "fnExactLongestCrack", unfollowed := true, recurses := true, apart := false }
def FnExactLongestCrackSaid : Prop := fnExactLongestCrackRow.holds Try.pinned (OpenSpec.ofChange fnExactLongestCrackSpec)

/-- ITS FALSE NEIGHBOUR: 'it returns false'. Refute it at one input. -/
def fnExactLongestCrackWrong : ChangeSpec := { name := "fnExactLongestCrack", fn := fun _ => fun
  | [d1, d2] => { results := [.lit (.bool false)], args := [d1, d2] }
  | _ => none }
def FnExactLongestCrackWrongFalsely : Prop := fnExactLongestCrackRow.holds Try.pinned (OpenSpec.ofChange fnExactLongestCrackWrong)

/-- 'laws.FnExactTouchedBy': WHATEVER THE INPUT: true; the input reads as it did. -/
def fnExactTouchedBySpec : ChangeSpec := { name := "fnExactTouchedBy", fn := fun _ => fun
  | [d1, d2] => { results := [.lit (.bool true)], args := [d1, d2] }
  | _ => none }
def fnExactTouchedByRow : OpenClaim := { program := "ytbmkhhhlnollmaa", sum := "03217ebbb4f708b5350998a67890e219a7744401fd99d9244642a9ccb77bbb43", func := "loop.example/g01383/laws.FnExactTouchedBy", spec := "fnExactTouchedBy", unfollowed := true, recurses := true, apart := false }
def FnExactTouchedBySaid : Prop := fnExactTouchedByRow.holds Try.pinned (OpenSpec.ofChange fnExactTouchedBySpec)

/-- ITS FALSE NEIGHBOUR: 'it returns false'. Refute it at one input. -/
def fnExactTouchedByWrong : ChangeSpec := { name := "fnExactTouchedBy", fn := fun _ => fun
  | [d1, d2] => { results := [.lit (.bool false)], args := [d1, d2] }
  | _ => none }
def FnExactTouchedByWrongFalsely : Prop := fnExactTouchedByRow.holds Try.pinned (OpenSpec.ofChange fnExactTouchedByWrong)

/-- 'laws.FnExactTripEdges': WHATEVER THE INPUT: true; the input reads as it did. -/
def fnExactTripEdgesSpec : ChangeSpec := { name := "fnExactTripEdges", fn := fun _ => fun
  | [d1, d2, d3] => { results := [.lit (.bool true)], args := [d1, d2, d3] }
  | _ => none }
def fnExactTripEdgesRow : OpenClaim := { program := "ytbmkhhhlnollmaa", sum := "03217ebbb4f708b5350998a67890e219a7744401fd99d9244642a9ccb77bbb43", func := "loop.example/g01383/laws.FnExactTripEdges", spec := "fnExactTripEdges", unfollowed := true, recurses := true, apart := false }
def FnExactTripEdgesSaid : Prop := fnExactTripEdgesRow.holds Try.pinned (OpenSpec.ofChange fnExactTripEdgesSpec)

/-- ITS FALSE NEIGHBOUR: 'it returns false'. Refute it at one input. -/
def fnExactTripEdgesWrong : ChangeSpec := { name := "fnExactTripEdges", fn := fun _ => fun
  | [d1, d2, d3] => { results := [.lit (.bool false)], args := [d1, d2, d3] }
  | _ => none }
def FnExactTripEdgesWrongFalsely : Prop := fnExactTripEdgesRow.holds Try.pinned (OpenSpec.ofChange fnExactTripEdgesWrong)

/-- 'laws.FnExactPairsBound': WHATEVER THE INPUT: true; the input reads as it did. -/
def fnExactPairsBoundSpec : ChangeSpec := { name := "fnExactPairsBound", fn := fun _ => fun
  | [d1, d2, d3] => { results := [.lit (.bool true)], args := [d1, d2, d3] }
  | _ => none }
def fnExactPairsBoundRow : OpenClaim := { program := "ytbmkhhhlnollmaa", sum := "03217ebbb4f708b5350998a67890e219a7744401fd99d9244642a9ccb77bbb43", func := "loop.example/g01383/laws.FnExactPairsBound", spec := "fnExactPairsBound", unfollowed := true, recurses := true, apart := false }
def FnExactPairsBoundSaid : Prop := fnExactPairsBoundRow.holds Try.pinned (OpenSpec.ofChange fnExactPairsBoundSpec)

/-- ITS FALSE NEIGHBOUR: 'it returns false'. Refute it at one input. -/
def fnExactPairsBoundWrong : ChangeSpec := { name := "fnExactPairsBound", fn := fun _ => fun
  | [d1, d2, d3] => { results := [.lit (.bool false)], args := [d1, d2, d3] }
  | _ => none }
def FnExactPairsBoundWrongFalsely : Prop := fnExactPairsBoundRow.holds Try.pinned (OpenSpec.ofChange fnExactPairsBoundWrong)

/-- 'laws.FnExactFirstTrip': WHATEVER THE INPUT: true; the input reads as it did. -/
def fnExactFirstTripSpec : ChangeSpec := { name := "fnExactFirstTrip", fn := fun _ => fun
  | [d1, d2, d3, d4] => { results := [.lit (.bool true)], args := [d1, d2, d3, d4] }
  | _ => none }
def fnExactFirstTripRow : OpenClaim := { program := "ytbmkhhhlnollmaa", sum := "03217ebbb4f708b5350998a67890e219a7744401fd99d9244642a9ccb77bbb43", func := "loop.example/g01383/laws.FnExactFirstTrip", spec := "fnExactFirstTrip", unfollowed := true, recurses := true, apart := false }
def FnExactFirstTripSaid : Prop := fnExactFirstTripRow.holds Try.pinned (OpenSpec.ofChange fnExactFirstTripSpec)

/-- ITS FALSE NEIGHBOUR: 'it returns false'. Refute it at one input. -/
def fnExactFirstTripWrong : ChangeSpec := { name := "fnExactFirstTrip", fn := fun _ => fun
  | [d1, d2, d3, d4] => { results := [.lit (.bool false)], args := [d1, d2, d3, d4] }
  | _ => none }
def FnExactFirstTripWrongFalsely : Prop := fnExactFirstTripRow.holds Try.pinned (OpenSpec.ofChange fnExactFirstTripWrong)

/-- 'laws.FnExactCoversTrips': WHATEVER THE INPUT: true; the input reads as it did. -/
def fnExactCoversTripsSpec : ChangeSpec := { name := "fnExactCoversTrips", fn := fun _ => fun
  | [d1, d2, d3, d4] => { results := [.lit (.bool true)], args := [d1, d2, d3, d4] }
  | _ => none }
def fnExactCoversTripsRow : OpenClaim := { program := "ytbmkhhhlnollmaa", sum := "03217ebbb4f708b5350998a67890e219a7744401fd99d9244642a9ccb77bbb43", func := "loop.example/g01383/laws.FnExactCoversTrips", spec := "fnExactCoversTrips", unfollowed := true, recurses := true, apart := false }
def FnExactCoversTripsSaid : Prop := fnExactCoversTripsRow.holds Try.pinned (OpenSpec.ofChange fnExactCoversTripsSpec)

/-- ITS FALSE NEIGHBOUR: 'it returns false'. Refute it at one input. -/
def fnExactCoversTripsWrong : ChangeSpec := { name := "fnExactCoversTrips", fn := fun _ => fun
  | [d1, d2, d3, d4] => { results := [.lit (.bool false)], args := [d1, d2, d3, d4] }
  | _ => none }
def FnExactCoversTripsWrongFalsely : Prop := fnExactCoversTripsRow.holds Try.pinned (OpenSpec.ofChange fnExactCoversTripsWrong)

/-- 'laws.FnExactGreedyExchanged': WHATEVER THE INPUT: true; the input reads as it did. -/
def fnExactGreedyExchangedSpec : ChangeSpec := { name := "fnExactGreedyExchanged", fn := fun _ => fun
  | [d1, d2, d3] => { results := [.lit (.bool true)], args := [d1, d2, d3] }
  | _ => none }
def fnExactGreedyExchangedRow : OpenClaim := { program := "ytbmkhhhlnollmaa", sum := "03217ebbb4f708b5350998a67890e219a7744401fd99d9244642a9ccb77bbb43", func := "loop.example/g01383/laws.FnExactGreedyExchanged", spec := "fnExactGreedyExchanged", unfollowed := true, recurses := true, apart := false }
def FnExactGreedyExchangedSaid : Prop := fnExactGreedyExchangedRow.holds Try.pinned (OpenSpec.ofChange fnExactGreedyExchangedSpec)

/-- ITS FALSE NEIGHBOUR: 'it returns false'. Refute it at one input. -/
def fnExactGreedyExchangedWrong : ChangeSpec := { name := "fnExactGreedyExchanged", fn := fun _ => fun
  | [d1, d2, d3] => { results := [.lit (.bool false)], args := [d1, d2, d3] }
  | _ => none }
def FnExactGreedyExchangedWrongFalsely : Prop := fnExactGreedyExchangedRow.holds Try.pinned (OpenSpec.ofChange fnExactGreedyExchangedWrong)

/- THE SECOND FORM. 'bulk': how many values and letters a reading holds, each counted each time it is reached (what is shared counts as often as it is met; a slice's spare places count too). A statement '..UptoSaid' is the law's where the arguments, and the package variables that the reading takes, are together of bulk at most 1048576: NARROWER than '..Said'. Prove '..Said' where nothing that the law and all that it calls make is longer than what came in: it says more and counts as full. Else prove '..UptoSaid'. A law counts once. -/
mutual
def uptoBulk {H : Type} : DataW H → Nat
  | .lit (.string bytes) => bytes.length + 1
  | .lit _ => 1
  | .nil => 1
  | .ptr d => uptoBulk d + 1
  | .slice elems spare => uptoBulkAll elems + uptoBulkAll spare + 1
  | .agg parts => uptoBulkAll parts + 1
  | .iface _ d => uptoBulk d + 1
  | .map entries => uptoBulkEntries entries + 1
  | .held _ => 1
def uptoBulkAll {H : Type} : List (DataW H) → Nat
  | [] => 0
  | d :: r => uptoBulk d + uptoBulkAll r
def uptoBulkEntries {H : Type} : List (Lit × DataW H) → Nat
  | [] => 0
  | x :: r => uptoBulkEntry x + uptoBulkEntries r
def uptoBulkEntry {H : Type} : Lit × DataW H → Nat
  | (.string bytes, d) => bytes.length + uptoBulk d + 1
  | (_, d) => uptoBulk d + 1
 end
def uptoSmall : (H : Type) → List (DataW H) → Bool := fun _ ds => decide (uptoBulkAll ds ≤ 1048576)
def OpenSpec.upto (s : _root_.Go.ChangeSpec) : _root_.Go.OpenSpec := { _root_.Go.OpenSpec.ofChange s with cond := some uptoSmall }

/-- 'laws.FnExactJointsAt', WHERE WHAT IT READS IS OF BULK AT MOST 1048576: true; the input reads as it did. -/
def fnExactJointsAtUptoRow : OpenClaim := { program := "ytbmkhhhlnollmaa", sum := "03217ebbb4f708b5350998a67890e219a7744401fd99d9244642a9ccb77bbb43", func := "loop.example/g01383/laws.FnExactJointsAt", spec := "fnExactJointsAt", unfollowed := true, recurses := true, apart := false, narrowed := true }
def FnExactJointsAtUptoSaid : Prop := fnExactJointsAtUptoRow.holds Try.pinned (OpenSpec.upto fnExactJointsAtSpec)

/-- 'laws.FnExactMeetOf', WHERE WHAT IT READS IS OF BULK AT MOST 1048576: true; the input reads as it did. -/
def fnExactMeetOfUptoRow : OpenClaim := { program := "ytbmkhhhlnollmaa", sum := "03217ebbb4f708b5350998a67890e219a7744401fd99d9244642a9ccb77bbb43", func := "loop.example/g01383/laws.FnExactMeetOf", spec := "fnExactMeetOf", unfollowed := true, recurses := true, apart := false, narrowed := true }
def FnExactMeetOfUptoSaid : Prop := fnExactMeetOfUptoRow.holds Try.pinned (OpenSpec.upto fnExactMeetOfSpec)

/-- 'laws.FnExactGrowCrack', WHERE WHAT IT READS IS OF BULK AT MOST 1048576: true; the input reads as it did. -/
def fnExactGrowCrackUptoRow : OpenClaim := { program := "ytbmkhhhlnollmaa", sum := "03217ebbb4f708b5350998a67890e219a7744401fd99d9244642a9ccb77bbb43", func := "loop.example/g01383/laws.FnExactGrowCrack", spec := "fnExactGrowCrack", unfollowed := true, recurses := true, apart := false, narrowed := true }
def FnExactGrowCrackUptoSaid : Prop := fnExactGrowCrackUptoRow.holds Try.pinned (OpenSpec.upto fnExactGrowCrackSpec)

/-- 'laws.FnExactGrowAll', WHERE WHAT IT READS IS OF BULK AT MOST 1048576: true; the input reads as it did. -/
def fnExactGrowAllUptoRow : OpenClaim := { program := "ytbmkhhhlnollmaa", sum := "03217ebbb4f708b5350998a67890e219a7744401fd99d9244642a9ccb77bbb43", func := "loop.example/g01383/laws.FnExactGrowAll", spec := "fnExactGrowAll", unfollowed := true, recurses := true, apart := false, narrowed := true }
def FnExactGrowAllUptoSaid : Prop := fnExactGrowAllUptoRow.holds Try.pinned (OpenSpec.upto fnExactGrowAllSpec)

/-- 'laws.FnExactLongestCrack', WHERE WHAT IT READS IS OF BULK AT MOST 1048576: true; the input reads as it did. -/
def fnExactLongestCrackUptoRow : OpenClaim := { program := "ytbmkhhhlnollmaa", sum := "03217ebbb4f708b5350998a67890e219a7744401fd99d9244642a9ccb77bbb43", func := "loop.example/g01383/laws.FnExactLongestCrack", spec := "fnExactLongestCrack", unfollowed := true, recurses := true, apart := false, narrowed := true }
def FnExactLongestCrackUptoSaid : Prop := fnExactLongestCrackUptoRow.holds Try.pinned (OpenSpec.upto fnExactLongestCrackSpec)

/-- 'laws.FnExactTouchedBy', WHERE WHAT IT READS IS OF BULK AT MOST 1048576: true; the input reads as it did. -/
def fnExactTouchedByUptoRow : OpenClaim := { program := "ytbmkhhhlnollmaa", sum := "03217ebbb4f708b5350998a67890e219a7744401fd99d9244642a9ccb77bbb43", func := "loop.example/g01383/laws.FnExactTouchedBy", spec := "fnExactTouchedBy", unfollowed := true, recurses := true, apart := false, narrowed := true }
def FnExactTouchedByUptoSaid : Prop := fnExactTouchedByUptoRow.holds Try.pinned (OpenSpec.upto fnExactTouchedBySpec)

/-- 'laws.FnExactTripEdges', WHERE WHAT IT READS IS OF BULK AT MOST 1048576: true; the input reads as it did. -/
def fnExactTripEdgesUptoRow : OpenClaim := { program := "ytbmkhhhlnollmaa", sum := "03217ebbb4f708b5350998a67890e219a7744401fd99d9244642a9ccb77bbb43", func := "loop.example/g01383/laws.FnExactTripEdges", spec := "fnExactTripEdges", unfollowed := true, recurses := true, apart := false, narrowed := true }
def FnExactTripEdgesUptoSaid : Prop := fnExactTripEdgesUptoRow.holds Try.pinned (OpenSpec.upto fnExactTripEdgesSpec)

/-- 'laws.FnExactPairsBound', WHERE WHAT IT READS IS OF BULK AT MOST 1048576: true; the input reads as it did. -/
def fnExactPairsBoundUptoRow : OpenClaim := { program := "ytbmkhhhlnollmaa", sum := "03217ebbb4f708b5350998a67890e219a7744401fd99d9244642a9ccb77bbb43", func := "loop.example/g01383/laws.FnExactPairsBound", spec := "fnExactPairsBound", unfollowed := true, recurses := true, apart := false, narrowed := true }
def FnExactPairsBoundUptoSaid : Prop := fnExactPairsBoundUptoRow.holds Try.pinned (OpenSpec.upto fnExactPairsBoundSpec)

/-- 'laws.FnExactFirstTrip', WHERE WHAT IT READS IS OF BULK AT MOST 1048576: true; the input reads as it did. -/
def fnExactFirstTripUptoRow : OpenClaim := { program := "ytbmkhhhlnollmaa", sum := "03217ebbb4f708b5350998a67890e219a7744401fd99d9244642a9ccb77bbb43", func := "loop.example/g01383/laws.FnExactFirstTrip", spec := "fnExactFirstTrip", unfollowed := true, recurses := true, apart := false, narrowed := true }
def FnExactFirstTripUptoSaid : Prop := fnExactFirstTripUptoRow.holds Try.pinned (OpenSpec.upto fnExactFirstTripSpec)

/-- 'laws.FnExactCoversTrips', WHERE WHAT IT READS IS OF BULK AT MOST 1048576: true; the input reads as it did. -/
def fnExactCoversTripsUptoRow : OpenClaim := { program := "ytbmkhhhlnollmaa", sum := "03217ebbb4f708b5350998a67890e219a7744401fd99d9244642a9ccb77bbb43", func := "loop.example/g01383/laws.FnExactCoversTrips", spec := "fnExactCoversTrips", unfollowed := true, recurses := true, apart := false, narrowed := true }
def FnExactCoversTripsUptoSaid : Prop := fnExactCoversTripsUptoRow.holds Try.pinned (OpenSpec.upto fnExactCoversTripsSpec)

/-- 'laws.FnExactGreedyExchanged', WHERE WHAT IT READS IS OF BULK AT MOST 1048576: true; the input reads as it did. -/
def fnExactGreedyExchangedUptoRow : OpenClaim := { program := "ytbmkhhhlnollmaa", sum := "03217ebbb4f708b5350998a67890e219a7744401fd99d9244642a9ccb77bbb43", func := "loop.example/g01383/laws.FnExactGreedyExchanged", spec := "fnExactGreedyExchanged", unfollowed := true, recurses := true, apart := false, narrowed := true }
def FnExactGreedyExchangedUptoSaid : Prop := fnExactGreedyExchangedUptoRow.holds Try.pinned (OpenSpec.upto fnExactGreedyExchangedSpec)

end Rows
end Go.Proofs.Ytbmkhhhlnollmaa
