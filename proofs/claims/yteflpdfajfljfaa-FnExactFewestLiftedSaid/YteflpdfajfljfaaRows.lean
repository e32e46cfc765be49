/-
  No cell of these rows narrows 'for every input' (looked for: loops, veiled, ifaces, maps, wideKeys, modest, calm, conditions, laid).
  DERIVED. THE GIVEN ROWS OF THIS SEAT. 7 by the template 'for every input the law returns true; each argument reads behind the call as it read before'; 0 by the template 'total and deterministic' (their statements: YteflpdfajfljfaaTotals.lean).
  GIVEN WITH THE SEED: the statements are not yours to turn. If you find one false, say at which input.
  Laid BY PROGRAM, IN A SANDBOX (cutbox-rows.mjs): the forced cells as the released guide's own fill.sh prints them over the translation f5b24791616a02df… (all of the seat's roots in one cut). By AI agents, Wed Nov 11 2026. No macro, syntax, notation, axiom, sorry.
-/
import Derived.Test.YteflpdfajfljfaaChecked
import GoSem.Claim
import GoSem.ClaimJoined
import GoSem.ClaimMapViews
import Derived.JoinedTies
import Derived.KernelRfl
namespace Go.Proofs.Yteflpdfajfljfaa
/- THE CELL 'sum', in the pinned program and in every row, IS THE sha256 OF THE DUMP (.gsa) THAT YteflpdfajfljfaaProg.lean LOADS. Nothing in Lean hashes anything: it is a label: what it is worth is what the hold of that sum in a sandbox is worth. -/
noncomputable def Try.pinned : Pinned := { name := "yteflpdfajfljfaa", sum := "f5b24791616a02df9e2f2e80531c02770fd0967715680e5ff5369d54d250bbbc", checked := Try.checked }
namespace Rows
def none {H : Type} : Left H := { results := [], args := [] }

/-- 'laws.FnExactJointsAt': WHATEVER THE INPUT: true; the input reads as it did. -/
def fnExactJointsAtSpec : ChangeSpec := { name := "fnExactJointsAt", fn := fun _ => fun
  | [d1, d2] => { results := [.lit (.bool true)], args := [d1, d2] }
  | _ => none }
def fnExactJointsAtRow : OpenClaim := { program := "yteflpdfajfljfaa", sum := "f5b24791616a02df9e2f2e80531c02770fd0967715680e5ff5369d54d250bbbc", func := "loop.example/g01383/laws.FnExactJointsAt", spec := "fnExactJointsAt", unfollowed := true, recurses := true, plainKeys := false, apart := false }
def FnExactJointsAtSaid : Prop := fnExactJointsAtRow.holds Try.pinned (OpenSpec.ofChange fnExactJointsAtSpec)

/-- ITS FALSE NEIGHBOUR: 'it returns false'. Refute it at one input. -/
def fnExactJointsAtWrong : ChangeSpec := { name := "fnExactJointsAt", fn := fun _ => fun
  | [d1, d2] => { results := [.lit (.bool false)], args := [d1, d2] }
  | _ => none }
def FnExactJointsAtWrongFalsely : Prop := fnExactJointsAtRow.holds Try.pinned (OpenSpec.ofChange fnExactJointsAtWrong)

/-- 'laws.FnExactGrowCrack': WHATEVER THE INPUT: true; the input reads as it did. -/
def fnExactGrowCrackSpec : ChangeSpec := { name := "fnExactGrowCrack", fn := fun _ => fun
  | [d1, d2, d3, d4] => { results := [.lit (.bool true)], args := [d1, d2, d3, d4] }
  | _ => none }
def fnExactGrowCrackRow : OpenClaim := { program := "yteflpdfajfljfaa", sum := "f5b24791616a02df9e2f2e80531c02770fd0967715680e5ff5369d54d250bbbc", func := "loop.example/g01383/laws.FnExactGrowCrack", spec := "fnExactGrowCrack", unfollowed := true, recurses := true, plainKeys := false, apart := false }
def FnExactGrowCrackSaid : Prop := fnExactGrowCrackRow.holds Try.pinned (OpenSpec.ofChange fnExactGrowCrackSpec)

/-- ITS FALSE NEIGHBOUR: 'it returns false'. Refute it at one input. -/
def fnExactGrowCrackWrong : ChangeSpec := { name := "fnExactGrowCrack", fn := fun _ => fun
  | [d1, d2, d3, d4] => { results := [.lit (.bool false)], args := [d1, d2, d3, d4] }
  | _ => none }
def FnExactGrowCrackWrongFalsely : Prop := fnExactGrowCrackRow.holds Try.pinned (OpenSpec.ofChange fnExactGrowCrackWrong)

/-- 'laws.FnExactTouchedBy': WHATEVER THE INPUT: true; the input reads as it did. -/
def fnExactTouchedBySpec : ChangeSpec := { name := "fnExactTouchedBy", fn := fun _ => fun
  | [d1, d2] => { results := [.lit (.bool true)], args := [d1, d2] }
  | _ => none }
def fnExactTouchedByRow : OpenClaim := { program := "yteflpdfajfljfaa", sum := "f5b24791616a02df9e2f2e80531c02770fd0967715680e5ff5369d54d250bbbc", func := "loop.example/g01383/laws.FnExactTouchedBy", spec := "fnExactTouchedBy", unfollowed := true, recurses := true, plainKeys := false, apart := false }
def FnExactTouchedBySaid : Prop := fnExactTouchedByRow.holds Try.pinned (OpenSpec.ofChange fnExactTouchedBySpec)

/-- ITS FALSE NEIGHBOUR: 'it returns false'. Refute it at one input. -/
def fnExactTouchedByWrong : ChangeSpec := { name := "fnExactTouchedBy", fn := fun _ => fun
  | [d1, d2] => { results := [.lit (.bool false)], args := [d1, d2] }
  | _ => none }
def FnExactTouchedByWrongFalsely : Prop := fnExactTouchedByRow.holds Try.pinned (OpenSpec.ofChange fnExactTouchedByWrong)

/-- 'laws.FnExactFewestExchanged': WHATEVER THE INPUT: true; the input reads as it did. -/
def fnExactFewestExchangedSpec : ChangeSpec := { name := "fnExactFewestExchanged", fn := fun _ => fun
  | [d1, d2, d3] => { results := [.lit (.bool true)], args := [d1, d2, d3] }
  | _ => none }
def fnExactFewestExchangedRow : OpenClaim := { program := "yteflpdfajfljfaa", sum := "f5b24791616a02df9e2f2e80531c02770fd0967715680e5ff5369d54d250bbbc", func := "loop.example/g01383/laws.FnExactFewestExchanged", spec := "fnExactFewestExchanged", unfollowed := true, recurses := true, plainKeys := false, apart := false }
def FnExactFewestExchangedSaid : Prop := fnExactFewestExchangedRow.holds Try.pinned (OpenSpec.ofChange fnExactFewestExchangedSpec)

/-- ITS FALSE NEIGHBOUR: 'it returns false'. Refute it at one input. -/
def fnExactFewestExchangedWrong : ChangeSpec := { name := "fnExactFewestExchanged", fn := fun _ => fun
  | [d1, d2, d3] => { results := [.lit (.bool false)], args := [d1, d2, d3] }
  | _ => none }
def FnExactFewestExchangedWrongFalsely : Prop := fnExactFewestExchangedRow.holds Try.pinned (OpenSpec.ofChange fnExactFewestExchangedWrong)

/-- 'laws.FnExactFewestLifted': WHATEVER THE INPUT: true; the input reads as it did. -/
def fnExactFewestLiftedSpec : ChangeSpec := { name := "fnExactFewestLifted", fn := fun _ => fun
  | [d1, d2, d3] => { results := [.lit (.bool true)], args := [d1, d2, d3] }
  | _ => none }
def fnExactFewestLiftedRow : OpenClaim := { program := "yteflpdfajfljfaa", sum := "f5b24791616a02df9e2f2e80531c02770fd0967715680e5ff5369d54d250bbbc", func := "loop.example/g01383/laws.FnExactFewestLifted", spec := "fnExactFewestLifted", unfollowed := true, recurses := true, plainKeys := false, apart := false }
def FnExactFewestLiftedSaid : Prop := fnExactFewestLiftedRow.holds Try.pinned (OpenSpec.ofChange fnExactFewestLiftedSpec)

/-- ITS FALSE NEIGHBOUR: 'it returns false'. Refute it at one input. -/
def fnExactFewestLiftedWrong : ChangeSpec := { name := "fnExactFewestLifted", fn := fun _ => fun
  | [d1, d2, d3] => { results := [.lit (.bool false)], args := [d1, d2, d3] }
  | _ => none }
def FnExactFewestLiftedWrongFalsely : Prop := fnExactFewestLiftedRow.holds Try.pinned (OpenSpec.ofChange fnExactFewestLiftedWrong)

/-- 'laws.FnExactWayUnder': WHATEVER THE INPUT: true; the input reads as it did. -/
def fnExactWayUnderSpec : ChangeSpec := { name := "fnExactWayUnder", fn := fun _ => fun
  | [d1, d2, d3] => { results := [.lit (.bool true)], args := [d1, d2, d3] }
  | _ => none }
def fnExactWayUnderRow : OpenClaim := { program := "yteflpdfajfljfaa", sum := "f5b24791616a02df9e2f2e80531c02770fd0967715680e5ff5369d54d250bbbc", func := "loop.example/g01383/laws.FnExactWayUnder", spec := "fnExactWayUnder", unfollowed := true, recurses := true, plainKeys := false, apart := false }
def FnExactWayUnderSaid : Prop := fnExactWayUnderRow.holds Try.pinned (OpenSpec.ofChange fnExactWayUnderSpec)

/-- ITS FALSE NEIGHBOUR: 'it returns false'. Refute it at one input. -/
def fnExactWayUnderWrong : ChangeSpec := { name := "fnExactWayUnder", fn := fun _ => fun
  | [d1, d2, d3] => { results := [.lit (.bool false)], args := [d1, d2, d3] }
  | _ => none }
def FnExactWayUnderWrongFalsely : Prop := fnExactWayUnderRow.holds Try.pinned (OpenSpec.ofChange fnExactWayUnderWrong)

/-- 'laws.FnLifts': WHATEVER THE INPUT: true; the input reads as it did. -/
def fnLiftsSpec : ChangeSpec := { name := "fnLifts", fn := fun _ => fun
  | [d1, d2] => { results := [.lit (.bool true)], args := [d1, d2] }
  | _ => none }
def fnLiftsRow : OpenClaim := { program := "yteflpdfajfljfaa", sum := "f5b24791616a02df9e2f2e80531c02770fd0967715680e5ff5369d54d250bbbc", func := "loop.example/g01383/laws.FnLifts", spec := "fnLifts", unfollowed := true, recurses := true, plainKeys := false, apart := false }
def FnLiftsSaid : Prop := fnLiftsRow.holds Try.pinned (OpenSpec.ofChange fnLiftsSpec)

/-- ITS FALSE NEIGHBOUR: 'it returns false'. Refute it at one input. -/
def fnLiftsWrong : ChangeSpec := { name := "fnLifts", fn := fun _ => fun
  | [d1, d2] => { results := [.lit (.bool false)], args := [d1, d2] }
  | _ => none }
def FnLiftsWrongFalsely : Prop := fnLiftsRow.holds Try.pinned (OpenSpec.ofChange fnLiftsWrong)

/- THE SECOND FORM. 'bulk': how many values and letters a reading holds, each counted each time it is reached (what is shared counts as often as it is met; a slice's spare places count too). A statement '..UptoSaid' is the law's where the arguments, and the package variables that the reading takes, are together of bulk at most 1048576: NARROWER than '..Said'. Prove '..Said' where nothing that the law and all that it calls make is longer than what came in: it says more and counts as full. Else prove '..UptoSaid'. A law counts once. -/
mutual
def uptoBulk {H : Type} : DataW H → Nat
  | .lit (.string bytes) => bytes.length + 1
  | .lit _ => 1
  | .nil => 1
  | .ptr d => uptoBulk d + 1
  | .slice elems spare => uptoBulkAll elems + uptoBulkAll spare + 1
  | .agg parts => uptoBulkAll parts + 1
  | .iface _ d => uptoBulk d + 1
  | .map entries => uptoBulkEntries entries + 1
  | .held _ => 1
def uptoBulkAll {H : Type} : List (DataW H) → Nat
  | [] => 0
  | d :: r => uptoBulk d + uptoBulkAll r
def uptoBulkEntries {H : Type} : List (Lit × DataW H) → Nat
  | [] => 0
  | x :: r => uptoBulkEntry x + uptoBulkEntries r
def uptoBulkEntry {H : Type} : Lit × DataW H → Nat
  | (.string bytes, d) => bytes.length + uptoBulk d + 1
  | (_, d) => uptoBulk d + 1
 end
def uptoSmall : (H : Type) → List (DataW H) → Bool := fun _ ds => decide (uptoBulkAll ds ≤ 1048576)
def OpenSpec.upto (s : _root_.Go.ChangeSpec) : _root_.Go.OpenSpec := { _root_.Go.OpenSpec.ofChange s with cond := some uptoSmall }

/-- 'laws.FnExactJointsAt', WHERE WHAT IT READS IS OF BULK AT MOST 1048576: true; the input reads as it did. -/
def fnExactJointsAtUptoRow : OpenClaim := { program := "yteflpdfajfljfaa", sum := "f5b24791616a02df9e2f2e80531c02770fd0967715680e5ff5369d54d250bbbc", func := "loop.example/g01383/laws.FnExactJointsAt", spec := "fnExactJointsAt", unfollowed := true, recurses := true, plainKeys := false, apart := false, narrowed := true }
def FnExactJointsAtUptoSaid : Prop := fnExactJointsAtUptoRow.holds Try.pinned (OpenSpec.upto fnExactJointsAtSpec)

/-- 'laws.FnExactGrowCrack', WHERE WHAT IT READS IS OF BULK AT MOST 1048576: true; the input reads as it did. -/
def fnExactGrowCrackUptoRow : OpenClaim := { program := "yteflpdfajfljfaa", sum := "f5b24791616a02df9e2f2e80531c02770fd0967715680e5ff5369d54d250bbbc", func := "loop.example/g01383/laws.FnExactGrowCrack", spec := "fnExactGrowCrack", unfollowed := true, recurses := true, plainKeys := false, apart := false, narrowed := true }
def FnExactGrowCrackUptoSaid : Prop := fnExactGrowCrackUptoRow.holds Try.pinned (OpenSpec.upto fnExactGrowCrackSpec)

/-- 'laws.FnExactTouchedBy', WHERE WHAT IT READS IS OF BULK AT MOST 1048576: true; the input reads as it did. -/
def fnExactTouchedByUptoRow : OpenClaim := { program := "yteflpdfajfljfaa", sum := "f5b24791616a02df9e2f2e80531c02770fd0967715680e5ff5369d54d250bbbc", func := "loop.example/g01383/laws.FnExactTouchedBy", spec := "fnExactTouchedBy", unfollowed := true, recurses := true, plainKeys := false, apart := false, narrowed := true }
def FnExactTouchedByUptoSaid : Prop := fnExactTouchedByUptoRow.holds Try.pinned (OpenSpec.upto fnExactTouchedBySpec)

/-- 'laws.FnExactFewestExchanged', WHERE WHAT IT READS IS OF BULK AT MOST 1048576: true; the input reads as it did. -/
def fnExactFewestExchangedUptoRow : OpenClaim := { program := "yteflpdfajfljfaa", sum := "f5b24791616a02df9e2f2e80531c02770fd0967715680e5ff5369d54d250bbbc", func := "loop.example/g01383/laws.FnExactFewestExchanged", spec := "fnExactFewestExchanged", unfollowed := true, recurses := true, plainKeys := false, apart := false, narrowed := true }
def FnExactFewestExchangedUptoSaid : Prop := fnExactFewestExchangedUptoRow.holds Try.pinned (OpenSpec.upto fnExactFewestExchangedSpec)

/-- 'laws.FnExactFewestLifted', WHERE WHAT IT READS IS OF BULK AT MOST 1048576: true; the input reads as it did. -/
def fnExactFewestLiftedUptoRow : OpenClaim := { program := "yteflpdfajfljfaa", sum := "f5b24791616a02df9e2f2e80531c02770fd0967715680e5ff5369d54d250bbbc", func := "loop.example/g01383/laws.FnExactFewestLifted", spec := "fnExactFewestLifted", unfollowed := true, recurses := true, plainKeys := false, apart := false, narrowed := true }
def FnExactFewestLiftedUptoSaid : Prop := fnExactFewestLiftedUptoRow.holds Try.pinned (OpenSpec.upto fnExactFewestLiftedSpec)

/-- 'laws.FnExactWayUnder', WHERE WHAT IT READS IS OF BULK AT MOST 1048576: true; the input reads as it did. -/
def fnExactWayUnderUptoRow : OpenClaim := { program := "yteflpdfajfljfaa", sum := "f5b24791616a02df9e2f2e80531c02770fd0967715680e5ff5369d54d250bbbc", func := "loop.example/g01383/laws.FnExactWayUnder", spec := "fnExactWayUnder", unfollowed := true, recurses := true, plainKeys := false, apart := false, narrowed := true }
def FnExactWayUnderUptoSaid : Prop := fnExactWayUnderUptoRow.holds Try.pinned (OpenSpec.upto fnExactWayUnderSpec)

/-- 'laws.FnLifts', WHERE WHAT IT READS IS OF BULK AT MOST 1048576: true; the input reads as it did. -/
def fnLiftsUptoRow : OpenClaim := { program := "yteflpdfajfljfaa", sum := "f5b24791616a02df9e2f2e80531c02770fd0967715680e5ff5369d54d250bbbc", func := "loop.example/g01383/laws.FnLifts", spec := "fnLifts", unfollowed := true, recurses := true, plainKeys := false, apart := false, narrowed := true }
def FnLiftsUptoSaid : Prop := fnLiftsUptoRow.holds Try.pinned (OpenSpec.upto fnLiftsSpec)

end Rows
end Go.Proofs.Yteflpdfajfljfaa
