/-
  No cell of these rows narrows 'for every input' (looked for: loops, veiled, ifaces, maps, wideKeys, modest, calm, conditions, laid).
  DERIVED. THE GIVEN ROWS OF THIS SEAT. 5 by the template 'for every input the law returns true; each argument reads behind the call as it read before'; 0 by the template 'total and deterministic' (their statements: YtkkkgpeilpfddaaTotals.lean).
  GIVEN WITH THE SEED: the statements are not yours to turn. If you find one false, say at which input.
  Laid BY PROGRAM, IN A SANDBOX (cutbox-rows.mjs): the forced cells as the released guide's own fill.sh prints them over the translation 3601ba3f7044a103… (all of the seat's roots in one cut). By AI agents, Wed Nov 11 2026. No macro, syntax, notation, axiom, sorry.
-/
import Derived.Test.YtkkkgpeilpfddaaChecked
import GoSem.Claim
import GoSem.ClaimJoined
import GoSem.ClaimMapViews
import Derived.JoinedTies
import Derived.KernelRfl
namespace Go.Proofs.Ytkkkgpeilpfddaa
/- THE CELL 'sum', in the pinned program and in every row, IS THE sha256 OF THE DUMP (.gsa) THAT YtkkkgpeilpfddaaProg.lean LOADS. Nothing in Lean hashes anything: it is a label: what it is worth is what the hold of that sum in a sandbox is worth. -/
noncomputable def Try.pinned : Pinned := { name := "ytkkkgpeilpfddaa", sum := "3601ba3f7044a10379566848738a6acf0dd52ccf369555c415c5916c366871c7", checked := Try.checked }
namespace Rows
def none {H : Type} : Left H := { results := [], args := [] }

/-- 'laws.FnExactPlanCost': WHATEVER THE INPUT: true; the input reads as it did. -/
def fnExactPlanCostSpec : ChangeSpec := { name := "fnExactPlanCost", fn := fun _ => fun
  | [d1, d2, d3] => { results := [.lit (.bool true)], args := [d1, d2, d3] }
  | _ => none }
def fnExactPlanCostRow : OpenClaim := { program := "ytkkkgpeilpfddaa", sum := "3601ba3f7044a10379566848738a6acf0dd52ccf369555c415c5916c366871c7", func := "loop.example/g01383/laws.FnExactPlanCost", spec := "fnExactPlanCost", unfollowed := true, recurses := true, apart := false }
def FnExactPlanCostSaid : Prop := fnExactPlanCostRow.holds Try.pinned (OpenSpec.ofChange fnExactPlanCostSpec)

/-- ITS FALSE NEIGHBOUR: 'it returns false'. Refute it at one input. -/
def fnExactPlanCostWrong : ChangeSpec := { name := "fnExactPlanCost", fn := fun _ => fun
  | [d1, d2, d3] => { results := [.lit (.bool false)], args := [d1, d2, d3] }
  | _ => none }
def FnExactPlanCostWrongFalsely : Prop := fnExactPlanCostRow.holds Try.pinned (OpenSpec.ofChange fnExactPlanCostWrong)

/-- 'laws.FnExactPlanDays': WHATEVER THE INPUT: true; the input reads as it did. -/
def fnExactPlanDaysSpec : ChangeSpec := { name := "fnExactPlanDays", fn := fun _ => fun
  | [d1, d2, d3] => { results := [.lit (.bool true)], args := [d1, d2, d3] }
  | _ => none }
def fnExactPlanDaysRow : OpenClaim := { program := "ytkkkgpeilpfddaa", sum := "3601ba3f7044a10379566848738a6acf0dd52ccf369555c415c5916c366871c7", func := "loop.example/g01383/laws.FnExactPlanDays", spec := "fnExactPlanDays", unfollowed := true, recurses := true, apart := false }
def FnExactPlanDaysSaid : Prop := fnExactPlanDaysRow.holds Try.pinned (OpenSpec.ofChange fnExactPlanDaysSpec)

/-- ITS FALSE NEIGHBOUR: 'it returns false'. Refute it at one input. -/
def fnExactPlanDaysWrong : ChangeSpec := { name := "fnExactPlanDays", fn := fun _ => fun
  | [d1, d2, d3] => { results := [.lit (.bool false)], args := [d1, d2, d3] }
  | _ => none }
def FnExactPlanDaysWrongFalsely : Prop := fnExactPlanDaysRow.holds Try.pinned (OpenSpec.ofChange fnExactPlanDaysWrong)

/-- 'laws.FnExactFastestPlan': WHATEVER THE INPUT: true; the input reads as it did. -/
def fnExactFastestPlanSpec : ChangeSpec := { name := "fnExactFastestPlan", fn := fun _ => fun
  | [d1, d2] => { results := [.lit (.bool true)], args := [d1, d2] }
  | _ => none }
def fnExactFastestPlanRow : OpenClaim := { program := "ytkkkgpeilpfddaa", sum := "3601ba3f7044a10379566848738a6acf0dd52ccf369555c415c5916c366871c7", func := "loop.example/g01383/laws.FnExactFastestPlan", spec := "fnExactFastestPlan", unfollowed := true, recurses := true, apart := false }
def FnExactFastestPlanSaid : Prop := fnExactFastestPlanRow.holds Try.pinned (OpenSpec.ofChange fnExactFastestPlanSpec)

/-- ITS FALSE NEIGHBOUR: 'it returns false'. Refute it at one input. -/
def fnExactFastestPlanWrong : ChangeSpec := { name := "fnExactFastestPlan", fn := fun _ => fun
  | [d1, d2] => { results := [.lit (.bool false)], args := [d1, d2] }
  | _ => none }
def FnExactFastestPlanWrongFalsely : Prop := fnExactFastestPlanRow.holds Try.pinned (OpenSpec.ofChange fnExactFastestPlanWrong)

/-- 'laws.FnExactCheapestPlan': WHATEVER THE INPUT: true; the input reads as it did. -/
def fnExactCheapestPlanSpec : ChangeSpec := { name := "fnExactCheapestPlan", fn := fun _ => fun
  | [d1, d2, d3] => { results := [.lit (.bool true)], args := [d1, d2, d3] }
  | _ => none }
def fnExactCheapestPlanRow : OpenClaim := { program := "ytkkkgpeilpfddaa", sum := "3601ba3f7044a10379566848738a6acf0dd52ccf369555c415c5916c366871c7", func := "loop.example/g01383/laws.FnExactCheapestPlan", spec := "fnExactCheapestPlan", unfollowed := true, recurses := true, apart := false }
def FnExactCheapestPlanSaid : Prop := fnExactCheapestPlanRow.holds Try.pinned (OpenSpec.ofChange fnExactCheapestPlanSpec)

/-- ITS FALSE NEIGHBOUR: 'it returns false'. Refute it at one input. -/
def fnExactCheapestPlanWrong : ChangeSpec := { name := "fnExactCheapestPlan", fn := fun _ => fun
  | [d1, d2, d3] => { results := [.lit (.bool false)], args := [d1, d2, d3] }
  | _ => none }
def FnExactCheapestPlanWrongFalsely : Prop := fnExactCheapestPlanRow.holds Try.pinned (OpenSpec.ofChange fnExactCheapestPlanWrong)

/-- 'laws.FnMortar': WHATEVER THE INPUT: true; the input reads as it did. -/
def fnMortarSpec : ChangeSpec := { name := "fnMortar", fn := fun _ => fun
  | [d1, d2] => { results := [.lit (.bool true)], args := [d1, d2] }
  | _ => none }
def fnMortarRow : OpenClaim := { program := "ytkkkgpeilpfddaa", sum := "3601ba3f7044a10379566848738a6acf0dd52ccf369555c415c5916c366871c7", func := "loop.example/g01383/laws.FnMortar", spec := "fnMortar", unfollowed := true, recurses := true, apart := false }
def FnMortarSaid : Prop := fnMortarRow.holds Try.pinned (OpenSpec.ofChange fnMortarSpec)

/-- ITS FALSE NEIGHBOUR: 'it returns false'. Refute it at one input. -/
def fnMortarWrong : ChangeSpec := { name := "fnMortar", fn := fun _ => fun
  | [d1, d2] => { results := [.lit (.bool false)], args := [d1, d2] }
  | _ => none }
def FnMortarWrongFalsely : Prop := fnMortarRow.holds Try.pinned (OpenSpec.ofChange fnMortarWrong)

/- THE SECOND FORM. 'bulk': how many values and letters a reading holds, each counted each time it is reached (what is shared counts as often as it is met; a slice's spare places count too). A statement '..UptoSaid' is the law's where the arguments, and the package variables that the reading takes, are together of bulk at most 1048576: NARROWER than '..Said'. Prove '..Said' where nothing that the law and all that it calls make is longer than what came in: it says more and counts as full. Else prove '..UptoSaid'. A law counts once. -/
mutual
def uptoBulk {H : Type} : DataW H → Nat
  | .lit (.string bytes) => bytes.length + 1
  | .lit _ => 1
  | .nil => 1
  | .ptr d => uptoBulk d + 1
  | .slice elems spare => uptoBulkAll elems + uptoBulkAll spare + 1
  | .agg parts => uptoBulkAll parts + 1
  | .iface _ d => uptoBulk d + 1
  | .map entries => uptoBulkEntries entries + 1
  | .held _ => 1
def uptoBulkAll {H : Type} : List (DataW H) → Nat
  | [] => 0
  | d :: r => uptoBulk d + uptoBulkAll r
def uptoBulkEntries {H : Type} : List (Lit × DataW H) → Nat
  | [] => 0
  | x :: r => uptoBulkEntry x + uptoBulkEntries r
def uptoBulkEntry {H : Type} : Lit × DataW H → Nat
  | (.string bytes, d) => bytes.length + uptoBulk d + 1
  | (_, d) => uptoBulk d + 1
 end
def uptoSmall : (H : Type) → List (DataW H) → Bool := fun _ ds => decide (uptoBulkAll ds ≤ 1048576)
def OpenSpec.upto (s : _root_.Go.ChangeSpec) : _root_.Go.OpenSpec := { _root_.Go.OpenSpec.ofChange s with cond := some uptoSmall }

/-- 'laws.FnExactPlanCost', WHERE WHAT IT READS IS OF BULK AT MOST 1048576: true; the input reads as it did. -/
def fnExactPlanCostUptoRow : OpenClaim := { program := "ytkkkgpeilpfddaa", sum := "3601ba3f7044a10379566848738a6acf0dd52ccf369555c415c5916c366871c7", func := "loop.example/g01383/laws.FnExactPlanCost", spec := "fnExactPlanCost", unfollowed := true, recurses := true, apart := false, narrowed := true }
def FnExactPlanCostUptoSaid : Prop := fnExactPlanCostUptoRow.holds Try.pinned (OpenSpec.upto fnExactPlanCostSpec)

/-- 'laws.FnExactPlanDays', WHERE WHAT IT READS IS OF BULK AT MOST 1048576: true; the input reads as it did. -/
def fnExactPlanDaysUptoRow : OpenClaim := { program := "ytkkkgpeilpfddaa", sum := "3601ba3f7044a10379566848738a6acf0dd52ccf369555c415c5916c366871c7", func := "loop.example/g01383/laws.FnExactPlanDays", spec := "fnExactPlanDays", unfollowed := true, recurses := true, apart := false, narrowed := true }
def FnExactPlanDaysUptoSaid : Prop := fnExactPlanDaysUptoRow.holds Try.pinned (OpenSpec.upto fnExactPlanDaysSpec)

/-- 'laws.FnExactFastestPlan', WHERE WHAT IT READS IS OF BULK AT MOST 1048576: true; the input reads as it did. -/
def fnExactFastestPlanUptoRow : OpenClaim := { program := "ytkkkgpeilpfddaa", sum := "3601ba3f7044a10379566848738a6acf0dd52ccf369555c415c5916c366871c7", func := "loop.example/g01383/laws.FnExactFastestPlan", spec := "fnExactFastestPlan", unfollowed := true, recurses := true, apart := false, narrowed := true }
def FnExactFastestPlanUptoSaid : Prop := fnExactFastestPlanUptoRow.holds Try.pinned (OpenSpec.upto fnExactFastestPlanSpec)

/-- 'laws.FnExactCheapestPlan', WHERE WHAT IT READS IS OF BULK AT MOST 1048576: true; the input reads as it did. -/
def fnExactCheapestPlanUptoRow : OpenClaim := { program := "ytkkkgpeilpfddaa", sum := "3601ba3f7044a10379566848738a6acf0dd52ccf369555c415c5916c366871c7", func := "loop.example/g01383/laws.FnExactCheapestPlan", spec := "fnExactCheapestPlan", unfollowed := true, recurses := true, apart := false, narrowed := true }
def FnExactCheapestPlanUptoSaid : Prop := fnExactCheapestPlanUptoRow.holds Try.pinned (OpenSpec.upto fnExactCheapestPlanSpec)

/-- 'laws.FnMortar', WHERE WHAT IT READS IS OF BULK AT MOST 1048576: true; the input reads as it did. -/
def fnMortarUptoRow : OpenClaim := { program := "ytkkkgpeilpfddaa", sum := "3601ba3f7044a10379566848738a6acf0dd52ccf369555c415c5916c366871c7", func := "loop.example/g01383/laws.FnMortar", spec := "fnMortar", unfollowed := true, recurses := true, apart := false, narrowed := true }
def FnMortarUptoSaid : Prop := fnMortarUptoRow.holds Try.pinned (OpenSpec.upto fnMortarSpec)

end Rows
end Go.Proofs.Ytkkkgpeilpfddaa
