/-
  No cell of these rows narrows 'for every input' (looked for: loops, veiled, ifaces, maps, wideKeys, modest, calm, conditions, laid).
  DERIVED. THE GIVEN ROWS OF THIS SEAT. 6 by the template 'for every input the law returns true; each argument reads behind the call as it read before'; 0 by the template 'total and deterministic' (their statements: YtjomnenljojoiaaTotals.lean).
  GIVEN WITH THE SEED: the statements are not yours to turn. If you find one false, say at which input.
  Laid BY PROGRAM, IN A SANDBOX (cutbox-rows.mjs): the forced cells as the released guide's own fill.sh prints them over the translation e9f2f786b0493ff9… (all of the seat's roots in one cut). By AI agents, Wed Nov 11 2026. No macro, syntax, notation, axiom, sorry.
-/
import Derived.Test.YtjomnenljojoiaaChecked
import GoSem.Claim
import GoSem.ClaimJoined
import GoSem.ClaimMapViews
import Derived.JoinedTies
import Derived.KernelRfl
namespace Go.Proofs.Ytjomnenljojoiaa
/- THE CELL 'sum', in the pinned program and in every row, IS THE sha256 OF THE DUMP (.gsa) THAT YtjomnenljojoiaaProg.lean LOADS. Nothing in Lean hashes anything: it is a label: what it is worth is what the hold of that sum in a sandbox is worth. -/
noncomputable def Try.pinned : Pinned := { name := "ytjomnenljojoiaa", sum := "e9f2f786b0493ff98682f7e00a479666852dcfb65b0390d431c963331fa17990", checked := Try.checked }
namespace Rows
def none {H : Type} : Left H := { results := [], args := [] }

/-- 'laws.FnExactValidGang': WHATEVER THE INPUT: true; the input reads as it did. -/
def fnExactValidGangSpec : ChangeSpec := { name := "fnExactValidGang", fn := fun _ => fun
  | [d] => { results := [.lit (.bool true)], args := [d] }
  | _ => none }
def fnExactValidGangRow : OpenClaim := { program := "ytjomnenljojoiaa", sum := "e9f2f786b0493ff98682f7e00a479666852dcfb65b0390d431c963331fa17990", func := "loop.example/g01383/laws.FnExactValidGang", spec := "fnExactValidGang", apart := false }
def FnExactValidGangSaid : Prop := fnExactValidGangRow.holds Try.pinned (OpenSpec.ofChange fnExactValidGangSpec)

/-- ITS FALSE NEIGHBOUR: 'it returns false'. Refute it at one input. -/
def fnExactValidGangWrong : ChangeSpec := { name := "fnExactValidGang", fn := fun _ => fun
  | [d] => { results := [.lit (.bool false)], args := [d] }
  | _ => none }
def FnExactValidGangWrongFalsely : Prop := fnExactValidGangRow.holds Try.pinned (OpenSpec.ofChange fnExactValidGangWrong)

/-- 'laws.FnExactCalendarDays': WHATEVER THE INPUT: true; the input reads as it did. -/
def fnExactCalendarDaysSpec : ChangeSpec := { name := "fnExactCalendarDays", fn := fun _ => fun
  | [d1, d2] => { results := [.lit (.bool true)], args := [d1, d2] }
  | _ => none }
def fnExactCalendarDaysRow : OpenClaim := { program := "ytjomnenljojoiaa", sum := "e9f2f786b0493ff98682f7e00a479666852dcfb65b0390d431c963331fa17990", func := "loop.example/g01383/laws.FnExactCalendarDays", spec := "fnExactCalendarDays", apart := false }
def FnExactCalendarDaysSaid : Prop := fnExactCalendarDaysRow.holds Try.pinned (OpenSpec.ofChange fnExactCalendarDaysSpec)

/-- ITS FALSE NEIGHBOUR: 'it returns false'. Refute it at one input. -/
def fnExactCalendarDaysWrong : ChangeSpec := { name := "fnExactCalendarDays", fn := fun _ => fun
  | [d1, d2] => { results := [.lit (.bool false)], args := [d1, d2] }
  | _ => none }
def FnExactCalendarDaysWrongFalsely : Prop := fnExactCalendarDaysRow.holds Try.pinned (OpenSpec.ofChange fnExactCalendarDaysWrong)

/-- 'laws.FnExactValidMix': WHATEVER THE INPUT: true; the input reads as it did. -/
def fnExactValidMixSpec : ChangeSpec := { name := "fnExactValidMix", fn := fun _ => fun
  | [d] => { results := [.lit (.bool true)], args := [d] }
  | _ => none }
def fnExactValidMixRow : OpenClaim := { program := "ytjomnenljojoiaa", sum := "e9f2f786b0493ff98682f7e00a479666852dcfb65b0390d431c963331fa17990", func := "loop.example/g01383/laws.FnExactValidMix", spec := "fnExactValidMix", unfollowed := true, recurses := true, apart := false }
def FnExactValidMixSaid : Prop := fnExactValidMixRow.holds Try.pinned (OpenSpec.ofChange fnExactValidMixSpec)

/-- ITS FALSE NEIGHBOUR: 'it returns false'. Refute it at one input. -/
def fnExactValidMixWrong : ChangeSpec := { name := "fnExactValidMix", fn := fun _ => fun
  | [d] => { results := [.lit (.bool false)], args := [d] }
  | _ => none }
def FnExactValidMixWrongFalsely : Prop := fnExactValidMixRow.holds Try.pinned (OpenSpec.ofChange fnExactValidMixWrong)

/-- 'laws.FnExactDaysFor': WHATEVER THE INPUT: true; the input reads as it did. -/
def fnExactDaysForSpec : ChangeSpec := { name := "fnExactDaysFor", fn := fun _ => fun
  | [d1, d2] => { results := [.lit (.bool true)], args := [d1, d2] }
  | _ => none }
def fnExactDaysForRow : OpenClaim := { program := "ytjomnenljojoiaa", sum := "e9f2f786b0493ff98682f7e00a479666852dcfb65b0390d431c963331fa17990", func := "loop.example/g01383/laws.FnExactDaysFor", spec := "fnExactDaysFor", apart := false }
def FnExactDaysForSaid : Prop := fnExactDaysForRow.holds Try.pinned (OpenSpec.ofChange fnExactDaysForSpec)

/-- ITS FALSE NEIGHBOUR: 'it returns false'. Refute it at one input. -/
def fnExactDaysForWrong : ChangeSpec := { name := "fnExactDaysFor", fn := fun _ => fun
  | [d1, d2] => { results := [.lit (.bool false)], args := [d1, d2] }
  | _ => none }
def FnExactDaysForWrongFalsely : Prop := fnExactDaysForRow.holds Try.pinned (OpenSpec.ofChange fnExactDaysForWrong)

/-- 'laws.FnExactMayLay': WHATEVER THE INPUT: true; the input reads as it did. -/
def fnExactMayLaySpec : ChangeSpec := { name := "fnExactMayLay", fn := fun _ => fun
  | [d1, d2] => { results := [.lit (.bool true)], args := [d1, d2] }
  | _ => none }
def fnExactMayLayRow : OpenClaim := { program := "ytjomnenljojoiaa", sum := "e9f2f786b0493ff98682f7e00a479666852dcfb65b0390d431c963331fa17990", func := "loop.example/g01383/laws.FnExactMayLay", spec := "fnExactMayLay", unfollowed := true, recurses := true, apart := false }
def FnExactMayLaySaid : Prop := fnExactMayLayRow.holds Try.pinned (OpenSpec.ofChange fnExactMayLaySpec)

/-- ITS FALSE NEIGHBOUR: 'it returns false'. Refute it at one input. -/
def fnExactMayLayWrong : ChangeSpec := { name := "fnExactMayLay", fn := fun _ => fun
  | [d1, d2] => { results := [.lit (.bool false)], args := [d1, d2] }
  | _ => none }
def FnExactMayLayWrongFalsely : Prop := fnExactMayLayRow.holds Try.pinned (OpenSpec.ofChange fnExactMayLayWrong)

/-- 'laws.FnExactValidRows': WHATEVER THE INPUT: true; the input reads as it did. -/
def fnExactValidRowsSpec : ChangeSpec := { name := "fnExactValidRows", fn := fun _ => fun
  | [d] => { results := [.lit (.bool true)], args := [d] }
  | _ => none }
def fnExactValidRowsRow : OpenClaim := { program := "ytjomnenljojoiaa", sum := "e9f2f786b0493ff98682f7e00a479666852dcfb65b0390d431c963331fa17990", func := "loop.example/g01383/laws.FnExactValidRows", spec := "fnExactValidRows", unfollowed := true, recurses := true, apart := false }
def FnExactValidRowsSaid : Prop := fnExactValidRowsRow.holds Try.pinned (OpenSpec.ofChange fnExactValidRowsSpec)

/-- ITS FALSE NEIGHBOUR: 'it returns false'. Refute it at one input. -/
def fnExactValidRowsWrong : ChangeSpec := { name := "fnExactValidRows", fn := fun _ => fun
  | [d] => { results := [.lit (.bool false)], args := [d] }
  | _ => none }
def FnExactValidRowsWrongFalsely : Prop := fnExactValidRowsRow.holds Try.pinned (OpenSpec.ofChange fnExactValidRowsWrong)

/- THE SECOND FORM. 'bulk': how many values and letters a reading holds, each counted each time it is reached (what is shared counts as often as it is met; a slice's spare places count too). A statement '..UptoSaid' is the law's where the arguments, and the package variables that the reading takes, are together of bulk at most 1048576: NARROWER than '..Said'. Prove '..Said' where nothing that the law and all that it calls make is longer than what came in: it says more and counts as full. Else prove '..UptoSaid'. A law counts once. -/
mutual
def uptoBulk {H : Type} : DataW H → Nat
  | .lit (.string bytes) => bytes.length + 1
  | .lit _ => 1
  | .nil => 1
  | .ptr d => uptoBulk d + 1
  | .slice elems spare => uptoBulkAll elems + uptoBulkAll spare + 1
  | .agg parts => uptoBulkAll parts + 1
  | .iface _ d => uptoBulk d + 1
  | .map entries => uptoBulkEntries entries + 1
  | .held _ => 1
def uptoBulkAll {H : Type} : List (DataW H) → Nat
  | [] => 0
  | d :: r => uptoBulk d + uptoBulkAll r
def uptoBulkEntries {H : Type} : List (Lit × DataW H) → Nat
  | [] => 0
  | x :: r => uptoBulkEntry x + uptoBulkEntries r
def uptoBulkEntry {H : Type} : Lit × DataW H → Nat
  | (.string bytes, d) => bytes.length + uptoBulk d + 1
  | (_, d) => uptoBulk d + 1
 end
def uptoSmall : (H : Type) → List (DataW H) → Bool := fun _ ds => decide (uptoBulkAll ds ≤ 1048576)
def OpenSpec.upto (s : _root_.Go.ChangeSpec) : _root_.Go.OpenSpec := { _root_.Go.OpenSpec.ofChange s with cond := some uptoSmall }

/-- 'laws.FnExactValidGang', WHERE WHAT IT READS IS OF BULK AT MOST 1048576: true; the input reads as it did. -/
def fnExactValidGangUptoRow : OpenClaim := { program := "ytjomnenljojoiaa", sum := "e9f2f786b0493ff98682f7e00a479666852dcfb65b0390d431c963331fa17990", func := "loop.example/g01383/laws.FnExactValidGang", spec := "fnExactValidGang", apart := false, narrowed := true }
def FnExactValidGangUptoSaid : Prop := fnExactValidGangUptoRow.holds Try.pinned (OpenSpec.upto fnExactValidGangSpec)

/-- 'laws.FnExactCalendarDays', WHERE WHAT IT READS IS OF BULK AT MOST 1048576: true; the input reads as it did. -/
def fnExactCalendarDaysUptoRow : OpenClaim := { program := "ytjomnenljojoiaa", sum := "e9f2f786b0493ff98682f7e00a479666852dcfb65b0390d431c963331fa17990", func := "loop.example/g01383/laws.FnExactCalendarDays", spec := "fnExactCalendarDays", apart := false, narrowed := true }
def FnExactCalendarDaysUptoSaid : Prop := fnExactCalendarDaysUptoRow.holds Try.pinned (OpenSpec.upto fnExactCalendarDaysSpec)

/-- 'laws.FnExactValidMix', WHERE WHAT IT READS IS OF BULK AT MOST 1048576: true; the input reads as it did. -/
def fnExactValidMixUptoRow : OpenClaim := { program := "ytjomnenljojoiaa", sum := "e9f2f786b0493ff98682f7e00a479666852dcfb65b0390d431c963331fa17990", func := "loop.example/g01383/laws.FnExactValidMix", spec := "fnExactValidMix", unfollowed := true, recurses := true, apart := false, narrowed := true }
def FnExactValidMixUptoSaid : Prop := fnExactValidMixUptoRow.holds Try.pinned (OpenSpec.upto fnExactValidMixSpec)

/-- 'laws.FnExactDaysFor', WHERE WHAT IT READS IS OF BULK AT MOST 1048576: true; the input reads as it did. -/
def fnExactDaysForUptoRow : OpenClaim := { program := "ytjomnenljojoiaa", sum := "e9f2f786b0493ff98682f7e00a479666852dcfb65b0390d431c963331fa17990", func := "loop.example/g01383/laws.FnExactDaysFor", spec := "fnExactDaysFor", apart := false, narrowed := true }
def FnExactDaysForUptoSaid : Prop := fnExactDaysForUptoRow.holds Try.pinned (OpenSpec.upto fnExactDaysForSpec)

/-- 'laws.FnExactMayLay', WHERE WHAT IT READS IS OF BULK AT MOST 1048576: true; the input reads as it did. -/
def fnExactMayLayUptoRow : OpenClaim := { program := "ytjomnenljojoiaa", sum := "e9f2f786b0493ff98682f7e00a479666852dcfb65b0390d431c963331fa17990", func := "loop.example/g01383/laws.FnExactMayLay", spec := "fnExactMayLay", unfollowed := true, recurses := true, apart := false, narrowed := true }
def FnExactMayLayUptoSaid : Prop := fnExactMayLayUptoRow.holds Try.pinned (OpenSpec.upto fnExactMayLaySpec)

/-- 'laws.FnExactValidRows', WHERE WHAT IT READS IS OF BULK AT MOST 1048576: true; the input reads as it did. -/
def fnExactValidRowsUptoRow : OpenClaim := { program := "ytjomnenljojoiaa", sum := "e9f2f786b0493ff98682f7e00a479666852dcfb65b0390d431c963331fa17990", func := "loop.example/g01383/laws.FnExactValidRows", spec := "fnExactValidRows", unfollowed := true, recurses := true, apart := false, narrowed := true }
def FnExactValidRowsUptoSaid : Prop := fnExactValidRowsUptoRow.holds Try.pinned (OpenSpec.upto fnExactValidRowsSpec)

end Rows
end Go.Proofs.Ytjomnenljojoiaa
