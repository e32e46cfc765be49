/-
  No cell of these rows narrows 'for every input' (looked for: loops, veiled, ifaces, maps, wideKeys, modest, calm, conditions, laid).
  DERIVED. THE GIVEN ROWS OF THIS SEAT. 5 by the template 'for every input the law returns true; each argument reads behind the call as it read before'; 0 by the template 'total and deterministic' (their statements: YtgifakacnneleaaTotals.lean).
  GIVEN WITH THE SEED: the statements are not yours to turn. If you find one false, say at which input.
  Laid BY PROGRAM, IN A SANDBOX (cutbox-rows.mjs): the forced cells as the released guide's own fill.sh prints them over the translation 997e04f4690f6012… (all of the seat's roots in one cut). By AI agents, Wed Nov 11 2026. No macro, syntax, notation, axiom, sorry.
-/
import Derived.Test.YtgifakacnneleaaChecked
import GoSem.Claim
import GoSem.ClaimJoined
import GoSem.ClaimMapViews
import Derived.JoinedTies
import Derived.KernelRfl
namespace Go.Proofs.Ytgifakacnneleaa
/- THE CELL 'sum', in the pinned program and in every row, IS THE sha256 OF THE DUMP (.gsa) THAT YtgifakacnneleaaProg.lean LOADS. Nothing in Lean hashes anything: it is a label: what it is worth is what the hold of that sum in a sandbox is worth. -/
noncomputable def Try.pinned : Pinned := { name := "ytgifakacnneleaa", sum := "997e04f4690f601232366c974c3a96a5a760ee7ddf0d78a2b759a42a19a1b8d5", checked := Try.checked }
namespace Rows
def none {H : Type} : Left H := { results := [], args := [] }

/-- 'laws.FnExactMixFor': WHATEVER THE INPUT: true; the input reads as it did. -/
def fnExactMixForSpec : ChangeSpec := { name := "fnExactMixFor", fn := fun _ => fun
  | [d1, d2] => { results := [.lit (.bool true)], args := [d1, d2] }
  | _ => none }
def fnExactMixForRow : OpenClaim := { program := "ytgifakacnneleaa", sum := "997e04f4690f601232366c974c3a96a5a760ee7ddf0d78a2b759a42a19a1b8d5", func := "loop.example/g01383/laws.FnExactMixFor", spec := "fnExactMixFor", unfollowed := true, recurses := true, apart := false }
def FnExactMixForSaid : Prop := fnExactMixForRow.holds Try.pinned (OpenSpec.ofChange fnExactMixForSpec)

/-- ITS FALSE NEIGHBOUR: 'it returns false'. Refute it at one input. -/
def fnExactMixForWrong : ChangeSpec := { name := "fnExactMixFor", fn := fun _ => fun
  | [d1, d2] => { results := [.lit (.bool false)], args := [d1, d2] }
  | _ => none }
def FnExactMixForWrongFalsely : Prop := fnExactMixForRow.holds Try.pinned (OpenSpec.ofChange fnExactMixForWrong)

/-- 'laws.FnExactMostFrom': WHATEVER THE INPUT: true; the input reads as it did. -/
def fnExactMostFromSpec : ChangeSpec := { name := "fnExactMostFrom", fn := fun _ => fun
  | [d1, d2] => { results := [.lit (.bool true)], args := [d1, d2] }
  | _ => none }
def fnExactMostFromRow : OpenClaim := { program := "ytgifakacnneleaa", sum := "997e04f4690f601232366c974c3a96a5a760ee7ddf0d78a2b759a42a19a1b8d5", func := "loop.example/g01383/laws.FnExactMostFrom", spec := "fnExactMostFrom", unfollowed := true, recurses := true, apart := false }
def FnExactMostFromSaid : Prop := fnExactMostFromRow.holds Try.pinned (OpenSpec.ofChange fnExactMostFromSpec)

/-- ITS FALSE NEIGHBOUR: 'it returns false'. Refute it at one input. -/
def fnExactMostFromWrong : ChangeSpec := { name := "fnExactMostFrom", fn := fun _ => fun
  | [d1, d2] => { results := [.lit (.bool false)], args := [d1, d2] }
  | _ => none }
def FnExactMostFromWrongFalsely : Prop := fnExactMostFromRow.holds Try.pinned (OpenSpec.ofChange fnExactMostFromWrong)

/-- 'laws.FnExactBagsFor': WHATEVER THE INPUT: true; the input reads as it did. -/
def fnExactBagsForSpec : ChangeSpec := { name := "fnExactBagsFor", fn := fun _ => fun
  | [d1, d2, d3] => { results := [.lit (.bool true)], args := [d1, d2, d3] }
  | _ => none }
def fnExactBagsForRow : OpenClaim := { program := "ytgifakacnneleaa", sum := "997e04f4690f601232366c974c3a96a5a760ee7ddf0d78a2b759a42a19a1b8d5", func := "loop.example/g01383/laws.FnExactBagsFor", spec := "fnExactBagsFor", unfollowed := true, recurses := true, apart := false }
def FnExactBagsForSaid : Prop := fnExactBagsForRow.holds Try.pinned (OpenSpec.ofChange fnExactBagsForSpec)

/-- ITS FALSE NEIGHBOUR: 'it returns false'. Refute it at one input. -/
def fnExactBagsForWrong : ChangeSpec := { name := "fnExactBagsFor", fn := fun _ => fun
  | [d1, d2, d3] => { results := [.lit (.bool false)], args := [d1, d2, d3] }
  | _ => none }
def FnExactBagsForWrongFalsely : Prop := fnExactBagsForRow.holds Try.pinned (OpenSpec.ofChange fnExactBagsForWrong)

/-- 'laws.FnExactBestMix': WHATEVER THE INPUT: true; the input reads as it did. -/
def fnExactBestMixSpec : ChangeSpec := { name := "fnExactBestMix", fn := fun _ => fun
  | [d1, d2] => { results := [.lit (.bool true)], args := [d1, d2] }
  | _ => none }
def fnExactBestMixRow : OpenClaim := { program := "ytgifakacnneleaa", sum := "997e04f4690f601232366c974c3a96a5a760ee7ddf0d78a2b759a42a19a1b8d5", func := "loop.example/g01383/laws.FnExactBestMix", spec := "fnExactBestMix", unfollowed := true, recurses := true, apart := false }
def FnExactBestMixSaid : Prop := fnExactBestMixRow.holds Try.pinned (OpenSpec.ofChange fnExactBestMixSpec)

/-- ITS FALSE NEIGHBOUR: 'it returns false'. Refute it at one input. -/
def fnExactBestMixWrong : ChangeSpec := { name := "fnExactBestMix", fn := fun _ => fun
  | [d1, d2] => { results := [.lit (.bool false)], args := [d1, d2] }
  | _ => none }
def FnExactBestMixWrongFalsely : Prop := fnExactBestMixRow.holds Try.pinned (OpenSpec.ofChange fnExactBestMixWrong)

/-- 'laws.FnMortar': WHATEVER THE INPUT: true; the input reads as it did. -/
def fnMortarSpec : ChangeSpec := { name := "fnMortar", fn := fun _ => fun
  | [d1, d2] => { results := [.lit (.bool true)], args := [d1, d2] }
  | _ => none }
def fnMortarRow : OpenClaim := { program := "ytgifakacnneleaa", sum := "997e04f4690f601232366c974c3a96a5a760ee7ddf0d78a2b759a42a19a1b8d5", func := "loop.example/g01383/laws.FnMortar", spec := "fnMortar", unfollowed := true, recurses := true, apart := false }
def FnMortarSaid : Prop := fnMortarRow.holds Try.pinned (OpenSpec.ofChange fnMortarSpec)

/-- ITS FALSE NEIGHBOUR: 'it returns false'. Refute it at one input. -/
def fnMortarWrong : ChangeSpec := { name := "fnMortar", fn := fun _ => fun
  | [d1, d2] => { results := [.lit (.bool false)], args := [d1, d2] }
  | _ => none }
def FnMortarWrongFalsely : Prop := fnMortarRow.holds Try.pinned (OpenSpec.ofChange fnMortarWrong)

/- THE SECOND FORM. 'bulk': how many values and letters a reading holds, each counted each time it is reached (what is shared counts as often as it is met; a slice's spare places count too). A statement '..UptoSaid' is the law's where the arguments, and the package variables that the reading takes, are together of bulk at most 1048576: NARROWER than '..Said'. Prove '..Said' where nothing that the law and all that it calls make is longer than what came in: it says more and counts as full. Else prove '..UptoSaid'. A law counts once. -/
mutual
def uptoBulk {H : Type} : DataW H → Nat
  | .lit (.string bytes) => bytes.length + 1
  | .lit _ => 1
  | .nil => 1
  | .ptr d => uptoBulk d + 1
  | .slice elems spare => uptoBulkAll elems + uptoBulkAll spare + 1
  | .agg parts => uptoBulkAll parts + 1
  | .iface _ d => uptoBulk d + 1
  | .map entries => uptoBulkEntries entries + 1
  | .held _ => 1
def uptoBulkAll {H : Type} : List (DataW H) → Nat
  | [] => 0
  | d :: r => uptoBulk d + uptoBulkAll r
def uptoBulkEntries {H : Type} : List (Lit × DataW H) → Nat
  | [] => 0
  | x :: r => uptoBulkEntry x + uptoBulkEntries r
def uptoBulkEntry {H : Type} : Lit × DataW H → Nat
  | (.string bytes, d) => bytes.length + uptoBulk d + 1
  | (_, d) => uptoBulk d + 1
 end
def uptoSmall : (H : Type) → List (DataW H) → Bool := fun _ ds => decide (uptoBulkAll ds ≤ 1048576)
def OpenSpec.upto (s : _root_.Go.ChangeSpec) : _root_.Go.OpenSpec := { _root_.Go.OpenSpec.ofChange s with cond := some uptoSmall }

/-- 'laws.FnExactMixFor', WHERE WHAT IT READS IS OF BULK AT MOST 1048576: true; the input reads as it did. -/
def fnExactMixForUptoRow : OpenClaim := { program := "ytgifakacnneleaa", sum := "997e04f4690f601232366c974c3a96a5a760ee7ddf0d78a2b759a42a19a1b8d5", func := "loop.example/g01383/laws.FnExactMixFor", spec := "fnExactMixFor", unfollowed := true, recurses := true, apart := false, narrowed := true }
def FnExactMixForUptoSaid : Prop := fnExactMixForUptoRow.holds Try.pinned (OpenSpec.upto fnExactMixForSpec)

/-- 'laws.FnExactMostFrom', WHERE WHAT IT READS IS OF BULK AT MOST 1048576: true; the input reads as it did. -/
def fnExactMostFromUptoRow : OpenClaim := { program := "ytgifakacnneleaa", sum := "997e04f4690f601232366c974c3a96a5a760ee7ddf0d78a2b759a42a19a1b8d5", func := "loop.example/g01383/laws.FnExactMostFrom", spec := "fnExactMostFrom", unfollowed := true, recurses := true, apart := false, narrowed := true }
def FnExactMostFromUptoSaid : Prop := fnExactMostFromUptoRow.holds Try.pinned (OpenSpec.upto fnExactMostFromSpec)

/-- 'laws.FnExactBagsFor', WHERE WHAT IT READS IS OF BULK AT MOST 1048576: true; the input reads as it did. -/
def fnExactBagsForUptoRow : OpenClaim := { program := "ytgifakacnneleaa", sum := "997e04f4690f601232366c974c3a96a5a760ee7ddf0d78a2b759a42a19a1b8d5", func := "loop.example/g01383/laws.FnExactBagsFor", spec := "fnExactBagsFor", unfollowed := true, recurses := true, apart := false, narrowed := true }
def FnExactBagsForUptoSaid : Prop := fnExactBagsForUptoRow.holds Try.pinned (OpenSpec.upto fnExactBagsForSpec)

/-- 'laws.FnExactBestMix', WHERE WHAT IT READS IS OF BULK AT MOST 1048576: true; the input reads as it did. -/
def fnExactBestMixUptoRow : OpenClaim := { program := "ytgifakacnneleaa", sum := "997e04f4690f601232366c974c3a96a5a760ee7ddf0d78a2b759a42a19a1b8d5", func := "loop.example/g01383/laws.FnExactBestMix", spec := "fnExactBestMix", unfollowed := true, recurses := true, apart := false, narrowed := true }
def FnExactBestMixUptoSaid : Prop := fnExactBestMixUptoRow.holds Try.pinned (OpenSpec.upto fnExactBestMixSpec)

/-- 'laws.FnMortar', WHERE WHAT IT READS IS OF BULK AT MOST 1048576: true; the input reads as it did. -/
def fnMortarUptoRow : OpenClaim := { program := "ytgifakacnneleaa", sum := "997e04f4690f601232366c974c3a96a5a760ee7ddf0d78a2b759a42a19a1b8d5", func := "loop.example/g01383/laws.FnMortar", spec := "fnMortar", unfollowed := true, recurses := true, apart := false, narrowed := true }
def FnMortarUptoSaid : Prop := fnMortarUptoRow.holds Try.pinned (OpenSpec.upto fnMortarSpec)

end Rows
end Go.Proofs.Ytgifakacnneleaa
