/-
  No cell of these rows narrows 'for every input' (looked for: loops, veiled, ifaces, maps, wideKeys, modest, calm, conditions, laid).
  DERIVED. THE GIVEN ROWS OF THIS SEAT. 6 by the template 'for every input the law returns true; each argument reads behind the call as it read before'; 0 by the template 'total and deterministic' (their statements: YtipcmakidifelaaTotals.lean).
  GIVEN WITH THE SEED: the statements are not yours to turn. If you find one false, say at which input.
  Laid BY PROGRAM, IN A SANDBOX (cutbox-rows.mjs): the forced cells as the released guide's own fill.sh prints them over the translation 22cce947164c6df4… (all of the seat's roots in one cut). By AI agents, Wed Nov 11 2026. No macro, syntax, notation, axiom, sorry.
-/
import Derived.Test.YtipcmakidifelaaChecked
import GoSem.Claim
import GoSem.ClaimJoined
import GoSem.ClaimMapViews
import Derived.JoinedTies
import Derived.KernelRfl
namespace Go.Proofs.Ytipcmakidifelaa
/- THE CELL 'sum', in the pinned program and in every row, IS THE sha256 OF THE DUMP (.gsa) THAT YtipcmakidifelaaProg.lean LOADS. Nothing in Lean hashes anything: it is a label: what it is worth is what the hold of that sum in a sandbox is worth. -/
noncomputable def Try.pinned : Pinned := { name := "ytipcmakidifelaa", sum := "22cce947164c6df4dec5262bd4e2352800040d18bf3aba947232f1c7311092f0", checked := Try.checked }
namespace Rows
def none {H : Type} : Left H := { results := [], args := [] }

/-- 'laws.FnExactRunFrom': WHATEVER THE INPUT: true; the input reads as it did. -/
def fnExactRunFromSpec : ChangeSpec := { name := "fnExactRunFrom", fn := fun _ => fun
  | [d1, d2] => { results := [.lit (.bool true)], args := [d1, d2] }
  | _ => none }
def fnExactRunFromRow : OpenClaim := { program := "ytipcmakidifelaa", sum := "22cce947164c6df4dec5262bd4e2352800040d18bf3aba947232f1c7311092f0", func := "loop.example/g01383/laws.FnExactRunFrom", spec := "fnExactRunFrom", unfollowed := true, recurses := true, plainKeys := false, apart := false }
def FnExactRunFromSaid : Prop := fnExactRunFromRow.holds Try.pinned (OpenSpec.ofChange fnExactRunFromSpec)

/-- ITS FALSE NEIGHBOUR: 'it returns false'. Refute it at one input. -/
def fnExactRunFromWrong : ChangeSpec := { name := "fnExactRunFrom", fn := fun _ => fun
  | [d1, d2] => { results := [.lit (.bool false)], args := [d1, d2] }
  | _ => none }
def FnExactRunFromWrongFalsely : Prop := fnExactRunFromRow.holds Try.pinned (OpenSpec.ofChange fnExactRunFromWrong)

/-- 'laws.FnExactBasinOf': WHATEVER THE INPUT: true; the input reads as it did. -/
def fnExactBasinOfSpec : ChangeSpec := { name := "fnExactBasinOf", fn := fun _ => fun
  | [d1, d2] => { results := [.lit (.bool true)], args := [d1, d2] }
  | _ => none }
def fnExactBasinOfRow : OpenClaim := { program := "ytipcmakidifelaa", sum := "22cce947164c6df4dec5262bd4e2352800040d18bf3aba947232f1c7311092f0", func := "loop.example/g01383/laws.FnExactBasinOf", spec := "fnExactBasinOf", unfollowed := true, recurses := true, plainKeys := false, apart := false }
def FnExactBasinOfSaid : Prop := fnExactBasinOfRow.holds Try.pinned (OpenSpec.ofChange fnExactBasinOfSpec)

/-- ITS FALSE NEIGHBOUR: 'it returns false'. Refute it at one input. -/
def fnExactBasinOfWrong : ChangeSpec := { name := "fnExactBasinOf", fn := fun _ => fun
  | [d1, d2] => { results := [.lit (.bool false)], args := [d1, d2] }
  | _ => none }
def FnExactBasinOfWrongFalsely : Prop := fnExactBasinOfRow.holds Try.pinned (OpenSpec.ofChange fnExactBasinOfWrong)

/-- 'laws.FnExactFillLevels': WHATEVER THE INPUT: true; the input reads as it did. -/
def fnExactFillLevelsSpec : ChangeSpec := { name := "fnExactFillLevels", fn := fun _ => fun
  | [d] => { results := [.lit (.bool true)], args := [d] }
  | _ => none }
def fnExactFillLevelsRow : OpenClaim := { program := "ytipcmakidifelaa", sum := "22cce947164c6df4dec5262bd4e2352800040d18bf3aba947232f1c7311092f0", func := "loop.example/g01383/laws.FnExactFillLevels", spec := "fnExactFillLevels", unfollowed := true, recurses := true, plainKeys := false, apart := false }
def FnExactFillLevelsSaid : Prop := fnExactFillLevelsRow.holds Try.pinned (OpenSpec.ofChange fnExactFillLevelsSpec)

/-- ITS FALSE NEIGHBOUR: 'it returns false'. Refute it at one input. -/
def fnExactFillLevelsWrong : ChangeSpec := { name := "fnExactFillLevels", fn := fun _ => fun
  | [d] => { results := [.lit (.bool false)], args := [d] }
  | _ => none }
def FnExactFillLevelsWrongFalsely : Prop := fnExactFillLevelsRow.holds Try.pinned (OpenSpec.ofChange fnExactFillLevelsWrong)

/-- 'laws.FnExactPoolSum': WHATEVER THE INPUT: true; the input reads as it did. -/
def fnExactPoolSumSpec : ChangeSpec := { name := "fnExactPoolSum", fn := fun _ => fun
  | [d] => { results := [.lit (.bool true)], args := [d] }
  | _ => none }
def fnExactPoolSumRow : OpenClaim := { program := "ytipcmakidifelaa", sum := "22cce947164c6df4dec5262bd4e2352800040d18bf3aba947232f1c7311092f0", func := "loop.example/g01383/laws.FnExactPoolSum", spec := "fnExactPoolSum", unfollowed := true, recurses := true, plainKeys := false, apart := false }
def FnExactPoolSumSaid : Prop := fnExactPoolSumRow.holds Try.pinned (OpenSpec.ofChange fnExactPoolSumSpec)

/-- ITS FALSE NEIGHBOUR: 'it returns false'. Refute it at one input. -/
def fnExactPoolSumWrong : ChangeSpec := { name := "fnExactPoolSum", fn := fun _ => fun
  | [d] => { results := [.lit (.bool false)], args := [d] }
  | _ => none }
def FnExactPoolSumWrongFalsely : Prop := fnExactPoolSumRow.holds Try.pinned (OpenSpec.ofChange fnExactPoolSumWrong)

/-- 'laws.FnExactDrySquare': WHATEVER THE INPUT: true; the input reads as it did. -/
def fnExactDrySquareSpec : ChangeSpec := { name := "fnExactDrySquare", fn := fun _ => fun
  | [d] => { results := [.lit (.bool true)], args := [d] }
  | _ => none }
def fnExactDrySquareRow : OpenClaim := { program := "ytipcmakidifelaa", sum := "22cce947164c6df4dec5262bd4e2352800040d18bf3aba947232f1c7311092f0", func := "loop.example/g01383/laws.FnExactDrySquare", spec := "fnExactDrySquare", unfollowed := true, recurses := true, plainKeys := false, apart := false }
def FnExactDrySquareSaid : Prop := fnExactDrySquareRow.holds Try.pinned (OpenSpec.ofChange fnExactDrySquareSpec)

/-- ITS FALSE NEIGHBOUR: 'it returns false'. Refute it at one input. -/
def fnExactDrySquareWrong : ChangeSpec := { name := "fnExactDrySquare", fn := fun _ => fun
  | [d] => { results := [.lit (.bool false)], args := [d] }
  | _ => none }
def FnExactDrySquareWrongFalsely : Prop := fnExactDrySquareRow.holds Try.pinned (OpenSpec.ofChange fnExactDrySquareWrong)

/-- 'laws.FnExactMirrorGround': WHATEVER THE INPUT: true; the input reads as it did. -/
def fnExactMirrorGroundSpec : ChangeSpec := { name := "fnExactMirrorGround", fn := fun _ => fun
  | [d] => { results := [.lit (.bool true)], args := [d] }
  | _ => none }
def fnExactMirrorGroundRow : OpenClaim := { program := "ytipcmakidifelaa", sum := "22cce947164c6df4dec5262bd4e2352800040d18bf3aba947232f1c7311092f0", func := "loop.example/g01383/laws.FnExactMirrorGround", spec := "fnExactMirrorGround", unfollowed := true, recurses := true, plainKeys := false, apart := false }
def FnExactMirrorGroundSaid : Prop := fnExactMirrorGroundRow.holds Try.pinned (OpenSpec.ofChange fnExactMirrorGroundSpec)

/-- ITS FALSE NEIGHBOUR: 'it returns false'. Refute it at one input. -/
def fnExactMirrorGroundWrong : ChangeSpec := { name := "fnExactMirrorGround", fn := fun _ => fun
  | [d] => { results := [.lit (.bool false)], args := [d] }
  | _ => none }
def FnExactMirrorGroundWrongFalsely : Prop := fnExactMirrorGroundRow.holds Try.pinned (OpenSpec.ofChange fnExactMirrorGroundWrong)

/- THE SECOND FORM. 'bulk': how many values and letters a reading holds, each counted each time it is reached (what is shared counts as often as it is met; a slice's spare places count too). A statement '..UptoSaid' is the law's where the arguments, and the package variables that the reading takes, are together of bulk at most 1048576: NARROWER than '..Said'. Prove '..Said' where nothing that the law and all that it calls make is longer than what came in: it says more and counts as full. Else prove '..UptoSaid'. A law counts once. -/
mutual
def uptoBulk {H : Type} : DataW H → Nat
  | .lit (.string bytes) => bytes.length + 1
  | .lit _ => 1
  | .nil => 1
  | .ptr d => uptoBulk d + 1
  | .slice elems spare => uptoBulkAll elems + uptoBulkAll spare + 1
  | .agg parts => uptoBulkAll parts + 1
  | .iface _ d => uptoBulk d + 1
  | .map entries => uptoBulkEntries entries + 1
  | .held _ => 1
def uptoBulkAll {H : Type} : List (DataW H) → Nat
  | [] => 0
  | d :: r => uptoBulk d + uptoBulkAll r
def uptoBulkEntries {H : Type} : List (Lit × DataW H) → Nat
  | [] => 0
  | x :: r => uptoBulkEntry x + uptoBulkEntries r
def uptoBulkEntry {H : Type} : Lit × DataW H → Nat
  | (.string bytes, d) => bytes.length + uptoBulk d + 1
  | (_, d) => uptoBulk d + 1
 end
def uptoSmall : (H : Type) → List (DataW H) → Bool := fun _ ds => decide (uptoBulkAll ds ≤ 1048576)
def OpenSpec.upto (s : _root_.Go.ChangeSpec) : _root_.Go.OpenSpec := { _root_.Go.OpenSpec.ofChange s with cond := some uptoSmall }

/-- 'laws.FnExactRunFrom', WHERE WHAT IT READS IS OF BULK AT MOST 1048576: true; the input reads as it did. -/
def fnExactRunFromUptoRow : OpenClaim := { program := "ytipcmakidifelaa", sum := "22cce947164c6df4dec5262bd4e2352800040d18bf3aba947232f1c7311092f0", func := "loop.example/g01383/laws.FnExactRunFrom", spec := "fnExactRunFrom", unfollowed := true, recurses := true, plainKeys := false, apart := false, narrowed := true }
def FnExactRunFromUptoSaid : Prop := fnExactRunFromUptoRow.holds Try.pinned (OpenSpec.upto fnExactRunFromSpec)

/-- 'laws.FnExactBasinOf', WHERE WHAT IT READS IS OF BULK AT MOST 1048576: true; the input reads as it did. -/
def fnExactBasinOfUptoRow : OpenClaim := { program := "ytipcmakidifelaa", sum := "22cce947164c6df4dec5262bd4e2352800040d18bf3aba947232f1c7311092f0", func := "loop.example/g01383/laws.FnExactBasinOf", spec := "fnExactBasinOf", unfollowed := true, recurses := true, plainKeys := false, apart := false, narrowed := true }
def FnExactBasinOfUptoSaid : Prop := fnExactBasinOfUptoRow.holds Try.pinned (OpenSpec.upto fnExactBasinOfSpec)

/-- 'laws.FnExactFillLevels', WHERE WHAT IT READS IS OF BULK AT MOST 1048576: true; the input reads as it did. -/
def fnExactFillLevelsUptoRow : OpenClaim := { program := "ytipcmakidifelaa", sum := "22cce947164c6df4dec5262bd4e2352800040d18bf3aba947232f1c7311092f0", func := "loop.example/g01383/laws.FnExactFillLevels", spec := "fnExactFillLevels", unfollowed := true, recurses := true, plainKeys := false, apart := false, narrowed := true }
def FnExactFillLevelsUptoSaid : Prop := fnExactFillLevelsUptoRow.holds Try.pinned (OpenSpec.upto fnExactFillLevelsSpec)

/-- 'laws.FnExactPoolSum', WHERE WHAT IT READS IS OF BULK AT MOST 1048576: true; the input reads as it did. -/
def fnExactPoolSumUptoRow : OpenClaim := { program := "ytipcmakidifelaa", sum := "22cce947164c6df4dec5262bd4e2352800040d18bf3aba947232f1c7311092f0", func := "loop.example/g01383/laws.FnExactPoolSum", spec := "fnExactPoolSum", unfollowed := true, recurses := true, plainKeys := false, apart := false, narrowed := true }
def FnExactPoolSumUptoSaid : Prop := fnExactPoolSumUptoRow.holds Try.pinned (OpenSpec.upto fnExactPoolSumSpec)

/-- 'laws.FnExactDrySquare', WHERE WHAT IT READS IS OF BULK AT MOST 1048576: true; the input reads as it did. -/
def fnExactDrySquareUptoRow : OpenClaim := { program := "ytipcmakidifelaa", sum := "22cce947164c6df4dec5262bd4e2352800040d18bf3aba947232f1c7311092f0", func := "loop.example/g01383/laws.FnExactDrySquare", spec := "fnExactDrySquare", unfollowed := true, recurses := true, plainKeys := false, apart := false, narrowed := true }
def FnExactDrySquareUptoSaid : Prop := fnExactDrySquareUptoRow.holds Try.pinned (OpenSpec.upto fnExactDrySquareSpec)

/-- 'laws.FnExactMirrorGround', WHERE WHAT IT READS IS OF BULK AT MOST 1048576: true; the input reads as it did. -/
def fnExactMirrorGroundUptoRow : OpenClaim := { program := "ytipcmakidifelaa", sum := "22cce947164c6df4dec5262bd4e2352800040d18bf3aba947232f1c7311092f0", func := "loop.example/g01383/laws.FnExactMirrorGround", spec := "fnExactMirrorGround", unfollowed := true, recurses := true, plainKeys := false, apart := false, narrowed := true }
def FnExactMirrorGroundUptoSaid : Prop := fnExactMirrorGroundUptoRow.holds Try.pinned (OpenSpec.upto fnExactMirrorGroundSpec)

end Rows
end Go.Proofs.Ytipcmakidifelaa
