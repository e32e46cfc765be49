/-
Joints between points: of the program. Conditions: numbers are of their kinds; slices can be read.
-/
import Derived.Test.YthlcmiediedcfaaDoorSQ7
set_option linter.unusedVariables false
set_option linter.unusedSimpArgs false
set_option maxRecDepth 100000
namespace Go.Proofs.YthlcmiediedcfaaDoor
open Go.RowKit
def sides2 (sl : List Slab) (c d : Cell) : Int × Int × Bool :=
  if c.y = d.y ∧ d.x = c.x + 1 then (atI sl c.x c.y, atI sl c.x (c.y - 1), jointB sl c.x c.y c.x (c.y - 1))
  else if c.x = d.x ∧ d.y = c.y + 1 then (atI sl c.x c.y, atI sl (c.x - 1) c.y, jointB sl c.x c.y (c.x - 1) c.y) else (0, 0, false)
def sidesAt (sl : List Slab) (a b : Cell) : Int × Int × Bool := if decide (0 < cmpC a b) = true then sides2 sl b a else sides2 sl a b
end Go.Proofs.YthlcmiediedcfaaDoor
