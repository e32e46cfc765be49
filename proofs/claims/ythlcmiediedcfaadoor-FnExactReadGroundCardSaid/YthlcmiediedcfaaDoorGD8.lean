/-
Grounds: where water runs, of the program. Conditions: the ground is valid, the point is a point.
-/
import Derived.Test.YthlcmiediedcfaaDoorGD7
set_option linter.unusedVariables false
set_option linter.unusedSimpArgs false
set_option maxRecDepth 100000
namespace Go.Proofs.YthlcmiediedcfaaDoor
open Go.RowKit
end Go.Proofs.YthlcmiediedcfaaDoor
