/-
Grounds: the gully in which water goes away, of both. Conditions: the ground is valid, the point is a point.
-/
import Derived.Test.YthlcmiediedcfaaDoorGD10
set_option linter.unusedVariables false
set_option linter.unusedSimpArgs false
set_option maxRecDepth 100000
namespace Go.Proofs.YthlcmiediedcfaaDoor
open Go.RowKit
end Go.Proofs.YthlcmiediedcfaaDoor
