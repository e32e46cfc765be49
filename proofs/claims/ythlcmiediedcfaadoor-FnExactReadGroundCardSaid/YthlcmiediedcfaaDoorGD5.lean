/-
Grounds: the points beside a point, of both. Conditions: numbers are of their kinds.
-/
import Derived.Test.YthlcmiediedcfaaDoorGD2
import Derived.Test.YthlcmiediedcfaaDoorDFC
import Derived.Test.YthlcmiediedcfaaDoorSQ4
set_option linter.unusedVariables false
set_option linter.unusedSimpArgs false
set_option maxRecDepth 100000
namespace Go.Proofs.YthlcmiediedcfaaDoor
open Go.RowKit
end Go.Proofs.YthlcmiediedcfaaDoor
