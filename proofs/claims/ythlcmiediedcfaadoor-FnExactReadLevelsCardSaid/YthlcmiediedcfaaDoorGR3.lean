/-
How a crack grows: of the reference. Conditions: numbers are of their kinds; slices can be read.
-/
import Derived.Test.YthlcmiediedcfaaDoorGR2
import Derived.Test.YthlcmiediedcfaaDoorSQ12
set_option linter.unusedVariables false
set_option linter.unusedSimpArgs false
set_option maxRecDepth 100000
namespace Go.Proofs.YthlcmiediedcfaaDoor
open Go.RowKit
end Go.Proofs.YthlcmiediedcfaaDoor
