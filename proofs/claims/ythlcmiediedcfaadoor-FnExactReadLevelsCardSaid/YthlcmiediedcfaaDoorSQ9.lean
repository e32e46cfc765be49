/-
Ways of joints at a point, codes of corners, JointsAt: of the program. Conditions: numbers are of their kinds; slices can be read.
-/
import Derived.Test.YthlcmiediedcfaaDoorSQ8
import Derived.Test.YthlcmiediedcfaaDoorApp
set_option linter.unusedVariables false
set_option linter.unusedSimpArgs false
set_option maxRecDepth 100000
namespace Go.Proofs.YthlcmiediedcfaaDoor
open Go.RowKit
end Go.Proofs.YthlcmiediedcfaaDoor
