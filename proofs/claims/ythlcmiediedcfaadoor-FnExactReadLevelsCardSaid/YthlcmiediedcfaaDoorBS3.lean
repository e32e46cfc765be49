/-
All slabs beside one, of the reference: marks in a row of bools over the grid. Conditions: the square is valid; slices can be read. PRINTED by wip/mk_bs3.py.
-/
import Derived.Test.YthlcmiediedcfaaDoorBP1
import Derived.Test.YthlcmiediedcfaaDoorGR3
set_option linter.unusedVariables false
set_option linter.unusedSimpArgs false
set_option maxRecDepth 100000
namespace Go.Proofs.YthlcmiediedcfaaDoor
open Go.RowKit
end Go.Proofs.YthlcmiediedcfaaDoor
