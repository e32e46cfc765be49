/-
Slabs beside each other, of the program: areBeside. Conditions: numbers are of their kinds, and small.
-/
import Derived.Test.YthlcmiediedcfaaDoorBsL
import Derived.Test.YthlcmiediedcfaaDoorSQ6
import Derived.Deep.DeepCutAuto
import Derived.Laws.StructEq
set_option linter.unusedVariables false
set_option linter.unusedSimpArgs false
set_option maxRecDepth 100000
namespace Go.Proofs.YthlcmiediedcfaaDoor
open Go.RowKit
end Go.Proofs.YthlcmiediedcfaaDoor
