/-
Pairs of slabs beside each other, of the program; own rows of pairs. Conditions: numbers are small; slices can be read.
-/
import Derived.Test.YthlcmiediedcfaaDoorBS2
set_option linter.unusedVariables false
set_option linter.unusedSimpArgs false
set_option maxRecDepth 100000
namespace Go.Proofs.YthlcmiediedcfaaDoor
open Go.RowKit
end Go.Proofs.YthlcmiediedcfaaDoor
