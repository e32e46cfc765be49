/-
All slabs beside one, of the program. Conditions: numbers are small; slices can be read.
-/
import Derived.Test.YthlcmiediedcfaaDoorBS1
import Derived.Test.YthlcmiediedcfaaDoorSQ12
set_option linter.unusedVariables false
set_option linter.unusedSimpArgs false
set_option maxRecDepth 100000
namespace Go.Proofs.YthlcmiediedcfaaDoor
open Go.RowKit
/-- A row of the call's own is handed back, maybe nil. -/
def RetRow {α : Type} (W : World) (E : TypeId) (c : α → List Value) (sz : Nat) (xs : List α) (e : Ending) (w' : World) : Prop := ∃ v, e = .returned v ∧ Own w' W.heap.size E c sz v xs ∧ Below W.heap.size W w'
/-- Slabs that a square of the program may have. -/
def smallS (s : Slab) : Prop := -127 ≤ s.x ∧ -127 ≤ s.y ∧ s.w ≤ 125 ∧ s.h ≤ 125
end Go.Proofs.YthlcmiediedcfaaDoor
