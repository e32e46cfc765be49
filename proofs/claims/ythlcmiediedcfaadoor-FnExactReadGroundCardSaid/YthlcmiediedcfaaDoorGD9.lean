/-
Grounds: where water runs, of the reference. Conditions: the ground is valid, the point is a point.
-/
import Derived.Test.YthlcmiediedcfaaDoorGD8
set_option linter.unusedVariables false
set_option linter.unusedSimpArgs false
set_option maxRecDepth 100000
namespace Go.Proofs.YthlcmiediedcfaaDoor
open Go.RowKit
theorem sheightP_calls {w h : Int} {hs : List Int} {gl : List Cell} (ok : GOk w h hs gl) (hl : hs.length = 81) (z : Value) (g : Nat) (T : TypeId) (p : Cell) (hp : gpB w h p = true) (W : World) (hg : Bk W g T (gdA w h hs z)) :
    Calls Tryd.prog 92 #[.pointer (some ⟨g, 0, none⟩), .agg #[.int .i8 p.x, .int .i8 p.y]] W fun e w' => e = .returned (.int .i64 (htL hs p)) ∧ Below W.heap.size W w' := by
  have hb := ok.ht p hp
  obtain ⟨a, b, ha, hb2, rfl⟩ := pt_nat ok.w1 ok.h1 hp
  exact sheight_calls g T w h hs hl z a b ha hb2 (by omega) W hg
end Go.Proofs.YthlcmiediedcfaaDoor
