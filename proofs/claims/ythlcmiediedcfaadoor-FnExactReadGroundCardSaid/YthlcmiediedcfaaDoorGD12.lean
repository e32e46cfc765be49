/-
RunFrom, of both. Conditions: numbers are of their kinds; slices can be read.
-/
import Derived.Test.YthlcmiediedcfaaDoorGD11
import Derived.Test.YthlcmiediedcfaaDoorGD4
set_option linter.unusedVariables false
set_option linter.unusedSimpArgs false
set_option maxRecDepth 100000
namespace Go.Proofs.YthlcmiediedcfaaDoor
open Go.RowKit
/-- What a ground is in a world. -/
structure GdIn (W : World) (w h : Int) (hs : List Int) (gl : List Cell) (z : Value) : Prop where
  w0 : -128 ≤ w
  w1 : w ≤ 127
  h0 : -128 ≤ h
  h1 : h ≤ 127
  hl : hs.length = 81
  h16 : ∀ n ∈ hs, -32768 ≤ n ∧ n ≤ 32767
  ok : ∀ p ∈ gl, p.ok
  sl : Sl W W.heap.size Cell.c 2 z gl
theorem GdIn.ext {W W' : World} {w h : Int} {hs : List Int} {gl : List Cell} {z : Value} (q : GdIn W w h hs gl z) (hb : Below W.heap.size W W') : GdIn W' w h hs gl z := ⟨q.w0, q.w1, q.h0, q.h1, q.hl, q.h16, q.ok, q.sl.ext hb⟩
def RetC2 (W : World) (r : List Cell × Int) (e : Ending) (w' : World) : Prop := ∃ v, e = .returned (.tuple #[v, .int .i64 r.2]) ∧ Own w' W.heap.size 98 Cell.c 2 v r.1 ∧ Below W.heap.size W w'
theorem RetC2.mk {W : World} {r : List Cell × Int} {e : Ending} {w' : World} {v : Value} (h : e = .returned (.tuple #[v, .int .i64 r.2])) (h2 : Own w' W.heap.size 98 Cell.c 2 v r.1) (h3 : Below W.heap.size W w') : RetC2 W r e w' := ⟨v, h, h2, h3⟩
def askG (w h : Int) (hs : List Int) (gl : List Cell) (b : Bool) : Int := if gOk w h hs gl = true then (if b then 0 else 2) else 1
theorem askG_ok {w h : Int} {hs : List Int} {gl : List Cell} {b : Bool} (hk : askG w h hs gl b = 0) : gOk w h hs gl = true ∧ b = true := by
  unfold askG at hk
  cases hg : gOk w h hs gl <;> rw [hg] at hk
  · simp at hk
  · cases b
    · simp at hk
    · exact ⟨rfl, rfl⟩
end Go.Proofs.YthlcmiediedcfaaDoor
