/-
Which slab covers a place; joints; corners: of the program. Conditions: numbers are of their kinds; slices can be read.
-/
import Derived.Test.YthlcmiediedcfaaDoorSQ3
import Derived.Test.YthlcmiediedcfaaDoorSQ4
set_option linter.unusedVariables false
set_option linter.unusedSimpArgs false
set_option maxRecDepth 100000
namespace Go.Proofs.YthlcmiediedcfaaDoor
open Go.RowKit
/-- A square's value. -/
def sqv (w h : Int) (z : Value) : Value := .agg #[.int .i8 w, .int .i8 h, z]
/-- What a square is, in a world. -/
structure SqIn (W : World) (w h : Int) (z : Value) (sl : List Slab) : Prop where
  w0 : -128 ≤ w
  w1 : w ≤ 127
  h0 : -128 ≤ h
  h1 : h ≤ 127
  ok : ∀ x ∈ sl, x.ok
  sl : Sl W W.heap.size Slab.c 4 z sl
theorem SqIn.ext {W W' : World} {w h : Int} {z : Value} {sl : List Slab} (q : SqIn W w h z sl) (hb : Below W.heap.size W W') : SqIn W' w h z sl := ⟨q.w0, q.w1, q.h0, q.h1, q.ok, q.sl.ext hb⟩
abbrev SqS (W0 : World) (b : Nat) (w h : Int) (z : Value) (w' : World) : Prop :=
  Below W0.heap.size W0 w' ∧ w'.cell? ⟨b, 0, none⟩ = some (.int .i8 w) ∧ w'.cell? ⟨b, 1, none⟩ = some (.int .i8 h) ∧ w'.cell? ⟨b, 2, none⟩ = some z
theorem SqS.keep {W0 w1 w2 : World} {b : Nat} {w h : Int} {z : Value} (hb : b < W0.heap.size) (hS : SqS W0 b w h z w1) (k : Below w1.heap.size w1 w2) : SqS W0 b w h z w2 := by
  obtain ⟨h0, h1, h2, h3⟩ := hS
  have q : ∀ o, w2.cell? ⟨b, o, none⟩ = w1.cell? ⟨b, o, none⟩ := fun o => k.cell (p := ⟨b, o, none⟩) (Nat.lt_of_lt_of_le hb h0.size)
  exact ⟨ext_trans h0 k, (q _).trans h1, (q _).trans h2, (q _).trans h3⟩
end Go.Proofs.YthlcmiediedcfaaDoor
