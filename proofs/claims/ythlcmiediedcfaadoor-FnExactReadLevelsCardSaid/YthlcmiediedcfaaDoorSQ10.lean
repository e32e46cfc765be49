/-
Codes of corners, JointsAt: of the program. Conditions: numbers are of their kinds; slices can be read.
-/
import Derived.Test.YthlcmiediedcfaaDoorSQ9
set_option linter.unusedVariables false
set_option linter.unusedSimpArgs false
set_option maxRecDepth 100000
namespace Go.Proofs.YthlcmiediedcfaaDoor
open Go.RowKit
theorem any_not {α : Type} (p : α → Bool) (xs : List α) : (!xs.any (fun x => !p x)) = xs.all p := by
  induction xs with
  | nil => rfl
  | cons x xs ih => simp [List.any_cons, List.all_cons, ← ih]
theorem sl1c (W : World) (p : Cell) (g : Nat) (hg : g = W.heap.size) (E : TypeId) : Sl (W.alloc (.cells #[.int .i8 p.x, .int .i8 p.y] E)) (W.alloc (.cells #[.int .i8 p.x, .int .i8 p.y] E)).heap.size Cell.c 2 (.slice (some ⟨g, 0, none⟩) 1 1) [p] :=
  Sl.litw Cell.c 2 Cell.c_len W [p] _ rfl g hg E (by simp)
theorem sqOk_edges {w h : Int} {sl : List Slab} (hv : sqOk w h sl = true) : (1 ≤ w ∧ w ≤ 12) ∧ (1 ≤ h ∧ h ≤ 12) ∧ ∀ t ∈ sl, liesB w h t = true := by
  simp only [sqOk, Bool.and_eq_true, edgeB, decide_eq_true_eq] at hv
  obtain ⟨⟨⟨h1, h2⟩, h3⟩, h4⟩ := hv
  exact ⟨h1, h2, by have := slabsOk_lies h4 (Nat.le_refl _); rwa [List.take_length] at this⟩
end Go.Proofs.YthlcmiediedcfaaDoor
