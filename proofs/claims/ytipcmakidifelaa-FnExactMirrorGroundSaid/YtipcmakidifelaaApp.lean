/-
Own rows of numbers: append one; mark; held. Conditions: the row is the call's own.
-/
import Derived.Test.YtipcmakidifelaaLaw
import Derived.Laws.AppendOwn
set_option linter.unusedVariables false
set_option linter.unusedSimpArgs false
set_option maxRecDepth 100000
namespace Go.Proofs.Ytipcmakidifelaa
open Go.RowKit
theorem Own.empty {α : Type} {c : α → List Value} {sz : Nat} {E : TypeId} (W : World) (B g : Nat) (hg : g = W.heap.size) (hB : B ≤ W.heap.size) : Own (W.alloc (.cells #[] E)) B E c sz (.slice (some ⟨g, 0, none⟩) 0 0) ([] : List α) := by
  subst hg
  exact ⟨World.ownsRow_lit W #[] 0 hB (by simp [maxLen]) (by simp)⟩
def marks (k : Int) (n : Nat) : List Int := (List.range n).map (fun (i : Nat) => k + (i : Int))
theorem marks_len (k : Int) (n : Nat) : (marks k n).length = n := by simp [marks]
theorem marks_succ (k : Int) (n : Nat) : marks k (n + 1) = marks k n ++ [k + (n : Int)] := by simp [marks, List.range_succ]
theorem take_set_mark (ys : List Int) (k : Int) (j : Nat) (hj : j < ys.length) (h : ys.take j = marks k j) : (ys.set j (k + (j : Int))).take (j + 1) = marks k (j + 1) := by
  rw [List.take_succ_eq_append_getElem (by rw [List.length_set]; omega), List.take_set_of_le (Nat.le_refl j), h, List.getElem_set_self, marks_succ]
theorem marks_get (k : Int) (n j : Nat) (hj : j < n) : (marks k n)[j]'(by rw [marks_len]; exact hj) = k + (j : Int) := by simp [marks]
