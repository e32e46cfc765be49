/-
The numbers by which bestPlan chooses. Conditions: a captured number lies where it lay.
-/
import Derived.Test.YtkkkgpeilpfddaaG10
set_option linter.unusedVariables false
set_option linter.unusedSimpArgs false
set_option maxRecDepth 100000
namespace Go.Proofs.Ytkkkgpeilpfddaa
open Go.RowKit
/-- The function g, with what it has captured, tells of days and cost a number and whether it counts, in every world in which all that lay in w lies as it lay. -/
def Numb (g : FuncId) (lb : Array Value) (num : Int → Int → Int × Bool) (w : World) : Prop :=
  ∀ W, Below w.heap.size w W → ∀ d c, Calls Try.prog g (#[.int .i64 d, .int .i64 c] ++ lb) W fun e W' => e = .returned (.tuple #[.int .i64 (num d c).1, .bool (num d c).2]) ∧ ∃ n, W' = W.drewN n
theorem numbFast (w : World) : Numb 55 #[] (fun d _ => (d, true)) w := by
  intro W hW d c
  go_enter Try.func55, Try.ntmps55
  go_wp2_with fail
  go_ret2
  exact ⟨rfl, 0, rfl⟩
theorem numbCheap (w : World) (b : Nat) (days : Int) (hb : b < w.heap.size) (hc : w.cell? ⟨b, 0, none⟩ = some (.int .i64 days)) : Numb 59 #[.pointer (some ⟨b, 0, none⟩)] (fun d c => (c, decide (d ≤ days))) w := by
  intro W hW d c
  have c0 := (hW.cell (p := ⟨b, 0, none⟩) hb).trans hc
  go_enter Try.func59, Try.ntmps59
  go_wp2_with fail
  go_quiet (fail)
  go_wp2_with fail
  go_ret2
  exact ⟨rfl, _, rfl⟩
end Go.Proofs.Ytkkkgpeilpfddaa
