/-
How an argument of bytes is opened. No condition.
-/
import Derived.Test.YtgifakacnneleaaOpn
import Derived.Test.YtgifakacnneleaaSRC
set_option linter.unusedVariables false
set_option linter.unusedSimpArgs false
set_option maxRecDepth 100000
namespace Go.Proofs.Ytgifakacnneleaa
open Go.RowKit
section
variable {H : Type} {enc : TypeId × Value → H} {w : World} {r : Reach} {b0 base : Nat} {spare : Nat → Bool} {held : Bool} {v : Value} {d : DataW H} {p : List MemPlace}
theorem opnu8S (hval : Value.okWide Try.prog w r b0 47 v) (h : DataW.Trod enc Try.prog w base spare held 47 v d p) : ∃ xs : List Int, Sl w w.heap.size u8c 1 v xs ∧ ∀ q ∈ xs, 0 ≤ q ∧ q ≤ 255 := by
  obtain ⟨a, l, c, rfl⟩ := Go.WideShapes.okWide_slice Try.underlying47 hval
  obtain ⟨v', xs, hv, hs, hok⟩ := (Rd.of_trod h).slice u8c 1 (fun q => 0 ≤ q ∧ q ≤ 255) Try.underlying47 (by kernel_rfl) (by omega) u8c_len (fun cs' hr => by
    obtain ⟨n, hn, wn⟩ := hr.int Try.underlying5
    exact ⟨n, hn, wf_u8 wn⟩)
  simp [Value.cells] at hv
  subst hv
  exact ⟨xs, hs, hok⟩
end
end Go.Proofs.Ytgifakacnneleaa
