/-
The slabs of a square are whole. No program in sight.
-/
import Derived.Test.YteflpdfajfljfaaFLW
import Derived.Test.YteflpdfajfljfaaBsL
set_option linter.unusedVariables false
set_option linter.unusedSimpArgs false
set_option maxRecDepth 100000
namespace Go.Proofs.Yteflpdfajfljfaa
open Go.RowKit
theorem whole_of_conv {w h : Int} {cv : Cell → Int} (hC : convB cv) (hin : ∀ c, 0 ≤ cv c → gpB w h c = true) : Whole w h cv := by
  intro P k hk hst g hg hgk hgp c hck
  have hcp := hin c (by omega)
  have hbox : ∀ x y, min g.x c.x ≤ x → x ≤ max g.x c.x → min g.y c.y ≤ y → y ≤ max g.y c.y → cv ⟨x, y⟩ = k := by
    intro x y h1 h2 h3 h4
    rw [hC g c ⟨x, y⟩ (by omega) (by omega) h1 h2 h3 h4, hgk]
  have hpt : ∀ x y, min g.x c.x ≤ x → x ≤ max g.x c.x → min g.y c.y ≤ y → y ≤ max g.y c.y → gpB w h ⟨x, y⟩ = true := fun x y h1 h2 h3 h4 => hin _ (by rw [hbox x y h1 h2 h3 h4]; exact hk)
  have hx : ∀ n : Nat, ∀ x : Int, (x - g.x).natAbs = n → min g.x c.x ≤ x → x ≤ max g.x c.x → P ⟨x, g.y⟩ := by
    intro n
    induction n with
    | zero =>
      intro x h1 h2 h3
      have : x = g.x := by omega
      subst this
      exact hg
    | succ n ih =>
      intro x h1 h2 h3
      by_cases hlt : x < g.x
      · exact hst ⟨x + 1, g.y⟩ ⟨x, g.y⟩ (ih (x + 1) (by omega) (by omega) (by omega)) (around_mem.2 ⟨hpt x g.y h2 h3 (by omega) (by omega), .inr ⟨rfl, .inl (by show x = x + 1 - 1; omega)⟩⟩) (hbox _ _ (by omega) (by omega) (by omega) (by omega)) (hbox _ _ (by omega) (by omega) (by omega) (by omega))
      · exact hst ⟨x - 1, g.y⟩ ⟨x, g.y⟩ (ih (x - 1) (by omega) (by omega) (by omega)) (around_mem.2 ⟨hpt x g.y h2 h3 (by omega) (by omega), .inr ⟨rfl, .inr (by show x = x - 1 + 1; omega)⟩⟩) (hbox _ _ (by omega) (by omega) (by omega) (by omega)) (hbox _ _ (by omega) (by omega) (by omega) (by omega))
  have hy : ∀ n : Nat, ∀ x y : Int, (y - g.y).natAbs = n → min g.x c.x ≤ x → x ≤ max g.x c.x → min g.y c.y ≤ y → y ≤ max g.y c.y → P ⟨x, y⟩ := by
    intro n
    induction n with
    | zero =>
      intro x y h1 h2 h3 _ _
      have : y = g.y := by omega
      subst this
      exact hx _ x rfl h2 h3
    | succ n ih =>
      intro x y h1 h2 h3 h4 h5
      by_cases hlt : y < g.y
      · exact hst ⟨x, y + 1⟩ ⟨x, y⟩ (ih x (y + 1) (by omega) h2 h3 (by omega) (by omega)) (around_mem.2 ⟨hpt x y h2 h3 h4 h5, .inl ⟨rfl, .inl (by show y = y + 1 - 1; omega)⟩⟩) (hbox _ _ (by omega) (by omega) (by omega) (by omega)) (hbox _ _ (by omega) (by omega) (by omega) (by omega))
      · exact hst ⟨x, y - 1⟩ ⟨x, y⟩ (ih x (y - 1) (by omega) h2 h3 (by omega) (by omega)) (around_mem.2 ⟨hpt x y h2 h3 h4 h5, .inl ⟨rfl, .inr (by show y = y - 1 + 1; omega)⟩⟩) (hbox _ _ (by omega) (by omega) (by omega) (by omega)) (hbox _ _ (by omega) (by omega) (by omega) (by omega))
  exact hy _ c.x c.y rfl (by omega) (by omega) (by omega) (by omega)
/-- Which slab covers a cell. -/
def cvS (sl : List Slab) (c : Cell) : Int := atI sl c.x c.y
theorem cvS_ge (sl : List Slab) (c : Cell) : -1 ≤ cvS sl c := (atI_bounds sl c.x c.y).1
theorem cvS_conv {w h : Int} {sl : List Slab} (hv : sqOk w h sl = true) : convB (cvS sl) := by
  have hn : slabsOk w h sl sl.length = true := by simp only [sqOk, Bool.and_eq_true] at hv; exact hv.2
  intro a b c h0 hab x0 x1 y0 y1
  unfold cvS at *
  obtain ⟨k, hk⟩ : ∃ k : Nat, atI sl a.x a.y = (k : Int) := ⟨(atI sl a.x a.y).toNat, by omega⟩
  have hkl : k < sl.length := by have := (atI_bounds sl a.x a.y).2; omega
  have h1 := (atI_ok hn hkl a.x a.y).1 hk
  have h2 := (atI_ok hn hkl b.x b.y).1 (by omega)
  rw [hk]
  refine (atI_ok hn hkl c.x c.y).2 ?_
  simp only [covB, decide_eq_true_eq] at *
  omega
theorem cvS_in {w h : Int} {sl : List Slab} (hv : sqOk w h sl = true) (c : Cell) (h0 : 0 ≤ cvS sl c) : gpB w h c = true := by
  have hn : slabsOk w h sl sl.length = true := by simp only [sqOk, Bool.and_eq_true] at hv; exact hv.2
  have hl : ∀ t ∈ sl, liesB w h t = true := by have := slabsOk_lies hn (Nat.le_refl _); rwa [List.take_length] at this
  rw [gpB_true]
  refine Classical.byContradiction fun hne => ?_
  have := atI_out hl (x := c.x) (y := c.y) (by omega)
  unfold cvS at h0
  omega
theorem cvS_whole {w h : Int} {sl : List Slab} (hv : sqOk w h sl = true) : Whole w h (cvS sl) := whole_of_conv (cvS_conv hv) (cvS_in hv)
/-- The code of a square and cells. -/
def cellC (w h : Int) (sl : List Slab) (cs : List Cell) : Int := if sqOk w h sl = true then (if cs.all (gpB w h) = true then 0 else 2) else 1
theorem cellC_ok {w h : Int} {sl : List Slab} {cs : List Cell} (hc : cellC w h sl cs = 0) : sqOk w h sl = true ∧ ∀ c ∈ cs, gpB w h c = true := by
  unfold cellC at hc
  split at hc
  · rename_i h1
    split at hc
    · rename_i h2
      exact ⟨h1, List.all_eq_true.1 h2⟩
    · omega
  · omega
end Go.Proofs.Yteflpdfajfljfaa
