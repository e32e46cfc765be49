/-
The boxes of bestPlan's recursion, and what stands in them.
-/
import Derived.Test.YtkkkgpeilpfddaaG13
set_option linter.unusedVariables false
set_option linter.unusedSimpArgs false
set_option maxRecDepth 100000
namespace Go.Proofs.Ytkkkgpeilpfddaa
open Go.RowKit
/-- nil for an empty list, or a row of the call's own (from block D on) that reads as the list, apart from the blocks p and q. -/
structure PV (D p q : Nat) (W : World) (v : Value) (xs : List Int) : Prop where
  out : (v = .slice none 0 0 ∧ xs = []) ∨ (∃ ad cap, v = .slice (some ad) xs.length cap ∧ Own W D 2 i64c 1 v xs ∧ v.ownBlock = some ad.block ∧ ad.block ≠ p ∧ ad.block ≠ q)
theorem PV.nil_ (D p q : Nat) (W : World) : PV D p q W (.slice none 0 0) [] := ⟨.inl ⟨rfl, rfl⟩⟩
theorem PV.keep {D p q : Nat} {W W' : World} {v : Value} {xs : List Int} (h : PV D p q W v xs) (k : Kept p q W W') : PV D p q W' v xs := by
  rcases h.out with h | ⟨ad, cap, rfl, hs, hl, h1, h2⟩
  · exact ⟨.inl h⟩
  · exact ⟨.inr ⟨ad, cap, rfl, k.own hs (fun j hj => by
      rw [hl] at hj
      injection hj with hj
      subst hj
      exact ⟨h1, h2⟩), hl, h1, h2⟩⟩
theorem PV.ow {D p q : Nat} {W : World} {v : Value} {xs : List Int} (h : PV D p q W v xs) : Own W D 2 i64c 1 v xs := by
  rcases h.out with ⟨rfl, rfl⟩ | ⟨ad, cap, rfl, hs, hl, h1, h2⟩
  · exact Own.nil_ _ _ _ _ _
  · exact hs
theorem PV.sl {D p q : Nat} {W : World} {v : Value} {xs : List Int} (h : PV D p q W v xs) : Sl W W.heap.size i64c 1 v xs := h.ow.sl i64c_len
theorem PV.own {D p q B g cap : Nat} {W : World} {xs : List Int} (h : Own W B 2 i64c 1 (.slice (some ⟨g, 0, none⟩) xs.length cap) xs) (hD : D ≤ B) (hp : p < B) (hq : q < B) : PV D p q W (.slice (some ⟨g, 0, none⟩) xs.length cap) xs := by
  have h1 := h.base g rfl
  exact ⟨.inr ⟨_, _, rfl, h.more hD, rfl, by show g ≠ p; omega, by show g ≠ q; omega⟩⟩
/-- The boxes that choose has captured. -/
structure Bx where
  D : Nat
  R : Nat
  N : Nat
  G : Nat
  L : Nat
  B : Nat
  C : Nat
structure Bx.S (x : Bx) (v u nf cf : Value) (W : World) (s : List Int × Int) : Prop where
  hR : W.cell? ⟨x.R, 0, none⟩ = some v
  hN : W.cell? ⟨x.N, 0, none⟩ = some nf
  hG : W.cell? ⟨x.G, 0, none⟩ = some u
  hC : W.cell? ⟨x.C, 0, none⟩ = some cf
  hL : Bk W x.L 2 #[.int .i64 s.2]
  hB : ∃ bv, Bk W x.B 24 #[bv] ∧ PV x.D x.L x.B W bv s.1
  lR : x.R < W.heap.size
  lN : x.N < W.heap.size
  lG : x.G < W.heap.size
  lC : x.C < W.heap.size
  dR : x.R ≠ x.L ∧ x.R ≠ x.B
  dN : x.N ≠ x.L ∧ x.N ≠ x.B
  dG : x.G ≠ x.L ∧ x.G ≠ x.B
  dC : x.C ≠ x.L ∧ x.C ≠ x.B
  dL : x.L ≠ x.B
section
variable {x : Bx} {v u nf cf : Value} {W W' : World} {s : List Int × Int}
theorem Bx.S.ext (h : x.S v u nf cf W s) (hb : Below W.heap.size W W') : x.S v u nf cf W' s := by
  obtain ⟨bv, h1, h2⟩ := h.hB
  have z := hb.size
  exact ⟨(hb.cell (p := ⟨x.R, 0, none⟩) h.lR).trans h.hR, (hb.cell (p := ⟨x.N, 0, none⟩) h.lN).trans h.hN, (hb.cell (p := ⟨x.G, 0, none⟩) h.lG).trans h.hG, (hb.cell (p := ⟨x.C, 0, none⟩) h.lC).trans h.hC, h.hL.ext hb, ⟨bv, h1.ext hb, h2.keep (Kept.of hb)⟩, by have := h.lR; omega, by have := h.lN; omega, by have := h.lG; omega, by have := h.lC; omega, h.dR, h.dN, h.dG, h.dC, h.dL⟩
theorem Kept.set1 {p q : Nat} (W : World) (j : Nat) (u : Value) : Kept p q W (W.setCell ⟨p, j, none⟩ u) :=
  ⟨rfl, rfl, rfl, by simp [World.setCell], fun k hk h1 h2 => Below.heap_setCell _ _ _ _ h1⟩
theorem Kept.set2 {p q : Nat} (W : World) (j : Nat) (u : Value) : Kept p q W (W.setCell ⟨q, j, none⟩ u) :=
  ⟨rfl, rfl, rfl, by simp [World.setCell], fun k hk h1 h2 => Below.heap_setCell _ _ _ _ h2⟩
theorem Bx.S.put (h : x.S v u nf cf W s) (cv : Value) (ys : List Int) (n : Int) (hp : PV x.D x.L x.B W cv ys) :
    x.S v u nf cf ((W.setCell ⟨x.B, 0, none⟩ cv).setCell ⟨x.L, 0, none⟩ (.int .i64 n)) (ys, n) ∧ Kept x.L x.B W ((W.setCell ⟨x.B, 0, none⟩ cv).setCell ⟨x.L, 0, none⟩ (.int .i64 n)) := by
  have k := (Kept.set2 (p := x.L) (q := x.B) W 0 cv).trans (Kept.set1 (p := x.L) (q := x.B) (W.setCell ⟨x.B, 0, none⟩ cv) 0 (.int .i64 n))
  obtain ⟨bv, h1, h2⟩ := h.hB
  have z := k.size
  refine ⟨⟨(k.cell (a := ⟨x.R, 0, none⟩) h.lR h.dR.1 h.dR.2).trans h.hR, (k.cell (a := ⟨x.N, 0, none⟩) h.lN h.dN.1 h.dN.2).trans h.hN, (k.cell (a := ⟨x.G, 0, none⟩) h.lG h.dG.1 h.dG.2).trans h.hG, (k.cell (a := ⟨x.C, 0, none⟩) h.lC h.dC.1 h.dC.2).trans h.hC, ?_, ⟨cv, ?_, hp.keep k⟩, by have := h.lR; omega, by have := h.lN; omega, by have := h.lG; omega, by have := h.lC; omega, h.dR, h.dN, h.dG, h.dC, h.dL⟩, k⟩
  · exact (h.hL.oth 0 cv h.dL).set 0 (.int .i64 n)
  · exact (h1.set 0 cv).oth 0 (.int .i64 n) (Ne.symm h.dL)
end
end Go.Proofs.Ytkkkgpeilpfddaa
