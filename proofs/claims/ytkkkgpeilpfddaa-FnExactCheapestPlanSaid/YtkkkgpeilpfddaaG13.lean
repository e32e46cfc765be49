/-
Worlds alike but for two blocks: what bestPlan's recursion leaves.
-/
import Derived.Test.YtkkkgpeilpfddaaG12
set_option linter.unusedVariables false
set_option linter.unusedSimpArgs false
set_option maxRecDepth 100000
namespace Go.Proofs.Ytkkkgpeilpfddaa
open Go.RowKit
/-- All that lay in W lies in W' as it lay, but for the blocks p and q. -/
structure Kept (p q : Nat) (W W' : World) : Prop where
  os : W'.os = W.os
  tape : W'.tape = W.tape
  output : W'.output = W.output
  size : W.heap.size ≤ W'.heap.size
  block : ∀ k, k < W.heap.size → k ≠ p → k ≠ q → W'.heap[k]? = W.heap[k]?
theorem Kept.refl (p q : Nat) (W : World) : Kept p q W W := ⟨rfl, rfl, rfl, Nat.le_refl _, fun _ _ _ _ => rfl⟩
theorem Kept.of {p q : Nat} {W W' : World} (h : Below W.heap.size W W') : Kept p q W W' := ⟨h.os, h.tape, h.output, h.size, fun k hk _ _ => h.block k hk⟩
theorem Kept.trans {p q : Nat} {a b c : World} (h : Kept p q a b) (k : Kept p q b c) : Kept p q a c :=
  ⟨k.os.trans h.os, k.tape.trans h.tape, k.output.trans h.output, Nat.le_trans h.size k.size, fun i hi h1 h2 => (k.block i (Nat.lt_of_lt_of_le hi h.size) h1 h2).trans (h.block i hi h1 h2)⟩
theorem Kept.cell {p q : Nat} {W W' : World} (h : Kept p q W W') {a : Addr} (ha : a.block < W.heap.size) (h1 : a.block ≠ p) (h2 : a.block ≠ q) : W'.cell? a = W.cell? a :=
  World.cell?_of_block (h.block a.block ha h1 h2)
theorem Kept.sl {α : Type} {p q : Nat} {W W' : World} {c : α → List Value} {sz n cap : Nat} {ad : Addr} {xs : List α} (h : Kept p q W W') (hs : Sl W W.heap.size c sz (.slice (some ad) n cap) xs) (h1 : ad.block ≠ p) (h2 : ad.block ≠ q) : Sl W' W'.heap.size c sz (.slice (some ad) n cap) xs := by
  obtain ⟨A, cap', hv, hl, hm, hc⟩ := hs.out
  refine ⟨A, cap', hv, hl, hm, fun hp => ?_⟩
  obtain ⟨b, o, hA, hb, hcell⟩ := hc hp
  have had : ad = ⟨b, o, none⟩ := by
    injection hv with e1
    rw [hA] at e1
    injection e1
  subst had
  exact ⟨b, o, hA, Nat.lt_of_lt_of_le hb h.size, fun i x hx j u hu => (h.cell (a := ⟨b, o + (i * sz + j), none⟩) hb h1 h2).trans (hcell i x hx j u hu)⟩
theorem Kept.below {p q B : Nat} {W W' : World} (h : Kept p q W W') (hB : B ≤ W.heap.size) (h1 : B ≤ p) (h2 : B ≤ q) : Below B W W' :=
  ⟨h.os, h.tape, h.output, h.size, fun k hk => h.block k (Nat.lt_of_lt_of_le hk hB) (by omega) (by omega)⟩
theorem Kept.own {α : Type} {p q B E sz : Nat} {W W' : World} {c : α → List Value} {v : Value} {xs : List α} (h : Kept p q W W') (ho : Own W B E c sz v xs) (hn : ∀ k, v.ownBlock = some k → k ≠ p ∧ k ≠ q) : Own W' B E c sz v xs :=
  ho.keep fun k hk => h.block k (ho.lt k hk) (hn k hk).1 (hn k hk).2
end Go.Proofs.Ytkkkgpeilpfddaa
