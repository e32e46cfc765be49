/-
Sorted lists set free of what stands twice; sort and compact of a row of the call's own. Conditions: none.
-/
import Derived.Shelf.SortG.Plain
import Derived.Shelf.SlGeneric
import Derived.Shelf.SlicesG.CompactI
import Derived.Ground.SlgnProg
import Derived.Sort.OwnSortedInts
import Derived.Lib.RowBridge
import Derived.Lib.SlicesCompact
import Derived.Test.YtpjdgpcdcihogaaDF1
set_option linter.unusedVariables false
set_option linter.unusedSimpArgs false
set_option maxRecDepth 100000
namespace Go.Proofs.Ytpjdgpcdcihogaa
open Go.RowKit
theorem strict_ext : ∀ (xs ys : List Int), xs.Pairwise (· < ·) → ys.Pairwise (· < ·) → (∀ a, a ∈ xs ↔ a ∈ ys) → xs = ys
  | [], [], _, _, _ => rfl
  | [], y :: ys, _, _, h => absurd ((h y).2 (by simp)) (by simp)
  | x :: xs, [], _, _, h => absurd ((h x).1 (by simp)) (by simp)
  | x :: xs, y :: ys, hx, hy, h => by
    rw [List.pairwise_cons] at hx hy
    have e : x = y := by
      rcases List.mem_cons.1 ((h x).1 (by simp)) with e | hm
      · exact e
      · rcases List.mem_cons.1 ((h y).2 (by simp)) with e | hm2
        · exact e.symm
        · have := hx.1 y hm2
          have := hy.1 x hm
          omega
    subst e
    congr 1
    refine strict_ext xs ys hx.2 hy.2 fun a => ⟨fun ha => ?_, fun ha => ?_⟩
    · rcases List.mem_cons.1 ((h a).1 (by simp [ha])) with e | hm
      · have := hx.1 a ha; omega
      · exact hm
    · rcases List.mem_cons.1 ((h a).2 (by simp [ha])) with e | hm
      · have := hy.1 a ha; omega
      · exact hm
theorem compactUpTo_law (d : Array Int) (hs : ∀ i j, i ≤ j → j < d.size → d[i]! ≤ d[j]!) : ∀ m, m ≤ d.size → (Lib.compactUpTo d m).Pairwise (· < ·) ∧ ∀ a, a ∈ Lib.compactUpTo d m ↔ ∃ j, j < m ∧ d[j]! = a
  | 0, _ => by simp [Lib.compactUpTo]
  | m + 1, hm => by
    obtain ⟨h1, h2⟩ := compactUpTo_law d hs m (by omega)
    rw [Lib.compactUpTo_succ]
    by_cases hk : Lib.keeps d m = true
    · rw [if_pos hk]
      refine ⟨List.pairwise_append.2 ⟨h1, List.pairwise_singleton _ _, fun a ha b hb => ?_⟩, fun a => ?_⟩
      · rw [List.mem_singleton] at hb
        subst hb
        obtain ⟨j, hj, rfl⟩ := (h2 a).1 ha
        have hk2 : m = 0 ∨ d[m]! ≠ d[m - 1]! := by simpa [Lib.keeps] using hk
        rcases hk2 with h | h
        · omega
        · have e1 := hs j (m - 1) (by omega) (by omega)
          have e2 := hs (m - 1) m (by omega) (by omega)
          omega
      · rw [List.mem_append, h2, List.mem_singleton]
        constructor
        · rintro (⟨j, hj, h⟩ | h)
          · exact ⟨j, by omega, h⟩
          · exact ⟨m, by omega, h.symm⟩
        · rintro ⟨j, hj, h⟩
          rcases Nat.lt_succ_iff_lt_or_eq.1 hj with h1 | rfl
          · exact .inl ⟨j, h1, h⟩
          · exact .inr h.symm
    · have hk2 : ¬ (m = 0 ∨ d[m]! ≠ d[m - 1]!) := by simpa [Lib.keeps] using hk
      have h0 : m ≠ 0 := fun h => hk2 (.inl h)
      have he : d[m]! = d[m - 1]! := Classical.byContradiction fun h => hk2 (.inr h)
      rw [if_neg hk, List.append_nil]
      refine ⟨h1, fun a => ?_⟩
      rw [h2]
      constructor
      · rintro ⟨j, hj, h⟩
        exact ⟨j, by omega, h⟩
      · rintro ⟨j, hj, h⟩
        rcases Nat.lt_succ_iff_lt_or_eq.1 hj with h1 | rfl
        · exact ⟨j, h1, h⟩
        · exact ⟨j - 1, by omega, by rw [← he]; exact h⟩
def tlN (flat : List Int) (i : Nat) : List Int := ((List.range i).map fun (k : Nat) => (k : Int)).filter fun x => decide (x ∈ flat)
theorem tlN_succ (flat : List Int) (i : Nat) : tlN flat (i + 1) = if (i : Int) ∈ flat then tlN flat i ++ [(i : Int)] else tlN flat i := by
  unfold tlN
  rw [List.range_succ, List.map_append, List.filter_append]
  by_cases h : (i : Int) ∈ flat <;> simp [h]
theorem tlN_len (flat : List Int) (i : Nat) : (tlN flat i).length ≤ i := Nat.le_trans (List.length_filter_le _ _) (by simp)
/-- Sorted and set free of what stands twice, the list is that of the indices that it holds. -/
theorem compact_sorted (flat : List Int) (m : Nat) (hb : ∀ x ∈ flat, 0 ≤ x ∧ x < (m : Int)) : Lib.compact (flat.mergeSort fun x y => decide (x ≤ y)) = tlN flat m := by
  have hp := List.mergeSort_perm flat (fun x y => decide (x ≤ y))
  have hsd := List.pairwise_mergeSort (le := fun x y : Int => decide (x ≤ y)) (by intro a b c h1 h2; simp at *; omega) (by intro a b; simp; omega) flat
  generalize flat.mergeSort (fun x y => decide (x ≤ y)) = s at *
  have hsd2 : ∀ i j, i ≤ j → j < s.toArray.size → s.toArray[i]! ≤ s.toArray[j]! := by
    intro i j hij hj
    have hj2 : j < s.length := by simpa using hj
    rcases Nat.lt_or_eq_of_le hij with h | rfl
    · have := List.pairwise_iff_getElem.1 hsd i j (by omega) hj2 h
      simp only [decide_eq_true_eq] at this
      rw [getElem!_pos s.toArray i (by simp; omega), getElem!_pos s.toArray j (by simpa using hj2)]
      simpa using this
    · exact Int.le_refl _
  obtain ⟨h1, h2⟩ := compactUpTo_law s.toArray hsd2 s.length (by simp)
  refine strict_ext _ _ h1 ?_ fun a => ?_
  · unfold tlN
    refine List.Pairwise.filter _ (List.pairwise_map.2 ?_)
    exact List.pairwise_lt_range.imp (fun h => by omega)
  · show a ∈ Lib.compactUpTo s.toArray s.length ↔ _
    rw [h2]
    unfold tlN
    rw [List.mem_filter, List.mem_map]
    constructor
    · rintro ⟨j, hj, rfl⟩
      rw [getElem!_pos s.toArray j (by simpa using hj)]
      have hm : s.toArray[j]'(by simpa using hj) ∈ flat := hp.subset (by simp)
      have := hb _ hm
      exact ⟨⟨(s.toArray[j]'(by simpa using hj)).toNat, List.mem_range.2 (by omega), by omega⟩, by simpa using hm⟩
    · rintro ⟨-, hm⟩
      have hm : a ∈ s := hp.symm.subset (by simpa using hm)
      obtain ⟨j, hj, rfl⟩ := List.getElem_of_mem hm
      exact ⟨j, hj, by rw [getElem!_pos s.toArray j (by simpa using hj)]; simp⟩
section
open Go.Shelf
shelf_lay_g SlLaysN.n53 Slgn 53 at Try 59 as Try.sortL
shelf_lay_g SlLaysN.n43 Slgn 43 at Try 60 as Try.compL
end
theorem flat_i64 (xs : List Int) : xs.flatMap i64c = xs.map (Value.int .i64) := by
  induction xs with
  | nil => rfl
  | cons x xs ih => rw [List.flatMap_cons, ih]; rfl
theorem sortI64_calls (xs : List Int) (g cap B : Nat) (W : World) (hO : Own W B 2 i64c 1 (.slice (some ⟨g, 0, none⟩) xs.length cap) xs) (hn : xs.length ≤ 4000000000000000000) :
    Calls Try.prog 59 #[.slice (some ⟨g, 0, none⟩) xs.length cap] W fun e w' => e = .returned (.tuple #[]) ∧ Own w' B 2 i64c 1 (.slice (some ⟨g, 0, none⟩) xs.length cap) (xs.mergeSort fun x y => decide (x ≤ y)) ∧ W.grownBy w' (some g) := by
  rcases hO.out.2 with ⟨h0, _⟩ | ⟨g', cap', cur, hv, hb, hh, hle, hcap, hsz, htk⟩
  · cases h0
  · injection hv with e1 e2 e3
    injection e1 with e1
    injection e1 with e1
    subst e1; subst e3
    have hH := holds_of_blockI (ss := xs) hh (by rw [Nat.mul_one] at htk; rw [htk, flat_i64])
    have hc := AnyG.slices_Sort_int Try.sortL g 0 cap xs W hH (Array.getElem?_eq_some_iff.1 hh).1 (by omega)
    change Calls Try.prog 59 _ _ _ at hc
    refine hc.mono ?_
    rintro e w' ⟨rfl, n, os, rfl⟩
    refine ⟨rfl, ⟨?_⟩, grownBy_sortedI _⟩
    have hl : (xs.mergeSort fun x y => decide (x ≤ y)).length = xs.length := List.length_mergeSort xs
    have := ownsRow_sortedI (w := W) (n := n) (os := os) hl hb hh hle hcap hsz
    rw [flat_i64, hl]
    exact this
theorem compactI64_calls (xs : List Int) (g cap B : Nat) (W : World) (hO : Own W B 2 i64c 1 (.slice (some ⟨g, 0, none⟩) xs.length cap) xs) (hn : xs.length ≤ 4000000000000000000) :
    Calls Try.prog 60 #[.slice (some ⟨g, 0, none⟩) xs.length cap] W fun e w' => e = .returned (.slice (some ⟨g, 0, none⟩) (Lib.compact xs).length cap) ∧ Own w' B 2 i64c 1 (.slice (some ⟨g, 0, none⟩) (Lib.compact xs).length cap) (Lib.compact xs) ∧ W.grownBy w' (some g) := by
  rcases hO.out.2 with ⟨h0, _⟩ | ⟨g', cap', cur, hv, hb, hh, hle, hcap, hsz, htk⟩
  · cases h0
  · injection hv with e1 e2 e3
    injection e1 with e1
    injection e1 with e1
    subst e1; subst e3
    have hH := holds_of_blockI (ss := xs) hh (by rw [Nat.mul_one] at htk; rw [htk, flat_i64])
    have hc := AnyG.slices_Compact_int Try.compL g 0 cap xs W hH (by omega) hle
    change Calls Try.prog 60 _ _ _ at hc
    refine hc.mono ?_
    rintro e w' ⟨rfl, q, rfl⟩
    have hcl := Lib.compact_length_le xs
    have hl : (Lib.compact xs ++ List.replicate (xs.length - (Lib.compact xs).length) 0).length = xs.length := by rw [List.length_append, List.length_replicate]; omega
    have hgr := grownBy_sortedI (w := W) (g := g) (n := q) (os := #[]) (Lib.compact xs ++ List.replicate (xs.length - (Lib.compact xs).length) 0).toArray
    have how := ownsRow_sortedI (w := W) (n := q) (os := #[]) hl hb hh hle hcap hsz
    have he : ∀ w : World, Go.Sort.grow w #[] = w := fun w => by simp [Go.Sort.grow]
    rw [he] at hgr how
    refine ⟨rfl, ?_, hgr⟩
    have hO2 : Own (Go.Sort.putRow (Value.int .i64) (Go.Sort.ahead W q) g 0 (Lib.compact xs ++ List.replicate (xs.length - (Lib.compact xs).length) 0).toArray) B 2 i64c 1 (.slice (some ⟨g, 0, none⟩) xs.length cap) (Lib.compact xs ++ List.replicate (xs.length - (Lib.compact xs).length) 0) := ⟨by rw [flat_i64, hl]; exact how⟩
    have := hO2.cutHi i64c_len (k := (Lib.compact xs).length) (by rw [hl]; exact hcl)
    rwa [List.take_left] at this
end Go.Proofs.Ytpjdgpcdcihogaa
