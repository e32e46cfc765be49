/-
The slabs that a crack touches, in plain lists. Nothing is proved here of the program itself.
-/
import Derived.Test.YtbmkhhhlnollmaaSM2
import Derived.Test.YtbmkhhhlnollmaaBS3
import Derived.Test.YtbmkhhhlnollmaaLV1
import Derived.Lib.SlicesCompact
set_option linter.unusedVariables false
set_option linter.unusedSimpArgs false
set_option maxRecDepth 100000
namespace Go.Proofs.Ytbmkhhhlnollmaa
open Go.RowKit
theorem strict_ext : ∀ (xs ys : List Int), xs.Pairwise (· < ·) → ys.Pairwise (· < ·) → (∀ a, a ∈ xs ↔ a ∈ ys) → xs = ys
  | [], [], _, _, _ => rfl
  | [], y :: ys, _, _, h => absurd ((h y).2 (by simp)) (by simp)
  | x :: xs, [], _, _, h => absurd ((h x).1 (by simp)) (by simp)
  | x :: xs, y :: ys, hx, hy, h => by
    rw [List.pairwise_cons] at hx hy
    have e : x = y := by
      rcases List.mem_cons.1 ((h x).1 (by simp)) with e | hm
      · exact e
      · rcases List.mem_cons.1 ((h y).2 (by simp)) with e | hm2
        · exact e.symm
        · have := hx.1 y hm2
          have := hy.1 x hm
          omega
    subst e
    congr 1
    refine strict_ext xs ys hx.2 hy.2 fun a => ⟨fun ha => ?_, fun ha => ?_⟩
    · rcases List.mem_cons.1 ((h a).1 (by simp [ha])) with e | hm
      · have := hx.1 a ha; omega
      · exact hm
    · rcases List.mem_cons.1 ((h a).2 (by simp [ha])) with e | hm
      · have := hy.1 a ha; omega
      · exact hm
theorem compactUpTo_law (d : Array Int) (hs : ∀ i j, i ≤ j → j < d.size → d[i]! ≤ d[j]!) : ∀ m, m ≤ d.size → (Lib.compactUpTo d m).Pairwise (· < ·) ∧ ∀ a, a ∈ Lib.compactUpTo d m ↔ ∃ j, j < m ∧ d[j]! = a
  | 0, _ => by simp [Lib.compactUpTo]
  | m + 1, hm => by
    obtain ⟨h1, h2⟩ := compactUpTo_law d hs m (by omega)
    rw [Lib.compactUpTo_succ]
    by_cases hk : Lib.keeps d m = true
    · rw [if_pos hk]
      refine ⟨List.pairwise_append.2 ⟨h1, List.pairwise_singleton _ _, fun a ha b hb => ?_⟩, fun a => ?_⟩
      · rw [List.mem_singleton] at hb
        subst hb
        obtain ⟨j, hj, rfl⟩ := (h2 a).1 ha
        have hk2 : m = 0 ∨ d[m]! ≠ d[m - 1]! := by simpa [Lib.keeps] using hk
        rcases hk2 with h | h
        · omega
        · have e1 := hs j (m - 1) (by omega) (by omega)
          have e2 := hs (m - 1) m (by omega) (by omega)
          omega
      · rw [List.mem_append, h2, List.mem_singleton]
        constructor
        · rintro (⟨j, hj, h⟩ | h)
          · exact ⟨j, by omega, h⟩
          · exact ⟨m, by omega, h.symm⟩
        · rintro ⟨j, hj, h⟩
          rcases Nat.lt_succ_iff_lt_or_eq.1 hj with h1 | rfl
          · exact .inl ⟨j, h1, h⟩
          · exact .inr h.symm
    · have hk2 : ¬ (m = 0 ∨ d[m]! ≠ d[m - 1]!) := by simpa [Lib.keeps] using hk
      have h0 : m ≠ 0 := fun h => hk2 (.inl h)
      have he : d[m]! = d[m - 1]! := Classical.byContradiction fun h => hk2 (.inr h)
      rw [if_neg hk, List.append_nil]
      refine ⟨h1, fun a => ?_⟩
      rw [h2]
      constructor
      · rintro ⟨j, hj, h⟩
        exact ⟨j, by omega, h⟩
      · rintro ⟨j, hj, h⟩
        rcases Nat.lt_succ_iff_lt_or_eq.1 hj with h1 | rfl
        · exact ⟨j, h1, h⟩
        · exact ⟨j - 1, by omega, by rw [← he]; exact h⟩
def tlN (flat : List Int) (i : Nat) : List Int := ((List.range i).map fun (k : Nat) => (k : Int)).filter fun x => decide (x ∈ flat)
theorem tlN_succ (flat : List Int) (i : Nat) : tlN flat (i + 1) = if (i : Int) ∈ flat then tlN flat i ++ [(i : Int)] else tlN flat i := by
  unfold tlN
  rw [List.range_succ, List.map_append, List.filter_append]
  by_cases h : (i : Int) ∈ flat <;> simp [h]
theorem tlN_len (flat : List Int) (i : Nat) : (tlN flat i).length ≤ i := Nat.le_trans (List.length_filter_le _ _) (by simp)
/-- Sorted and set free of what stands twice, the list is that of the indices that it holds. -/
theorem compact_sorted (flat : List Int) (m : Nat) (hb : ∀ x ∈ flat, 0 ≤ x ∧ x < (m : Int)) : Lib.compact (flat.mergeSort fun x y => decide (x ≤ y)) = tlN flat m := by
  have hp := List.mergeSort_perm flat (fun x y => decide (x ≤ y))
  have hsd := List.pairwise_mergeSort (le := fun x y : Int => decide (x ≤ y)) (by intro a b c h1 h2; simp at *; omega) (by intro a b; simp; omega) flat
  generalize flat.mergeSort (fun x y => decide (x ≤ y)) = s at *
  have hsd2 : ∀ i j, i ≤ j → j < s.toArray.size → s.toArray[i]! ≤ s.toArray[j]! := by
    intro i j hij hj
    have hj2 : j < s.length := by simpa using hj
    rcases Nat.lt_or_eq_of_le hij with h | rfl
    · have := List.pairwise_iff_getElem.1 hsd i j (by omega) hj2 h
      simp only [decide_eq_true_eq] at this
      rw [getElem!_pos s.toArray i (by simp; omega), getElem!_pos s.toArray j (by simpa using hj2)]
      simpa using this
    · exact Int.le_refl _
  obtain ⟨h1, h2⟩ := compactUpTo_law s.toArray hsd2 s.length (by simp)
  refine strict_ext _ _ h1 ?_ fun a => ?_
  · unfold tlN
    refine List.Pairwise.filter _ (List.pairwise_map.2 ?_)
    exact List.pairwise_lt_range.imp (fun h => by omega)
  · show a ∈ Lib.compactUpTo s.toArray s.length ↔ _
    rw [h2]
    unfold tlN
    rw [List.mem_filter, List.mem_map]
    constructor
    · rintro ⟨j, hj, rfl⟩
      rw [getElem!_pos s.toArray j (by simpa using hj)]
      have hm : s.toArray[j]'(by simpa using hj) ∈ flat := hp.subset (by simp)
      have := hb _ hm
      exact ⟨⟨(s.toArray[j]'(by simpa using hj)).toNat, List.mem_range.2 (by omega), by omega⟩, by simpa using hm⟩
    · rintro ⟨-, hm⟩
      have hm : a ∈ s := hp.symm.subset (by simpa using hm)
      obtain ⟨j, hj, rfl⟩ := List.getElem_of_mem hm
      exact ⟨j, hj, by rw [getElem!_pos s.toArray j (by simpa using hj)]; simp⟩
/-- The marks that the reference sets. -/
def mkN (m : Nat) (flat : List Int) : List Bool := (List.range (m + 1)).map fun (q : Nat) => decide ((q : Int) - 1 ∈ flat)
theorem mkN_len (m : Nat) (flat : List Int) : (mkN m flat).length = m + 1 := by simp [mkN]
theorem mkN_start (m : Nat) : mkN m [] = List.replicate (m + 1) false := by
  apply List.ext_getElem
  · simp [mkN]
  · intro i h1 h2
    simp [mkN]
theorem mkN_get (m : Nat) (flat : List Int) (i : Nat) (hi : i < m + 1) : (mkN m flat)[i]? = some (decide ((i : Int) - 1 ∈ flat)) := by simp [mkN, hi]
theorem mkN_set (m : Nat) (flat : List Int) (u : Nat) (hu : u < m) : (mkN m flat).set (u + 1) true = mkN m (flat ++ [(u : Int)]) := by
  apply List.ext_getElem?
  intro i
  by_cases hi : i < m + 1
  · rw [mkN_get _ _ _ hi]
    by_cases hiu : i = u + 1
    · subst hiu
      rw [List.getElem?_set_self (by rw [mkN_len]; exact hi)]
      simp
    · rw [List.getElem?_set_ne (by omega), mkN_get _ _ _ hi]
      have : ¬ (i : Int) - 1 = (u : Int) := by omega
      simp [this]
  · rw [List.getElem?_eq_none (by rw [List.length_set, mkN_len]; omega), List.getElem?_eq_none (by rw [mkN_len]; omega)]
theorem mkN_perm (m : Nat) (f g : List Int) (h : ∀ x, x ∈ f ↔ x ∈ g) : mkN m f = mkN m g := by
  unfold mkN
  apply List.map_congr_left
  intro q _
  simp [h]
def sdT (sl : List Slab) (xs : List Cell) (k : Nat) : Int × Int × Bool := sidesAt sl (xs.getD k ⟨0, 0⟩) (xs.getD (k + 1) ⟨0, 0⟩)
theorem sdT_at (sl : List Slab) (xs : List Cell) (k : Nat) (hk : k + 1 < xs.length) : sdT sl xs k = sidesAt sl xs[k] xs[k + 1] := by
  unfold sdT
  simp [List.getD_eq_getElem?_getD, hk, show k < xs.length by omega]
def flatT (sl : List Slab) (xs : List Cell) : Nat → List Int
  | 0 => []
  | k + 1 => flatT sl xs k ++ [(sdT sl xs k).1, (sdT sl xs k).2.1]
theorem flatT_len (sl : List Slab) (xs : List Cell) : ∀ k, (flatT sl xs k).length = 2 * k
  | 0 => rfl
  | k + 1 => by rw [flatT, List.length_append, flatT_len sl xs k]; simp; omega
theorem sides_joint {sl : List Slab} {a b : Cell} (h : (sidesAt sl a b).2.2 = true) : (0 ≤ (sidesAt sl a b).1 ∧ (sidesAt sl a b).1 < sl.length) ∧ 0 ≤ (sidesAt sl a b).2.1 ∧ (sidesAt sl a b).2.1 < sl.length := by
  have key : ∀ c d : Cell, (sides2 sl c d).2.2 = true → (0 ≤ (sides2 sl c d).1 ∧ (sides2 sl c d).1 < sl.length) ∧ 0 ≤ (sides2 sl c d).2.1 ∧ (sides2 sl c d).2.1 < sl.length := by
    intro c d h
    unfold sides2 at h ⊢
    split at h
    · rename_i hc
      rw [if_pos hc]
      simp only [jointB, Bool.and_eq_true, decide_eq_true_eq] at h
      have e1 := atI_bounds sl c.x c.y
      have e2 := atI_bounds sl c.x (c.y - 1)
      refine ⟨⟨h.1.1, ?_⟩, h.1.2, ?_⟩ <;> (dsimp only; omega)
    · rename_i hc
      split at h
      · rename_i hc2
        rw [if_neg hc, if_pos hc2]
        simp only [jointB, Bool.and_eq_true, decide_eq_true_eq] at h
        have e1 := atI_bounds sl c.x c.y
        have e2 := atI_bounds sl (c.x - 1) c.y
        refine ⟨⟨h.1.1, ?_⟩, h.1.2, ?_⟩ <;> (dsimp only; omega)
      · cases h
  unfold sidesAt at h ⊢
  split at h
  · rename_i hc; rw [if_pos hc]; exact key _ _ h
  · rename_i hc; rw [if_neg hc]; exact key _ _ h
theorem crkN_at {sl : List Slab} {xs : List Cell} {n k : Nat} (h : crkN sl xs n = true) (hk : k < n) : (sdT sl xs k).2.2 = true := by
  unfold crkN at h
  rw [List.all_eq_true] at h
  exact h k (List.mem_range.2 hk)
theorem flatT_bounds {sl : List Slab} {xs : List Cell} {n : Nat} (h : crkN sl xs n = true) : ∀ k, k ≤ n → ∀ x ∈ flatT sl xs k, 0 ≤ x ∧ x < (sl.length : Int)
  | 0, _, x, hx => by cases hx
  | k + 1, hk, x, hx => by
    rw [flatT, List.mem_append] at hx
    rcases hx with hx | hx
    · exact flatT_bounds h k (by omega) x hx
    · obtain ⟨h1, h2⟩ := sides_joint (crkN_at h (k := k) (by omega))
      simp only [List.mem_cons, List.not_mem_nil, or_false] at hx
      rcases hx with rfl | rfl
      · exact h1
      · exact h2
def touchC (w h : Int) (sl : List Slab) (xs : List Cell) : Int := if cornC w h sl xs = 0 then (if crkB sl xs = true then 0 else 4) else cornC w h sl xs
def touchedBy (w h : Int) (sl : List Slab) (xs : List Cell) : List Int × Int := if touchC w h sl xs = 0 then (tlN (flatT sl xs (xs.length - 1)) sl.length, 0) else ([], touchC w h sl xs)
theorem touchedBy_len (w h : Int) (sl : List Slab) (xs : List Cell) : (touchedBy w h sl xs).1.length ≤ 60 := by
  unfold touchedBy
  split
  · rename_i hc
    unfold touchC at hc
    split at hc
    · rename_i h1
      exact Nat.le_trans (tlN_len _ _) (sqOk_len (cornC_ok h1).1)
    · exact absurd hc (by assumption)
  · simp
end Go.Proofs.Ytbmkhhhlnollmaa
