/-
Sort and compact of a row of the call's own; the codes on the two sides of a joint. Conditions: points lie on the square. PRINTED by wip/mk_tb1.py.
-/
import Derived.Shelf.SortG.Plain
import Derived.Shelf.SlGeneric
import Derived.Shelf.SlicesG.CompactI
import Derived.Ground.SlgnProg
import Derived.Sort.OwnSortedInts
import Derived.Lib.RowBridge
import Derived.Test.YtbmkhhhlnollmaaTBL
import Derived.Test.YtbmkhhhlnollmaaDF1
set_option linter.unusedVariables false
set_option linter.unusedSimpArgs false
set_option maxRecDepth 100000
namespace Go.Proofs.Ytbmkhhhlnollmaa
open Go.RowKit
section
open Go.Shelf
shelf_lay_g SlLaysN.n53 Slgn 53 at Try 82 as Try.sortL
shelf_lay_g SlLaysN.n43 Slgn 43 at Try 83 as Try.compL
end
theorem flat_i64 (xs : List Int) : xs.flatMap i64c = xs.map (Value.int .i64) := by
  induction xs with
  | nil => rfl
  | cons x xs ih => rw [List.flatMap_cons, ih]; rfl
theorem sortI64_calls (xs : List Int) (g cap B : Nat) (W : World) (hO : Own W B 2 i64c 1 (.slice (some ⟨g, 0, none⟩) xs.length cap) xs) (hn : xs.length ≤ 4000000000000000000) :
    Calls Try.prog 82 #[.slice (some ⟨g, 0, none⟩) xs.length cap] W fun e w' => e = .returned (.tuple #[]) ∧ Own w' B 2 i64c 1 (.slice (some ⟨g, 0, none⟩) xs.length cap) (xs.mergeSort fun x y => decide (x ≤ y)) ∧ W.grownBy w' (some g) := by
  rcases hO.out.2 with ⟨h0, _⟩ | ⟨g', cap', cur, hv, hb, hh, hle, hcap, hsz, htk⟩
  · cases h0
  · injection hv with e1 e2 e3
    injection e1 with e1
    injection e1 with e1
    subst e1; subst e3
    have hH := holds_of_blockI (ss := xs) hh (by rw [Nat.mul_one] at htk; rw [htk, flat_i64])
    have hc := AnyG.slices_Sort_int Try.sortL g 0 cap xs W hH (Array.getElem?_eq_some_iff.1 hh).1 (by omega)
    change Calls Try.prog 82 _ _ _ at hc
    refine hc.mono ?_
    rintro e w' ⟨rfl, n, os, rfl⟩
    refine ⟨rfl, ⟨?_⟩, grownBy_sortedI _⟩
    have hl : (xs.mergeSort fun x y => decide (x ≤ y)).length = xs.length := List.length_mergeSort xs
    have := ownsRow_sortedI (w := W) (n := n) (os := os) hl hb hh hle hcap hsz
    rw [flat_i64, hl]
    exact this
theorem compactI64_calls (xs : List Int) (g cap B : Nat) (W : World) (hO : Own W B 2 i64c 1 (.slice (some ⟨g, 0, none⟩) xs.length cap) xs) (hn : xs.length ≤ 4000000000000000000) :
    Calls Try.prog 83 #[.slice (some ⟨g, 0, none⟩) xs.length cap] W fun e w' => e = .returned (.slice (some ⟨g, 0, none⟩) (Lib.compact xs).length cap) ∧ Own w' B 2 i64c 1 (.slice (some ⟨g, 0, none⟩) (Lib.compact xs).length cap) (Lib.compact xs) ∧ W.grownBy w' (some g) := by
  rcases hO.out.2 with ⟨h0, _⟩ | ⟨g', cap', cur, hv, hb, hh, hle, hcap, hsz, htk⟩
  · cases h0
  · injection hv with e1 e2 e3
    injection e1 with e1
    injection e1 with e1
    subst e1; subst e3
    have hH := holds_of_blockI (ss := xs) hh (by rw [Nat.mul_one] at htk; rw [htk, flat_i64])
    have hc := AnyG.slices_Compact_int Try.compL g 0 cap xs W hH (by omega) hle
    change Calls Try.prog 83 _ _ _ at hc
    refine hc.mono ?_
    rintro e w' ⟨rfl, q, rfl⟩
    have hcl := Lib.compact_length_le xs
    have hl : (Lib.compact xs ++ List.replicate (xs.length - (Lib.compact xs).length) 0).length = xs.length := by rw [List.length_append, List.length_replicate]; omega
    have hgr := grownBy_sortedI (w := W) (g := g) (n := q) (os := #[]) (Lib.compact xs ++ List.replicate (xs.length - (Lib.compact xs).length) 0).toArray
    have how := ownsRow_sortedI (w := W) (n := q) (os := #[]) hl hb hh hle hcap hsz
    have he : ∀ w : World, Go.Sort.grow w #[] = w := fun w => by simp [Go.Sort.grow]
    rw [he] at hgr how
    refine ⟨rfl, ?_, hgr⟩
    have hO2 : Own (Go.Sort.putRow (Value.int .i64) (Go.Sort.ahead W q) g 0 (Lib.compact xs ++ List.replicate (xs.length - (Lib.compact xs).length) 0).toArray) B 2 i64c 1 (.slice (some ⟨g, 0, none⟩) xs.length cap) (Lib.compact xs ++ List.replicate (xs.length - (Lib.compact xs).length) 0) := ⟨by rw [flat_i64, hl]; exact how⟩
    have := hO2.cutHi i64c_len (k := (Lib.compact xs).length) (by rw [hl]; exact hcl)
    rwa [List.take_left] at this
theorem atI_range {w h : Int} {sl : List Slab} (hl : ∀ t ∈ sl, liesB w h t = true) {x y : Int} (h0 : 0 ≤ atI sl x y) : (0 ≤ x ∧ x < w) ∧ 0 ≤ y ∧ y < h := by
  rcases Classical.em (x < 0 ∨ y < 0 ∨ w ≤ x ∨ h ≤ y) with ho | ho
  · have := atI_out hl ho; omega
  · omega
theorem joint_shape {w h : Int} {sl : List Slab} (hl : ∀ t ∈ sl, liesB w h t = true) (hw : w ≤ 12 ∧ h ≤ 12) {a b : Cell} (hj : (sidesAt sl a b).2.2 = true) : ∃ xn yn m : Nat, xn < 12 ∧ yn < 12 ∧ m < 12 ∧
    (((m : Int) = (yn : Int) - 1 ∧ (sidesAt sl a b).1 = atI sl (xn : Int) (yn : Int) ∧ (sidesAt sl a b).2.1 = atI sl (xn : Int) (m : Int) ∧ ((a = ⟨(xn : Int), (yn : Int)⟩ ∧ b = ⟨(xn : Int) + 1, (yn : Int)⟩) ∨ (b = ⟨(xn : Int), (yn : Int)⟩ ∧ a = ⟨(xn : Int) + 1, (yn : Int)⟩))) ∨
     ((m : Int) = (xn : Int) - 1 ∧ (sidesAt sl a b).1 = atI sl (xn : Int) (yn : Int) ∧ (sidesAt sl a b).2.1 = atI sl (m : Int) (yn : Int) ∧ ((a = ⟨(xn : Int), (yn : Int)⟩ ∧ b = ⟨(xn : Int), (yn : Int) + 1⟩) ∨ (b = ⟨(xn : Int), (yn : Int)⟩ ∧ a = ⟨(xn : Int), (yn : Int) + 1⟩)))) := by
  have key : ∀ c d : Cell, (sides2 sl c d).2.2 = true → ∃ xn yn m : Nat, xn < 12 ∧ yn < 12 ∧ m < 12 ∧
      (((m : Int) = (yn : Int) - 1 ∧ (sides2 sl c d).1 = atI sl (xn : Int) (yn : Int) ∧ (sides2 sl c d).2.1 = atI sl (xn : Int) (m : Int) ∧ (c = ⟨(xn : Int), (yn : Int)⟩ ∧ d = ⟨(xn : Int) + 1, (yn : Int)⟩)) ∨
       ((m : Int) = (xn : Int) - 1 ∧ (sides2 sl c d).1 = atI sl (xn : Int) (yn : Int) ∧ (sides2 sl c d).2.1 = atI sl (m : Int) (yn : Int) ∧ (c = ⟨(xn : Int), (yn : Int)⟩ ∧ d = ⟨(xn : Int), (yn : Int) + 1⟩))) := by
    intro c d h
    obtain ⟨cx, cy⟩ := c
    obtain ⟨dx, dy⟩ := d
    unfold sides2 at h ⊢
    split at h
    · rename_i hc
      rw [if_pos hc]
      obtain ⟨e1, e2⟩ := hc
      simp only at e1 e2
      subst e1; subst e2
      simp only [jointB, Bool.and_eq_true, decide_eq_true_eq] at h
      have r1 := atI_range hl h.1.1
      have r2 := atI_range hl h.1.2
      obtain ⟨xn, rfl⟩ : ∃ n : Nat, cx = (n : Int) := ⟨cx.toNat, by omega⟩
      obtain ⟨yn, rfl⟩ : ∃ n : Nat, cy = (n : Int) := ⟨cy.toNat, by omega⟩
      obtain ⟨m, hm⟩ : ∃ n : Nat, (n : Int) = (yn : Int) - 1 := ⟨yn - 1, by omega⟩
      exact ⟨xn, yn, m, by omega, by omega, by omega, .inl ⟨hm, rfl, by rw [hm], rfl, rfl⟩⟩
    · rename_i hc
      split at h
      · rename_i hc2
        rw [if_neg hc, if_pos hc2]
        obtain ⟨e1, e2⟩ := hc2
        simp only at e1 e2
        subst e1; subst e2
        simp only [jointB, Bool.and_eq_true, decide_eq_true_eq] at h
        have r1 := atI_range hl h.1.1
        have r2 := atI_range hl h.1.2
        obtain ⟨xn, rfl⟩ : ∃ n : Nat, cx = (n : Int) := ⟨cx.toNat, by omega⟩
        obtain ⟨yn, rfl⟩ : ∃ n : Nat, cy = (n : Int) := ⟨cy.toNat, by omega⟩
        obtain ⟨m, hm⟩ : ∃ n : Nat, (n : Int) = (xn : Int) - 1 := ⟨xn - 1, by omega⟩
        exact ⟨xn, yn, m, by omega, by omega, by omega, .inr ⟨hm, rfl, by rw [hm], rfl, rfl⟩⟩
      · cases h
  unfold sidesAt at hj ⊢
  split at hj
  · rename_i hc
    rw [if_pos hc]
    obtain ⟨xn, yn, m, h1, h2, h3, h4⟩ := key _ _ hj
    refine ⟨xn, yn, m, h1, h2, h3, ?_⟩
    rcases h4 with ⟨g1, g2, g3, g4, g5⟩ | ⟨g1, g2, g3, g4, g5⟩
    · exact .inl ⟨g1, g2, g3, .inr ⟨g4, g5⟩⟩
    · exact .inr ⟨g1, g2, g3, .inr ⟨g4, g5⟩⟩
  · rename_i hc
    rw [if_neg hc]
    obtain ⟨xn, yn, m, h1, h2, h3, h4⟩ := key _ _ hj
    refine ⟨xn, yn, m, h1, h2, h3, ?_⟩
    rcases h4 with ⟨g1, g2, g3, g4, g5⟩ | ⟨g1, g2, g3, g4, g5⟩
    · exact .inl ⟨g1, g2, g3, .inl ⟨g4, g5⟩⟩
    · exact .inr ⟨g1, g2, g3, .inl ⟨g4, g5⟩⟩
set_option maxHeartbeats 1000000 in
theorem sSidesA (sl : List Slab) (xn yn m : Nat) (hx : xn < 12) (hy : yn < 12) (hm12 : m < 12) (hm : (m : Int) = (yn : Int) - 1) (gg : Nat) (W : World) (hg : Bk W gg 85 (gcells (gridL sl))) :
    Calls Try.prog 80 #[.pointer (some ⟨gg, 0, none⟩), .agg #[.int .i8 ((xn : Int)), .int .i8 ((yn : Int))], .agg #[.int .i8 ((xn : Int) + 1), .int .i8 ((yn : Int))]] W fun e w' => e = .returned (.tuple #[.int .i64 (atI sl (xn : Int) (m : Int) + 1), .int .i64 (atI sl (xn : Int) (yn : Int) + 1)]) ∧ Below W.heap.size W w' := by
  have HB := Lib.hid (ext_alloc ((Below.refl W.heap.size W).alloc (Nat.le_refl _) (.cells #[.int .i8 ((xn : Int)), .int .i8 ((yn : Int))] 36)) (.cells #[.int .i8 ((xn : Int) + 1), .int .i8 ((yn : Int))] 36))
  have c0 := ((hg.alloc (.cells #[.int .i8 ((xn : Int)), .int .i8 ((yn : Int))] 36)).alloc (.cells #[.int .i8 ((xn : Int) + 1), .int .i8 ((yn : Int))] 36)).cell (yn * 12 + xn) _ (gcells_get _ _ _ (grid_get sl xn yn hx hy))
  have c1 := ((hg.alloc (.cells #[.int .i8 ((xn : Int)), .int .i8 ((yn : Int))] 36)).alloc (.cells #[.int .i8 ((xn : Int) + 1), .int .i8 ((yn : Int))] 36)).cell (m * 12 + xn) _ (gcells_get _ _ _ (grid_get sl xn m (by omega) (by omega)))
  have hlt := hg.lt
  have hwp : IntKind.i8.wrap ((yn : Int) - 1) = (m : Int) := by rw [hm]; exact wrap8In' _ (by omega) (by omega)
  have n0 : (0 : Int) ≤ (xn : Int) := by omega
  have n1 : (xn : Int) < 12 := by omega
  have n2 : (0 : Int) ≤ (yn : Int) := by omega
  have n3 : (yn : Int) < 12 := by omega
  have n4 : (0 : Int) ≤ (m : Int) := by omega
  have n5 : (m : Int) < 12 := by omega
  have f0 : decide ((xn : Int) + 1 < (xn : Int)) = false := by rw [decide_eq_false_iff_not]; omega
  have f1 : decide ((yn : Int) < (yn : Int)) = false := by rw [decide_eq_false_iff_not]; omega
  generalize atI sl (xn : Int) (yn : Int) + 1 = A at *
  generalize atI sl (xn : Int) (m : Int) + 1 = B at *
  clear hg hm hx hy hm12
  go_enter Try.func80, Try.ntmps80
  go_wp2_with fail
  go_quiet (fail)
  go_wp2_with fail
  go_ret2
  exact ⟨rfl, ext_drewN HB.out _⟩
set_option maxHeartbeats 1000000 in
theorem sSidesB (sl : List Slab) (xn yn m : Nat) (hx : xn < 12) (hy : yn < 12) (hm12 : m < 12) (hm : (m : Int) = (yn : Int) - 1) (gg : Nat) (W : World) (hg : Bk W gg 85 (gcells (gridL sl))) :
    Calls Try.prog 80 #[.pointer (some ⟨gg, 0, none⟩), .agg #[.int .i8 ((xn : Int) + 1), .int .i8 ((yn : Int))], .agg #[.int .i8 ((xn : Int)), .int .i8 ((yn : Int))]] W fun e w' => e = .returned (.tuple #[.int .i64 (atI sl (xn : Int) (m : Int) + 1), .int .i64 (atI sl (xn : Int) (yn : Int) + 1)]) ∧ Below W.heap.size W w' := by
  have HB := Lib.hid (ext_alloc ((Below.refl W.heap.size W).alloc (Nat.le_refl _) (.cells #[.int .i8 ((xn : Int) + 1), .int .i8 ((yn : Int))] 36)) (.cells #[.int .i8 ((xn : Int)), .int .i8 ((yn : Int))] 36))
  have c0 := ((hg.alloc (.cells #[.int .i8 ((xn : Int) + 1), .int .i8 ((yn : Int))] 36)).alloc (.cells #[.int .i8 ((xn : Int)), .int .i8 ((yn : Int))] 36)).cell (yn * 12 + xn) _ (gcells_get _ _ _ (grid_get sl xn yn hx hy))
  have c1 := ((hg.alloc (.cells #[.int .i8 ((xn : Int) + 1), .int .i8 ((yn : Int))] 36)).alloc (.cells #[.int .i8 ((xn : Int)), .int .i8 ((yn : Int))] 36)).cell (m * 12 + xn) _ (gcells_get _ _ _ (grid_get sl xn m (by omega) (by omega)))
  have hlt := hg.lt
  have hwp : IntKind.i8.wrap ((yn : Int) - 1) = (m : Int) := by rw [hm]; exact wrap8In' _ (by omega) (by omega)
  have n0 : (0 : Int) ≤ (xn : Int) := by omega
  have n1 : (xn : Int) < 12 := by omega
  have n2 : (0 : Int) ≤ (yn : Int) := by omega
  have n3 : (yn : Int) < 12 := by omega
  have n4 : (0 : Int) ≤ (m : Int) := by omega
  have n5 : (m : Int) < 12 := by omega
  have f0 : decide ((xn : Int) < (xn : Int) + 1) = true := by rw [decide_eq_true_eq]; omega
  have f1 : decide ((yn : Int) < (yn : Int)) = false := by rw [decide_eq_false_iff_not]; omega
  generalize atI sl (xn : Int) (yn : Int) + 1 = A at *
  generalize atI sl (xn : Int) (m : Int) + 1 = B at *
  clear hg hm hx hy hm12
  go_enter Try.func80, Try.ntmps80
  go_wp2_with fail
  go_quiet (fail)
  go_wp2_with fail
  go_ret2
  exact ⟨rfl, ext_drewN HB.out _⟩
set_option maxHeartbeats 1000000 in
theorem sSidesC (sl : List Slab) (xn yn m : Nat) (hx : xn < 12) (hy : yn < 12) (hm12 : m < 12) (hm : (m : Int) = (xn : Int) - 1) (gg : Nat) (W : World) (hg : Bk W gg 85 (gcells (gridL sl))) :
    Calls Try.prog 80 #[.pointer (some ⟨gg, 0, none⟩), .agg #[.int .i8 ((xn : Int)), .int .i8 ((yn : Int))], .agg #[.int .i8 ((xn : Int)), .int .i8 ((yn : Int) + 1)]] W fun e w' => e = .returned (.tuple #[.int .i64 (atI sl (m : Int) (yn : Int) + 1), .int .i64 (atI sl (xn : Int) (yn : Int) + 1)]) ∧ Below W.heap.size W w' := by
  have HB := Lib.hid (ext_alloc ((Below.refl W.heap.size W).alloc (Nat.le_refl _) (.cells #[.int .i8 ((xn : Int)), .int .i8 ((yn : Int))] 36)) (.cells #[.int .i8 ((xn : Int)), .int .i8 ((yn : Int) + 1)] 36))
  have c0 := ((hg.alloc (.cells #[.int .i8 ((xn : Int)), .int .i8 ((yn : Int))] 36)).alloc (.cells #[.int .i8 ((xn : Int)), .int .i8 ((yn : Int) + 1)] 36)).cell (yn * 12 + xn) _ (gcells_get _ _ _ (grid_get sl xn yn hx hy))
  have c1 := ((hg.alloc (.cells #[.int .i8 ((xn : Int)), .int .i8 ((yn : Int))] 36)).alloc (.cells #[.int .i8 ((xn : Int)), .int .i8 ((yn : Int) + 1)] 36)).cell (yn * 12 + m) _ (gcells_get _ _ _ (grid_get sl m yn (by omega) (by omega)))
  have hlt := hg.lt
  have hwp : IntKind.i8.wrap ((xn : Int) - 1) = (m : Int) := by rw [hm]; exact wrap8In' _ (by omega) (by omega)
  have n0 : (0 : Int) ≤ (xn : Int) := by omega
  have n1 : (xn : Int) < 12 := by omega
  have n2 : (0 : Int) ≤ (yn : Int) := by omega
  have n3 : (yn : Int) < 12 := by omega
  have n4 : (0 : Int) ≤ (m : Int) := by omega
  have n5 : (m : Int) < 12 := by omega
  have f0 : decide ((xn : Int) < (xn : Int)) = false := by rw [decide_eq_false_iff_not]; omega
  have f1 : decide ((yn : Int) + 1 < (yn : Int)) = false := by rw [decide_eq_false_iff_not]; omega
  have f2 : (((yn : Int) : Int) == (yn : Int) + 1) = false := by rw [beq_eq_false_iff_ne]; omega
  generalize atI sl (xn : Int) (yn : Int) + 1 = A at *
  generalize atI sl (m : Int) (yn : Int) + 1 = B at *
  clear hg hm hx hy hm12
  go_enter Try.func80, Try.ntmps80
  go_wp2_with fail
  go_quiet (fail)
  go_wp2_with fail
  go_ret2
  exact ⟨rfl, ext_drewN HB.out _⟩
set_option maxHeartbeats 1000000 in
theorem sSidesD (sl : List Slab) (xn yn m : Nat) (hx : xn < 12) (hy : yn < 12) (hm12 : m < 12) (hm : (m : Int) = (xn : Int) - 1) (gg : Nat) (W : World) (hg : Bk W gg 85 (gcells (gridL sl))) :
    Calls Try.prog 80 #[.pointer (some ⟨gg, 0, none⟩), .agg #[.int .i8 ((xn : Int)), .int .i8 ((yn : Int) + 1)], .agg #[.int .i8 ((xn : Int)), .int .i8 ((yn : Int))]] W fun e w' => e = .returned (.tuple #[.int .i64 (atI sl (m : Int) (yn : Int) + 1), .int .i64 (atI sl (xn : Int) (yn : Int) + 1)]) ∧ Below W.heap.size W w' := by
  have HB := Lib.hid (ext_alloc ((Below.refl W.heap.size W).alloc (Nat.le_refl _) (.cells #[.int .i8 ((xn : Int)), .int .i8 ((yn : Int) + 1)] 36)) (.cells #[.int .i8 ((xn : Int)), .int .i8 ((yn : Int))] 36))
  have c0 := ((hg.alloc (.cells #[.int .i8 ((xn : Int)), .int .i8 ((yn : Int) + 1)] 36)).alloc (.cells #[.int .i8 ((xn : Int)), .int .i8 ((yn : Int))] 36)).cell (yn * 12 + xn) _ (gcells_get _ _ _ (grid_get sl xn yn hx hy))
  have c1 := ((hg.alloc (.cells #[.int .i8 ((xn : Int)), .int .i8 ((yn : Int) + 1)] 36)).alloc (.cells #[.int .i8 ((xn : Int)), .int .i8 ((yn : Int))] 36)).cell (yn * 12 + m) _ (gcells_get _ _ _ (grid_get sl m yn (by omega) (by omega)))
  have hlt := hg.lt
  have hwp : IntKind.i8.wrap ((xn : Int) - 1) = (m : Int) := by rw [hm]; exact wrap8In' _ (by omega) (by omega)
  have n0 : (0 : Int) ≤ (xn : Int) := by omega
  have n1 : (xn : Int) < 12 := by omega
  have n2 : (0 : Int) ≤ (yn : Int) := by omega
  have n3 : (yn : Int) < 12 := by omega
  have n4 : (0 : Int) ≤ (m : Int) := by omega
  have n5 : (m : Int) < 12 := by omega
  have f0 : decide ((xn : Int) < (xn : Int)) = false := by rw [decide_eq_false_iff_not]; omega
  have f1 : decide ((yn : Int) < (yn : Int) + 1) = true := by rw [decide_eq_true_eq]; omega
  have f2 : (((yn : Int) + 1 : Int) == (yn : Int)) = false := by rw [beq_eq_false_iff_ne]; omega
  generalize atI sl (xn : Int) (yn : Int) + 1 = A at *
  generalize atI sl (m : Int) (yn : Int) + 1 = B at *
  clear hg hm hx hy hm12
  go_enter Try.func80, Try.ntmps80
  go_wp2_with fail
  go_quiet (fail)
  go_wp2_with fail
  go_ret2
  exact ⟨rfl, ext_drewN HB.out _⟩
theorem sSides_calls {w h : Int} {sl : List Slab} (hl : ∀ t ∈ sl, liesB w h t = true) (hw : w ≤ 12 ∧ h ≤ 12) {a b : Cell} (hj : (sidesAt sl a b).2.2 = true) (gg : Nat) (W : World) (hg : Bk W gg 85 (gcells (gridL sl))) :
    Calls Try.prog 80 #[.pointer (some ⟨gg, 0, none⟩), a.v, b.v] W fun e w' => e = .returned (.tuple #[.int .i64 ((sidesAt sl a b).2.1 + 1), .int .i64 ((sidesAt sl a b).1 + 1)]) ∧ Below W.heap.size W w' := by
  obtain ⟨xn, yn, m, hx, hy, hm, hc⟩ := joint_shape hl hw hj
  rcases hc with ⟨hm2, e1, e2, hab⟩ | ⟨hm2, e1, e2, hab⟩
  · rw [e1, e2]
    rcases hab with ⟨rfl, rfl⟩ | ⟨rfl, rfl⟩
    · exact sSidesA sl xn yn m hx hy hm hm2 gg W hg
    · exact sSidesB sl xn yn m hx hy hm hm2 gg W hg
  · rw [e1, e2]
    rcases hab with ⟨rfl, rfl⟩ | ⟨rfl, rfl⟩
    · exact sSidesC sl xn yn m hx hy hm hm2 gg W hg
    · exact sSidesD sl xn yn m hx hy hm hm2 gg W hg
end Go.Proofs.Ytbmkhhhlnollmaa
