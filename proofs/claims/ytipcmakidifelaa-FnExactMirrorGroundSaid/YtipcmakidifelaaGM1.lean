/-
Cells are sorted. Conditions: none.
-/
import Derived.Shelf.SlSortCmp.NoneTotal
import Derived.Ground.SlsfProg
import Derived.Shelf.Lay
import Derived.Sort.OwnSorted
import Derived.Test.YtipcmakidifelaaGS8
set_option linter.unusedVariables false
set_option linter.unusedSimpArgs false
set_option maxRecDepth 100000
namespace Go.Proofs.Ytipcmakidifelaa
open Go.RowKit Go.Sort Go.Lib Go.Shelf
section
open Go.Shelf
shelf_lay_g SlLaysF0.n6 Slsf 6 at Try 60 as Try.sortCells
end
def cmp8 (a b : Int) : Int := if a < b then -1 else if b < a then 1 else 0
def cmpK (a b : Cell) : Int := if cmp8 a.y b.y = 0 then cmp8 a.x b.x else cmp8 a.y b.y
theorem isNaN8_calls (a : Int) (W : World) : Calls Try.prog 99 #[.int .i8 a] W fun e w' => e = .returned (.bool false) ∧ W = w' := by
  have h : (a != a) = false := by simp
  go_enter Try.func99, Try.ntmps99
  go_wp2_with fail
  go_ret
  exact ⟨rfl, rfl⟩
theorem compare8_calls (a b : Int) (W : World) : Calls Try.prog 83 #[.int .i8 a, .int .i8 b] W fun e w' => e = .returned (.int .i64 (cmp8 a b)) ∧ W = w' := by
  have qn := Lib.hid (fun a => isNaN8_calls a W)
  have hC := Lib.hid (show cmp8 a b = if a < b then -1 else if b < a then 1 else 0 from rfl)
  by_cases h1 : a < b
  · rw [if_pos h1] at hC
    have hd : decide (a < b) = true := decide_eq_true h1
    clear h1
    go_enter Try.func83, Try.ntmps83
    go_wp2_with (go_at_call 99; with_reducible refine (qn.out _).mono ?_; rintro e w' ⟨rfl, rfl⟩)
    go_ret
    exact ⟨ret_int hC.out.symm, rfl⟩
  · have hd : decide (a < b) = false := decide_eq_false h1
    rw [if_neg h1] at hC
    clear h1
    by_cases h2 : b < a
    · rw [if_pos h2] at hC
      have hd2 : decide (b < a) = true := decide_eq_true h2
      clear h2
      go_enter Try.func83, Try.ntmps83
      go_wp2_with (go_at_call 99; with_reducible refine (qn.out _).mono ?_; rintro e w' ⟨rfl, rfl⟩)
      go_ret
      exact ⟨ret_int hC.out.symm, rfl⟩
    · rw [if_neg h2] at hC
      have hd2 : decide (b < a) = false := decide_eq_false h2
      clear h2
      go_enter Try.func83, Try.ntmps83
      go_wp2_with (go_at_call 99; with_reducible refine (qn.out _).mono ?_; rintro e w' ⟨rfl, rfl⟩)
      go_ret
      exact ⟨ret_int hC.out.symm, rfl⟩
theorem or2_calls (a b : Int) (g : Nat) (W : World) (hg : Bk W g 3 #[.int .i64 a, .int .i64 b]) :
    Calls Try.prog 82 #[.slice (some ⟨g, 0, none⟩) 2 2] W fun e w' => e = .returned (.int .i64 (if a = 0 then b else a)) ∧ W = w' := by
  have c0 := hg.cell 0 _ rfl
  have c1 := hg.cell 1 _ rfl
  have hC := Lib.hid (show (if a = 0 then b else a) = if a = 0 then b else a from rfl)
  clear hg
  by_cases h1 : a = 0
  · subst h1
    by_cases h2 : b = 0
    · subst h2
      go_enter Try.func82, Try.ntmps82
      go_wp2_with fail
      refine wp_loop_rounds 3 ?_
      rw [rounds_succ]
      go_wp2_with fail
      rw [rounds_succ]
      go_wp2_with fail
      rw [rounds_succ]
      go_wp2_with fail
      go_ret
      exact ⟨rfl, rfl⟩
    · have hb : (b != 0) = true := by simpa using h2
      have hb2 : (b == 0) = false := by simpa using h2
      go_enter Try.func82, Try.ntmps82
      go_wp2_with fail
      refine wp_loop_rounds 3 ?_
      rw [rounds_succ]
      go_wp2_with fail
      rw [rounds_succ]
      go_wp2_with fail
      go_ret
      exact ⟨rfl, rfl⟩
  · have hb : (a != 0) = true := by simpa using h1
    have hb2 : (a == 0) = false := by simpa using h1
    go_enter Try.func82, Try.ntmps82
    go_wp2_with fail
    refine wp_loop_rounds 3 ?_
    rw [rounds_succ]
    go_wp2_with fail
    go_ret
    exact ⟨rfl, rfl⟩
abbrev CmS (g1 g2 : Nat) (x y : Cell) (w' : World) : Prop := w'.cell? ⟨g1, 0, none⟩ = some (.int .i8 x.x) ∧ w'.cell? ⟨g1, 1, none⟩ = some (.int .i8 x.y) ∧ w'.cell? ⟨g2, 0, none⟩ = some (.int .i8 y.x) ∧ w'.cell? ⟨g2, 1, none⟩ = some (.int .i8 y.y)
theorem compareCells_calls (x y : Cell) (W : World) : Calls Try.prog 61 #[.agg #[.int .i8 x.x, .int .i8 x.y], .agg #[.int .i8 y.x, .int .i8 y.y]] W fun e w' => e = .returned (.int .i64 (cmpK x y)) ∧ ∃ q os', w' = grow (W.drewN q) os' := by
  have K0 := Lib.hid ((Bk.new W 38 #[.int .i8 x.x, .int .i8 x.y] W.heap.size rfl).alloc (.cells #[.int .i8 y.x, .int .i8 y.y] 38))
  have K1 := Lib.hid (Bk.new (W.alloc (.cells #[.int .i8 x.x, .int .i8 x.y] 38)) 38 #[.int .i8 y.x, .int .i8 y.y] (W.heap.size + 1) (by simp))
  obtain ⟨W1, hW1⟩ : ∃ W1, W1 = (W.alloc (.cells #[.int .i8 x.x, .int .i8 x.y] 38)).alloc (.cells #[.int .i8 y.x, .int .i8 y.y] 38) := ⟨_, rfl⟩
  have HW := Lib.hid hW1
  rw [← hW1] at K0 K1
  go_enter Try.func61, Try.ntmps61
  go_wp2_with fail
  rw [← hW1]
  clear hW1
  have HS := Lib.hid (fun (w' : World) (he : w'.heap = W1.heap) => (show CmS W.heap.size (W.heap.size + 1) x y w' from ⟨(K0.out.at_ he).cell 0 _ rfl, (K0.out.at_ he).cell 1 _ rfl, (K1.out.at_ he).cell 0 _ rfl, (K1.out.at_ he).cell 1 _ rfl⟩))
  have HSa := Lib.hid (fun (o : Obj) (w' : World) (he : w'.heap = (W1.alloc o).heap) => (show CmS W.heap.size (W.heap.size + 1) x y w' from ⟨((K0.out.alloc o).at_ he).cell 0 _ rfl, ((K0.out.alloc o).at_ he).cell 1 _ rfl, ((K1.out.alloc o).at_ he).cell 0 _ rfl, ((K1.out.alloc o).at_ he).cell 1 _ rfl⟩))
  have qo := Lib.hid (fun g W' hg => or2_calls (cmp8 x.y y.y) (cmp8 x.x y.x) g W' hg)
  have hR := Lib.hid (show cmpK x y = if cmp8 x.y y.y = 0 then cmp8 x.x y.x else cmp8 x.y y.y from rfl)
  rw [← hR.out] at qo
  obtain ⟨R, hRR⟩ : ∃ R, R = cmpK x y := ⟨_, rfl⟩
  rw [← hRR] at qo
  have HRR := Lib.hid (ret_int (k := .i64) hRR)
  clear hRR hR
  refine wp_region_held_drew (S := (CmS W.heap.size (W.heap.size + 1) x y)) (by kernel_rfl) ?r30_1_hS0 (fun hHeld => ?r30_1_rest)
  case r30_1_hS0 => (try dsimp only); first | assumption | exact HS.out _ rfl | exact HSa.out _ _ rfl
  refine wpAnyH_take (i := 0) (v := ?r30_2_vv) (by (simp only [List.getElem?_toArray, List.getElem?_cons_succ, List.getElem?_cons_zero]; rfl)) (by kernel_rfl) (by kernel_rfl) (by kernel_rfl) (by exact fun _ _ _ h => h) (Or.inl ⟨by rfl, ?r30_2_hy⟩) (by assumption) ?r30_2_rest
  case r30_2_hy => intro w hSw; (try dsimp only at hSw); (go_simp <;> (with_reducible rfl))
  try simp only [Act.put, List.setIfInBounds_toArray, List.set_cons_zero, List.set_cons_succ]
  refine wpAnyH_take (i := 1) (v := ?r30_3_vv) (by (simp only [List.getElem?_toArray, List.getElem?_cons_succ, List.getElem?_cons_zero]; rfl)) (by kernel_rfl) (by kernel_rfl) (by kernel_rfl) (by exact fun _ _ _ h => h) (Or.inl ⟨by rfl, ?r30_3_hy⟩) (by assumption) ?r30_3_rest
  case r30_3_hy => intro w hSw; (try dsimp only at hSw); (go_simp <;> (with_reducible rfl))
  try simp only [Act.put, List.setIfInBounds_toArray, List.set_cons_zero, List.set_cons_succ]
  refine wpAnyH_take (i := 2) (v := ?r30_4_vv) (by (simp only [List.getElem?_toArray, List.getElem?_cons_succ, List.getElem?_cons_zero]; rfl)) (by kernel_rfl) (by kernel_rfl) (by kernel_rfl) (by exact fun _ _ _ h => h) (Or.inl ⟨by rfl, ?r30_4_hy⟩) (by assumption) ?r30_4_rest
  case r30_4_hy => intro w hSw; (try dsimp only at hSw); (go_simp <;> (with_reducible rfl))
  try simp only [Act.put, List.setIfInBounds_toArray, List.set_cons_zero, List.set_cons_succ]
  refine wpAnyH_take (i := 3) (v := ?r30_5_vv) (by (simp only [List.getElem?_toArray, List.getElem?_cons_succ, List.getElem?_cons_zero]; rfl)) (by kernel_rfl) (by kernel_rfl) (by kernel_rfl) (by exact fun _ _ _ h => h) (Or.inl ⟨by rfl, ?r30_5_hy⟩) (by assumption) ?r30_5_rest
  case r30_5_hy => intro w hSw; (try dsimp only at hSw); (go_simp <;> (with_reducible rfl))
  try simp only [Act.put, List.setIfInBounds_toArray, List.set_cons_zero, List.set_cons_succ]
  refine wpAnyH_take (i := 5) (v := ?r30_6_vv) (by (simp only [List.getElem?_toArray, List.getElem?_cons_succ, List.getElem?_cons_zero]; rfl)) (by kernel_rfl) (by kernel_rfl) (by kernel_rfl) (by exact fun _ _ _ h => h) (Or.inl ⟨by rfl, ?r30_6_hy⟩) (by assumption) ?r30_6_rest
  case r30_6_hy => intro w hSw; (try dsimp only at hSw); (go_simp <;> (with_reducible rfl))
  try simp only [Act.put, List.setIfInBounds_toArray, List.set_cons_zero, List.set_cons_succ]
  refine wpAnyH_take (i := 6) (v := ?r30_7_vv) (by (simp only [List.getElem?_toArray, List.getElem?_cons_succ, List.getElem?_cons_zero]; rfl)) (by kernel_rfl) (by kernel_rfl) (by kernel_rfl) (by exact fun _ _ _ h => h) (Or.inl ⟨by rfl, ?r30_7_hy⟩) (by assumption) ?r30_7_rest
  case r30_7_hy => intro w hSw; (try dsimp only at hSw); (go_simp <;> (with_reducible rfl))
  try simp only [Act.put, List.setIfInBounds_toArray, List.set_cons_zero, List.set_cons_succ]
  refine wpAnyH_take (i := 7) (v := ?r30_8_vv) (by (simp only [List.getElem?_toArray, List.getElem?_cons_succ, List.getElem?_cons_zero]; rfl)) (by kernel_rfl) (by kernel_rfl) (by kernel_rfl) (by exact fun _ _ _ h => h) (Or.inl ⟨by rfl, ?r30_8_hy⟩) (by assumption) ?r30_8_rest
  case r30_8_hy => intro w hSw; (try dsimp only at hSw); (go_simp <;> (with_reducible rfl))
  try simp only [Act.put, List.setIfInBounds_toArray, List.set_cons_zero, List.set_cons_succ]
  refine wpAnyH_take (i := 8) (v := ?r30_9_vv) (by (simp only [List.getElem?_toArray, List.getElem?_cons_succ, List.getElem?_cons_zero]; rfl)) (by kernel_rfl) (by kernel_rfl) (by kernel_rfl) (by exact fun _ _ _ h => h) (Or.inl ⟨by rfl, ?r30_9_hy⟩) (by assumption) ?r30_9_rest
  case r30_9_hy => intro w hSw; (try dsimp only at hSw); (go_simp <;> (with_reducible rfl))
  try simp only [Act.put, List.setIfInBounds_toArray, List.set_cons_zero, List.set_cons_succ]
  refine wpAnyH_ready (rs := [4]) (by kernel_rfl) (by simp) ?_
  refine (AllReadyH.cons (by (simp only [List.getElem?_toArray, List.getElem?_cons_succ, List.getElem?_cons_zero]; rfl)) (fun K hK => ?_) AllReadyH.nil)
  go_simp
  (go_at_call 83; with_reducible refine (compare8_calls _ _ _).mono ?_; rintro e w7 ⟨rfl, rfl⟩)
  try go_wp2_with fail
  refine hK.out _ _ ?r30_10_hS (fun hHeld => ?r30_10_r)
  case r30_10_hS => (try dsimp only); first | assumption | exact HS.out _ rfl | exact HSa.out _ _ rfl
  clear hK K
  try simp only [Act.put, List.setIfInBounds_toArray, List.set_cons_zero, List.set_cons_succ]
  refine wpAnyH_ready (rs := [9]) (by kernel_rfl) (by simp) ?_
  refine (AllReadyH.cons (by (simp only [List.getElem?_toArray, List.getElem?_cons_succ, List.getElem?_cons_zero]; rfl)) (fun K hK => ?_) AllReadyH.nil)
  go_simp
  (go_at_call 83; with_reducible refine (compare8_calls _ _ _).mono ?_; rintro e w7 ⟨rfl, rfl⟩)
  try go_wp2_with fail
  refine hK.out _ _ ?r30_11_hS (fun hHeld => ?r30_11_r)
  case r30_11_hS => (try dsimp only); first | assumption | exact HS.out _ rfl | exact HSa.out _ _ rfl
  clear hK K
  try simp only [Act.put, List.setIfInBounds_toArray, List.set_cons_zero, List.set_cons_succ]
  refine wpAnyH_ready (rs := [10]) (by kernel_rfl) (by simp) ?_
  refine (AllReadyH.cons (by (simp only [List.getElem?_toArray, List.getElem?_cons_succ, List.getElem?_cons_zero]; rfl)) (fun K hK => ?_) AllReadyH.nil)
  go_simp
  skip
  try go_wp2_with fail
  refine hK.out _ _ ?r30_12_hS (fun hHeld => ?r30_12_r)
  case r30_12_hS => (try dsimp only); first | assumption | exact HS.out _ rfl | exact HSa.out _ _ rfl
  clear hK K
  try simp only [Act.put, List.setIfInBounds_toArray, List.set_cons_zero, List.set_cons_succ]
  refine wpAnyH_ready (rs := [11]) (by kernel_rfl) (by simp) ?_
  refine (AllReadyH.cons (by (simp only [List.getElem?_toArray, List.getElem?_cons_succ, List.getElem?_cons_zero]; rfl)) (fun K hK => ?_) AllReadyH.nil)
  go_simp
  (go_at_call 82; refine (qo.out W1.heap.size _ (by first | exact Bk.new _ _ _ W1.heap.size rfl | exact Bk.drw (Bk.new _ _ _ W1.heap.size rfl))).mono ?_; rintro e w9 ⟨rfl, rfl⟩)
  try go_wp2_with fail
  refine hK.out _ _ ?r30_13_hS (fun hHeld => ?r30_13_r)
  case r30_13_hS => (try dsimp only); first | assumption | exact HS.out _ rfl | exact HSa.out _ _ rfl
  clear hK K
  try simp only [Act.put, List.setIfInBounds_toArray, List.set_cons_zero, List.set_cons_succ]
  refine wpAnyH_take (i := 12) (v := ?r30_14_vv) (by (simp only [List.getElem?_toArray, List.getElem?_cons_succ, List.getElem?_cons_zero]; rfl)) (by kernel_rfl) (by kernel_rfl) (by kernel_rfl) (by exact fun _ _ _ h => h) (Or.inl ⟨by rfl, ?r30_14_hy⟩) (by assumption) ?r30_14_rest
  case r30_14_hy => intro w hSw; (try dsimp only at hSw); (go_simp <;> (with_reducible rfl))
  try simp only [Act.put, List.setIfInBounds_toArray, List.set_cons_zero, List.set_cons_succ]
  refine wpAnyH_done (by kernel_rfl) ?_ _
  go_wp2_with fail
  go_ret
  exact ⟨HRR.out, 1, #[_, _, _], by rw [HW.out]; simp [alloc_eq_grow, grow_grow]; rfl⟩
end Go.Proofs.Ytipcmakidifelaa
