/-
Marks on own rows of slabs and cells. Conditions: the row is the call's own.
-/
import Derived.Test.YteflpdfajfljfaaApp
set_option linter.unusedVariables false
set_option linter.unusedSimpArgs false
set_option maxRecDepth 100000
namespace Go.Proofs.Yteflpdfajfljfaa
open Go.RowKit
theorem markSlabS_calls (xs : List Slab) (v : Value) (w : World) (B : Nat) (hB : B ≤ w.heap.size) (hO : Own w B 127 Slab.c 4 v xs) (k : Int) (hk0 : 0 ≤ k) (hk1 : k ≤ 10000000) (hn : xs.length ≤ 1048576) :
    Calls Try.prog 52 #[v, .int .i64 k] w fun e w' => e = .returned (.int .i64 (k + 4 * xs.length)) ∧ (∃ ys : List Slab, ys.length = xs.length ∧ Own w' B 127 Slab.c 4 v ys) ∧ Below B w w' ∧ w.grownBy w' v.ownBlock := by
  obtain ⟨A, cap, rfl, hl, hm, _⟩ := (hO.sl Slab.c_len).slab
  have HO := Lib.hid hO
  clear hO
  go_enter Try.func52, Try.ntmps52
  go_wp2_with fail
  go_loopw [1, 5] (fun t i wr => ∃ (j : Nat) (ys : List Slab), j ≤ xs.length ∧ i = .int .i64 j ∧ t = .int .i64 (k + 4 * j) ∧ ys.length = xs.length ∧ Own wr B 127 Slab.c 4 (.slice A xs.length cap) ys ∧ Below B w wr ∧ w.grownBy wr (Value.slice A xs.length cap).ownBlock) (fun _ i _ => xs.length - (intOf i).toNat)
  case atStart => exact ⟨0, xs, by omega, rfl, by simp, rfl, HO.out, Below.refl _ _, World.grownBy.refl _ _⟩
  case round =>
    obtain ⟨j, ys, hj, rfl, rfl, hyl, hO, hb, hgr⟩ := hrel
    have HY := Lib.hid hyl
    have HO2 := Lib.hid hO
    clear hyl hO
    by_cases hlt : j < xs.length
    · obtain ⟨g, cap', hv, hBg, hgl, _, _, hce, hfz⟩ := HO2.out.room Slab.c_len (by have := HY.out; omega)
      obtain ⟨rfl, _, rfl⟩ : A = some ⟨g, 0, none⟩ ∧ xs.length = ys.length ∧ cap = cap' := by
        injection hv with e1 e2 e3
        exact ⟨e1, e2, e3⟩
      clear hv
      obtain ⟨y, hy⟩ : ∃ y, ys[j]? = some y := ⟨ys[j]'(by have := HY.out; omega), by rw [List.getElem?_eq_getElem]⟩
      have q0 : wr.cell? ⟨g, j * 4, none⟩ = some (.int .i8 y.x) := by simpa using hce j y hy 0 _ rfl
      have q1 : wr.cell? ⟨g, j * 4 + 1, none⟩ = some (.int .i8 y.y) := by simpa using hce j y hy 1 _ rfl
      have q2 : wr.cell? ⟨g, j * 4 + 2, none⟩ = some (.int .i8 y.w) := by simpa using hce j y hy 2 _ rfl
      have q3 : wr.cell? ⟨g, j * 4 + 3, none⟩ = some (.int .i8 y.h) := by simpa using hce j y hy 3 _ rfl
      clear hce hy
      go_wp2_with fail
      obtain ⟨hO3, hG⟩ := HO2.out.put Slab.c_len j (by have := HY.out; omega) ⟨IntKind.i8.wrap (k + 4 * (j : Int)), IntKind.i8.wrap (k + 4 * (j : Int) + 1), IntKind.i8.wrap (k + 4 * (j : Int) + 1 + 1), IntKind.i8.wrap (k + 4 * (j : Int) + 1 + 1 + 1)⟩
      go_roundw
      case rel => exact ⟨j + 1, _, by omega, by go_num, by congr 1; omega, (List.length_set ..).trans HY.out, hO3, hb.grown hG (Nat.le_trans hB hb.size) (fun q hq => by injection hq with hq; omega), hgr.trans hG⟩
      case measure => simp [intOf]; omega
    · obtain rfl : j = xs.length := by omega
      go_wp2_with fail
      go_ret
      exact ⟨rfl, ⟨ys, HY.out, HO2.out⟩, hb, hgr⟩
def cellMarks (k : Int) (n : Nat) : List Cell := (List.range n).map (fun (i : Nat) => ⟨IntKind.i8.wrap (k + 2 * (i : Int)), IntKind.i8.wrap (k + 2 * (i : Int) + 1)⟩)
theorem cellMarks_len (k : Int) (n : Nat) : (cellMarks k n).length = n := by simp [cellMarks]
theorem cellMarks_succ (k : Int) (n : Nat) : cellMarks k (n + 1) = cellMarks k n ++ [⟨IntKind.i8.wrap (k + 2 * (n : Int)), IntKind.i8.wrap (k + 2 * (n : Int) + 1)⟩] := by simp [cellMarks, List.range_succ]
theorem cellMarks_set (ys : List Cell) (k : Int) (j : Nat) (hj : j < ys.length) (h : ys.take j = cellMarks k j) : (ys.set j ⟨IntKind.i8.wrap (k + 2 * (j : Int)), IntKind.i8.wrap (k + 2 * (j : Int) + 1)⟩).take (j + 1) = cellMarks k (j + 1) := by
  rw [List.take_succ_eq_append_getElem (by rw [List.length_set]; omega), List.take_set_of_le (Nat.le_refl j), h, List.getElem_set_self, cellMarks_succ]
theorem cellMarks_get (k : Int) (n j : Nat) (hj : j < n) : (cellMarks k n)[j]'(by rw [cellMarks_len]; exact hj) = ⟨IntKind.i8.wrap (k + 2 * (j : Int)), IntKind.i8.wrap (k + 2 * (j : Int) + 1)⟩ := by simp [cellMarks]
theorem markCellS_calls (xs : List Cell) (v : Value) (w : World) (B : Nat) (hB : B ≤ w.heap.size) (hO : Own w B 36 Cell.c 2 v xs) (k : Int) (hk0 : 0 ≤ k) (hk1 : k ≤ 10000000) (hn : xs.length ≤ 1048576) :
    Calls Try.prog 23 #[v, .int .i64 k] w fun e w' => e = .returned (.int .i64 (k + 2 * xs.length)) ∧ Own w' B 36 Cell.c 2 v (cellMarks k xs.length) ∧ Below B w w' ∧ w.grownBy w' v.ownBlock := by
  obtain ⟨A, cap, rfl, hl, hm, _⟩ := (hO.sl Cell.c_len).cell
  have HO := Lib.hid hO
  clear hO
  go_enter Try.func23, Try.ntmps23
  go_wp2_with fail
  go_loopw [1, 5] (fun t i wr => ∃ (j : Nat) (ys : List Cell), j ≤ xs.length ∧ i = .int .i64 j ∧ t = .int .i64 (k + 2 * j) ∧ ys.length = xs.length ∧ ys.take j = cellMarks k j ∧ Own wr B 36 Cell.c 2 (.slice A xs.length cap) ys ∧ Below B w wr ∧ w.grownBy wr (Value.slice A xs.length cap).ownBlock) (fun _ i _ => xs.length - (intOf i).toNat)
  case atStart => exact ⟨0, xs, by omega, rfl, by simp, rfl, by simp [cellMarks], HO.out, Below.refl _ _, World.grownBy.refl _ _⟩
  case round =>
    obtain ⟨j, ys, hj, rfl, rfl, hyl, hyt, hO, hb, hgr⟩ := hrel
    have HY := Lib.hid hyl
    have HT := Lib.hid hyt
    have HO2 := Lib.hid hO
    clear hyl hO hyt
    by_cases hlt : j < xs.length
    · obtain ⟨g, cap', hv, hBg, hgl, _, _, hce, hfz⟩ := HO2.out.room Cell.c_len (by have := HY.out; omega)
      obtain ⟨rfl, _, rfl⟩ : A = some ⟨g, 0, none⟩ ∧ xs.length = ys.length ∧ cap = cap' := by
        injection hv with e1 e2 e3
        exact ⟨e1, e2, e3⟩
      clear hv
      obtain ⟨y, hy⟩ : ∃ y, ys[j]? = some y := ⟨ys[j]'(by have := HY.out; omega), by rw [List.getElem?_eq_getElem]⟩
      have q0 : wr.cell? ⟨g, j * 2, none⟩ = some (.int .i8 y.x) := by simpa using hce j y hy 0 _ rfl
      have q1 : wr.cell? ⟨g, j * 2 + 1, none⟩ = some (.int .i8 y.y) := by simpa using hce j y hy 1 _ rfl
      have hEQ := Lib.hid (cellMarks_set ys k j (by have := HY.out; omega) HT.out)
      clear hce hy
      go_wp2_with fail
      obtain ⟨hO3, hG⟩ := HO2.out.put Cell.c_len j (by have := HY.out; omega) ⟨IntKind.i8.wrap (k + 2 * (j : Int)), IntKind.i8.wrap (k + 2 * (j : Int) + 1)⟩
      go_roundw
      case rel => exact ⟨j + 1, _, by omega, by go_num, by congr 1; omega, (List.length_set ..).trans HY.out, hEQ.out, hO3, hb.grown hG (Nat.le_trans hB hb.size) (fun q hq => by injection hq with hq; omega), hgr.trans hG⟩
      case measure => simp [intOf]; omega
    · obtain rfl : j = xs.length := by omega
      have hEQ := Lib.hid (show ys = cellMarks k xs.length from by have h1 := HT.out; rw [List.take_of_length_le (by have := HY.out; omega)] at h1; exact h1)
      go_wp2_with fail
      go_ret
      exact ⟨rfl, hEQ.out ▸ HO2.out, hb, hgr⟩
theorem heldCellS_calls (n : Nat) (v : Value) (w : World) (k : Int) (hs : Sl w w.heap.size Cell.c 2 v (cellMarks k n)) (hk0 : 0 ≤ k) (hk1 : k ≤ 10000000) (hn : n ≤ 1048576) :
    Calls Try.prog 24 #[v, .int .i64 k] w fun e w' => e = .returned (.int .i64 (k + 2 * n)) ∧ Below w.heap.size w w' := by
  obtain ⟨A, cap, rfl, hl, hm, hcell⟩ := hs.cell
  clear hs
  have hcell2 : ∀ j, j < n → ∃ b o, A = some ⟨b, o, none⟩ ∧ b < w.heap.size ∧ w.cell? ⟨b, o + j * 2, none⟩ = some (.int .i8 (IntKind.i8.wrap (k + 2 * (j : Int)))) ∧ w.cell? ⟨b, o + j * 2 + 1, none⟩ = some (.int .i8 (IntKind.i8.wrap (k + 2 * (j : Int) + 1))) := fun j hj => by
    obtain ⟨b, o, h1, h2, h3, h4⟩ := hcell j (by rw [cellMarks_len]; exact hj)
    exact ⟨b, o, h1, h2, by rw [cellMarks_get k n j hj] at h3; exact h3, by rw [cellMarks_get k n j hj] at h4; exact h4⟩
  clear hcell
  rw [cellMarks_len] at hl ⊢
  go_enter Try.func24, Try.ntmps24
  go_wp2_with fail
  go_loopw [1, 5] (fun t i wr => ∃ j : Nat, j ≤ n ∧ i = .int .i64 j ∧ t = .int .i64 (k + 2 * j) ∧ Below w.heap.size w wr) (fun _ i _ => n - (intOf i).toNat)
  case atStart => exact ⟨0, by omega, rfl, by simp, Below.refl _ _⟩
  case round =>
    obtain ⟨j, hj, rfl, rfl, hb⟩ := hrel
    by_cases hlt : j < n
    · obtain ⟨b, o, rfl, hbb, h0, h1⟩ := hcell2 j hlt
      have h0 := (hb.cell (p := ⟨b, _, none⟩) hbb).trans h0
      have h1 := (hb.cell (p := ⟨b, _, none⟩) hbb).trans h1
      clear hcell2
      have hne : (IntKind.i8.wrap (k + 2 * (j : Int)) != IntKind.i8.wrap (k + 2 * (j : Int))) = false := by simp
      have hne1 : (IntKind.i8.wrap (k + 2 * (j : Int) + 1) != IntKind.i8.wrap (k + 2 * (j : Int) + 1)) = false := by simp
      go_wp2_with fail
      go_roundw
      case rel => exact ⟨j + 1, by omega, by go_num, by congr 1; omega, hb⟩
      case measure => simp [intOf]; omega
    · obtain rfl : j = n := by omega
      go_wp2_with fail
      go_ret
      exact ⟨rfl, hb⟩
end Go.Proofs.Yteflpdfajfljfaa
