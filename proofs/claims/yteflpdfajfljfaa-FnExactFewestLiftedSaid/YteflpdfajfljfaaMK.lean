/-
What the laws do with rows of pairs; marks, with what they leave alone. Conditions: the rows are the call's own.
-/
import Derived.Test.YteflpdfajfljfaaSQ13
set_option linter.unusedVariables false
set_option linter.unusedSimpArgs false
set_option maxRecDepth 100000
namespace Go.Proofs.Yteflpdfajfljfaa
open Go.RowKit
/-- Two rows do not share a block. -/
def Apart (r v : Value) : Prop := ∀ j, r.ownBlock = some j → v.ownBlock = some j → False
theorem markSquareG_calls (w h : Int) (z : Value) (xs : List Slab) (W : World) (B : Nat) (hB : B ≤ W.heap.size) (hO : Own W B 127 Slab.c 4 z xs) (k : Int) (hk0 : 0 ≤ k) (hk1 : k ≤ 1000000) (hn : xs.length ≤ 1048576) :
    Calls Try.prog 17 #[.agg #[.int .i8 w, .int .i8 h, z], .int .i64 k] W fun e w' => e = .returned (.int .i64 (k + 4 * xs.length)) ∧ W.grownBy w' z.ownBlock :=
  (markSquare_calls w h z xs W B hB hO k hk0 hk1 hn).mono fun e w' ⟨he, hb, hg⟩ => ⟨he, hb.os, hb.tape, hb.output, hb.size, fun k hk hne => hg k hk (fun e => hne e.symm)⟩
theorem markInt64G_calls (xs : List Int) (v : Value) (w : World) (B : Nat) (hB : B ≤ w.heap.size) (hO : Own w B 2 i64c 1 v xs) (k : Int) (hk0 : 0 ≤ k) (hk1 : k ≤ 10000000) (hn : xs.length ≤ 1048576) :
    Calls Try.prog 18 #[v, .int .i64 k] w fun e w' => e = .returned (.int .i64 (k + xs.length)) ∧ Own w' B 2 i64c 1 v (marks k xs.length) ∧ Below B w w' ∧ w.grownBy w' v.ownBlock := by
  obtain ⟨A, cap, rfl, hl, hm, _⟩ := (hO.sl i64c_len).i64
  have HO := Lib.hid hO
  clear hO
  go_enter Try.func18, Try.ntmps18
  go_wp2_with fail
  go_loopw [1, 5] (fun t i wr => ∃ (j : Nat) (ys : List Int), j ≤ xs.length ∧ i = .int .i64 j ∧ t = .int .i64 (k + j) ∧ ys.length = xs.length ∧ ys.take j = marks k j ∧ Own wr B 2 i64c 1 (.slice A xs.length cap) ys ∧ Below B w wr ∧ w.grownBy wr (Value.slice A xs.length cap).ownBlock) (fun _ i _ => xs.length - (intOf i).toNat)
  case atStart => exact ⟨0, xs, by omega, rfl, by simp, rfl, by simp [marks], HO.out, Below.refl _ _, World.grownBy.refl _ _⟩
  case round =>
    obtain ⟨j, ys, hj, rfl, rfl, hyl, hyt, hO, hb, hgr⟩ := hrel
    have HY := Lib.hid hyl
    have HT := Lib.hid hyt
    have HO2 := Lib.hid hO
    clear hyl hyt hO
    by_cases hlt : j < xs.length
    · obtain ⟨g, cap', hv, hBg, hgl, _, _, hce, hfz⟩ := HO2.out.room i64c_len (by have := HY.out; omega)
      obtain ⟨rfl, _, rfl⟩ : A = some ⟨g, 0, none⟩ ∧ xs.length = ys.length ∧ cap = cap' := by
        injection hv with e1 e2 e3
        exact ⟨e1, e2, e3⟩
      clear hv
      obtain ⟨y, hy⟩ : ∃ y, ys[j]? = some y := ⟨ys[j]'(by have := HY.out; omega), by rw [List.getElem?_eq_getElem]⟩
      have q0 : wr.cell? ⟨g, j, none⟩ = some (.int .i64 y) := by simpa using hce j y hy 0 _ rfl
      clear hce hy
      have hEQ := Lib.hid (take_set_mark ys k j (by have := HY.out; omega) HT.out)
      go_wp2_with fail
      obtain ⟨hO3, hG⟩ := HO2.out.put i64c_len j (by have := HY.out; omega) (k + (j : Int))
      rw [Nat.mul_one] at hO3 hG
      go_roundw
      case rel => exact ⟨j + 1, ys.set j (k + (j : Int)), by omega, by go_num, by congr 1; omega, by rw [List.length_set]; exact HY.out, hEQ.out, hO3, hb.grown hG (Nat.le_trans hB hb.size) (fun q hq => by injection hq with hq; omega), hgr.trans hG⟩
      case measure => simp [intOf]; omega
    · obtain rfl : j = xs.length := by omega
      have hEQ := Lib.hid (show ys = marks k xs.length from by have h1 := HT.out; rw [List.take_of_length_le (by have := HY.out; omega)] at h1; exact h1)
      go_wp2_with fail
      go_ret
      exact ⟨rfl, hEQ.out ▸ HO2.out, hb, hgr⟩
def pairMarks (k : Int) (n : Nat) : List Pair := (List.range n).map fun (i : Nat) => ⟨k + 2 * (i : Int), k + 2 * (i : Int) + 1⟩
theorem pairMarks_len (k : Int) (n : Nat) : (pairMarks k n).length = n := by simp [pairMarks]
theorem pairMarks_succ (k : Int) (n : Nat) : pairMarks k (n + 1) = pairMarks k n ++ [⟨k + 2 * (n : Int), k + 2 * (n : Int) + 1⟩] := by simp [pairMarks, List.range_succ]
theorem pairMarks_set (ys : List Pair) (k : Int) (j : Nat) (hj : j < ys.length) (h : ys.take j = pairMarks k j) : (ys.set j ⟨k + 2 * (j : Int), k + 2 * (j : Int) + 1⟩).take (j + 1) = pairMarks k (j + 1) := by
  rw [List.take_succ_eq_append_getElem (by rw [List.length_set]; omega), List.take_set_of_le (Nat.le_refl j), h, List.getElem_set_self, pairMarks_succ]
theorem pairMarks_get (k : Int) (n j : Nat) (hj : j < n) : (pairMarks k n)[j]'(by rw [pairMarks_len]; exact hj) = ⟨k + 2 * (j : Int), k + 2 * (j : Int) + 1⟩ := by simp [pairMarks]
end Go.Proofs.Yteflpdfajfljfaa
