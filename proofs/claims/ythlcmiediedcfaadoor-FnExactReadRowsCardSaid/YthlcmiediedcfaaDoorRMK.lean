/-
Marks on own rows of rows, and whether they are held. Conditions: the row is the call's own and short.
-/
import Derived.Test.YthlcmiediedcfaaDoorApp
set_option linter.unusedVariables false
set_option linter.unusedSimpArgs false
set_option maxRecDepth 100000
namespace Go.Proofs.YthlcmiediedcfaaDoor
open Go.RowKit
def rowMark (k : Int) (i : Nat) : Row := ⟨IntKind.i8.wrap (k + 2 * (i : Int)), IntKind.i16.wrap (k + 2 * (i : Int) + 1)⟩
def rowMarks (k : Int) (n : Nat) : List Row := (List.range n).map (rowMark k)
theorem rowMarks_len (k : Int) (n : Nat) : (rowMarks k n).length = n := by simp [rowMarks]
theorem rowMarks_succ (k : Int) (n : Nat) : rowMarks k (n + 1) = rowMarks k n ++ [rowMark k n] := by simp [rowMarks, List.range_succ]
theorem rowMarks_set (ys : List Row) (k : Int) (j : Nat) (hj : j < ys.length) (h : ys.take j = rowMarks k j) : (ys.set j (rowMark k j)).take (j + 1) = rowMarks k (j + 1) := by
  rw [List.take_succ_eq_append_getElem (by rw [List.length_set]; omega), List.take_set_of_le (Nat.le_refl j), h, List.getElem_set_self, rowMarks_succ]
theorem rowMarks_get (k : Int) (n j : Nat) (hj : j < n) : (rowMarks k n)[j]'(by rw [rowMarks_len]; exact hj) = rowMark k j := by simp [rowMarks]
theorem markRowG_calls (xs : List Row) (v : Value) (w : World) (B : Nat) (hB : B ≤ w.heap.size) (hO : Own w B 72 Row.c 2 v xs) (k : Int) (hk0 : 0 ≤ k) (hk1 : k ≤ 10000000) (hn : xs.length ≤ 1048576) :
    Calls Tryd.prog 28 #[v, .int .i64 k] w fun e w' => e = .returned (.int .i64 (k + 2 * xs.length)) ∧ Own w' B 72 Row.c 2 v (rowMarks k xs.length) ∧ w.grownBy w' v.ownBlock := by
  obtain ⟨A, cap, rfl, hl, hm, _⟩ := (hO.sl Row.c_len).row
  have HO := Lib.hid hO
  clear hO
  go_enter Tryd.func28, Tryd.ntmps28
  go_wp2_with fail
  go_loopw [1, 5] (fun t i wr => ∃ (j : Nat) (ys : List Row), j ≤ xs.length ∧ i = .int .i64 j ∧ t = .int .i64 (k + 2 * j) ∧ ys.length = xs.length ∧ ys.take j = rowMarks k j ∧ Own wr B 72 Row.c 2 (.slice A xs.length cap) ys ∧ w.grownBy wr (Value.slice A xs.length cap).ownBlock) (fun _ i _ => xs.length - (intOf i).toNat)
  case atStart => exact ⟨0, xs, by omega, rfl, by simp, rfl, by simp [rowMarks], HO.out, World.grownBy.refl _ _⟩
  case round =>
    obtain ⟨j, ys, hj, rfl, rfl, hyl, hyt, hO, hgr⟩ := hrel
    have HY := Lib.hid hyl
    have HT := Lib.hid hyt
    have HO2 := Lib.hid hO
    clear hyl hO hyt
    by_cases hlt : j < xs.length
    · obtain ⟨g, cap', hv, hBg, hgl, _, _, hce, hfz⟩ := HO2.out.room Row.c_len (by have := HY.out; omega)
      obtain ⟨rfl, _, rfl⟩ : A = some ⟨g, 0, none⟩ ∧ xs.length = ys.length ∧ cap = cap' := by
        injection hv with e1 e2 e3
        exact ⟨e1, e2, e3⟩
      clear hv
      obtain ⟨y, hy⟩ : ∃ y, ys[j]? = some y := ⟨ys[j]'(by have := HY.out; omega), by rw [List.getElem?_eq_getElem]⟩
      have q0 : wr.cell? ⟨g, j * 2, none⟩ = some (.int .i8 y.n) := by simpa using hce j y hy 0 _ rfl
      have q1 : wr.cell? ⟨g, j * 2 + 1, none⟩ = some (.int .i16 y.w) := by simpa using hce j y hy 1 _ rfl
      have hEQ := Lib.hid (rowMarks_set ys k j (by have := HY.out; omega) HT.out)
      clear hce hy
      go_wp2_with fail
      obtain ⟨hO3, hG⟩ := HO2.out.put Row.c_len j (by have := HY.out; omega) (rowMark k j)
      go_roundw
      case rel => exact ⟨j + 1, _, by omega, by go_num, by congr 1; omega, (List.length_set ..).trans HY.out, hEQ.out, hO3, hgr.trans hG⟩
      case measure => simp [intOf]; omega
    · obtain rfl : j = xs.length := by omega
      have hEQ := Lib.hid (show ys = rowMarks k xs.length from by have h1 := HT.out; rw [List.take_of_length_le (by have := HY.out; omega)] at h1; exact h1)
      go_wp2_with fail
      go_ret
      exact ⟨rfl, hEQ.out ▸ HO2.out, hgr⟩
theorem heldRowS_calls (n : Nat) (v : Value) (w : World) (k : Int) (hs : Sl w w.heap.size Row.c 2 v (rowMarks k n)) (hk0 : 0 ≤ k) (hk1 : k ≤ 1000000) (hn : n ≤ 1000000) :
    Calls Tryd.prog 29 #[v, .int .i64 k] w fun e w' => e = .returned (.int .i64 (k + 2 * n)) ∧ Below w.heap.size w w' := by
  obtain ⟨A, cap, rfl, hl, hm, hcell⟩ := hs.row
  clear hs
  have hcell2 : ∀ j, j < n → ∃ b o, A = some ⟨b, o, none⟩ ∧ b < w.heap.size ∧ w.cell? ⟨b, o + j * 2, none⟩ = some (.int .i8 (IntKind.i8.wrap (k + 2 * (j : Int)))) ∧ w.cell? ⟨b, o + j * 2 + 1, none⟩ = some (.int .i16 (IntKind.i16.wrap (k + 2 * (j : Int) + 1))) := fun j hj => by
    obtain ⟨b, o, h1, h2, h3, h4⟩ := hcell j (by rw [rowMarks_len]; exact hj)
    exact ⟨b, o, h1, h2, by rw [rowMarks_get k n j hj] at h3; exact h3, by rw [rowMarks_get k n j hj] at h4; exact h4⟩
  clear hcell
  rw [rowMarks_len] at hl ⊢
  go_enter Tryd.func29, Tryd.ntmps29
  go_wp2_with fail
  go_loopw [1, 5] (fun t i wr => ∃ j : Nat, j ≤ n ∧ i = .int .i64 j ∧ t = .int .i64 (k + 2 * j) ∧ Below w.heap.size w wr) (fun _ i _ => n - (intOf i).toNat)
  case atStart => exact ⟨0, by omega, rfl, by simp, Below.refl _ _⟩
  case round =>
    obtain ⟨j, hj, rfl, rfl, hb⟩ := hrel
    by_cases hlt : j < n
    · obtain ⟨b, o, rfl, hbb, h0, h1⟩ := hcell2 j hlt
      have h0 := (hb.cell (p := ⟨b, _, none⟩) hbb).trans h0
      have h1 := (hb.cell (p := ⟨b, _, none⟩) hbb).trans h1
      clear hcell2
      have hne : ((IntKind.i8.wrap (k + 2 * (j : Int))) != (IntKind.i8.wrap (k + 2 * (j : Int)))) = false := by simp
      have hne2 : ((IntKind.i16.wrap (k + 2 * (j : Int) + 1)) != (IntKind.i16.wrap (k + 2 * (j : Int) + 1))) = false := by simp
      go_wp2_with fail
      go_roundw
      case rel => exact ⟨j + 1, by omega, by go_num, by congr 1; omega, hb⟩
      case measure => simp [intOf]; omega
    · obtain rfl : j = n := by omega
      go_wp2_with fail
      go_ret
      exact ⟨rfl, hb⟩
end Go.Proofs.YthlcmiediedcfaaDoor
