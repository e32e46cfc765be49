/-
All points of a square, in rows. Of the reference. Conditions: the square is no larger than 12 by 12.
-/
import Derived.Test.YtbmkhhhlnollmaaSM5
set_option linter.unusedVariables false
set_option linter.unusedSimpArgs false
set_option maxRecDepth 100000
namespace Go.Proofs.Ytbmkhhhlnollmaa
open Go.RowKit
def rowC (y n : Nat) : List Cell := (List.range n).map fun (x : Nat) => ⟨(x : Int), (y : Int)⟩
def ptsN (w y : Nat) : List Cell := (List.range y).flatMap fun y => rowC y (w + 1)
theorem rowC_len (y n : Nat) : (rowC y n).length = n := by simp [rowC]
theorem rowC_succ (y n : Nat) : rowC y (n + 1) = rowC y n ++ [⟨(n : Int), (y : Int)⟩] := by simp [rowC, List.range_succ]
theorem ptsN_succ (w y : Nat) : ptsN w (y + 1) = ptsN w y ++ rowC y (w + 1) := by simp [ptsN, List.range_succ]
theorem ptsN_len (w : Nat) : ∀ y, (ptsN w y).length = y * (w + 1)
  | 0 => by simp [ptsN]
  | y + 1 => by rw [ptsN_succ, List.length_append, ptsN_len w y, rowC_len, Nat.add_mul, Nat.one_mul]
theorem ptsN_le (w y k : Nat) (hw : w ≤ 12) (hy : y ≤ 13) (hk : k ≤ 13) : (ptsN w y ++ rowC y k).length ≤ 1000 := by
  rw [List.length_append, ptsN_len, rowC_len]
  have : y * (w + 1) ≤ 13 * 13 := Nat.mul_le_mul hy (by omega)
  omega
theorem ptsN_mem (w y : Nat) (p : Cell) (h : p ∈ ptsN w y) : (0 ≤ p.x ∧ p.x ≤ w) ∧ (0 ≤ p.y ∧ p.y < y) := by
  simp only [ptsN, rowC, List.mem_flatMap, List.mem_range, List.mem_map] at h
  obtain ⟨b, hb, a, ha, rfl⟩ := h
  exact ⟨⟨by show (0 : Int) ≤ (a : Int); omega, by show (a : Int) ≤ w; omega⟩, by show (0 : Int) ≤ (b : Int); omega, by show (b : Int) < y; omega⟩
set_option maxHeartbeats 2000000 in
theorem points_calls (b o : Nat) (nw nh : Nat) (hw : nw ≤ 12) (hh : nh ≤ 12) (z : Value) (W : World) (ha : Sq.at_ W b o nw nh z) :
    Calls Try.prog 77 #[.pointer (some ⟨b, o, none⟩)] W fun e w' => ∃ v, e = .returned v ∧ Own w' W.heap.size 36 Cell.c 2 v (ptsN nw (nh + 1)) ∧ Below W.heap.size W w' := by
  have HA := Lib.hid ha
  have HB := Lib.hid ((Below.refl W.heap.size W).alloc (Nat.le_refl _) (.cells #[] 36))
  have hO0 := Lib.hid (Own.empty (α := Cell) (c := Cell.c) (sz := 2) (E := 36) W W.heap.size W.heap.size rfl (Nat.le_refl _))
  clear ha
  go_enter Try.func77, Try.ntmps77
  go_wp2_with fail
  go_loopw [3, 4, 5] (fun o y _ wr => ∃ k : Nat, k ≤ nh + 1 ∧ y = .int .i8 (k : Int) ∧ Own wr W.heap.size 36 Cell.c 2 o (ptsN nw k) ∧ Below W.heap.size W wr) (fun _ y _ _ => nh + 1 - (intOf y).toNat)
  case atStart => exact ⟨0, by omega, rfl, hO0.out, HB.out⟩
  case round =>
    obtain ⟨k, hk, rfl, hO, hb⟩ := hrel
    have HO := Lib.hid hO
    have HBo := Lib.hid hb
    have a0 := (HA.out.ext hb).c0
    have a1 := (HA.out.ext hb).c1
    clear hO hb
    by_cases hlt : k < nh + 1
    · have hk2 : k ≤ nh := by omega
      have hkd : decide ((k : Int) ≤ (nh : Int)) = true := by rw [decide_eq_true_eq]; omega
      have hw8 : IntKind.i8.wrap ((k : Int) + 1) = (k : Int) + 1 := wrap8In' _ (by omega) (by omega)
      go_wp2_with fail
      go_loopw [3, 5] (fun o x w2 => ∃ m : Nat, m ≤ nw + 1 ∧ x = .int .i8 (m : Int) ∧ Own w2 W.heap.size 36 Cell.c 2 o (ptsN nw k ++ rowC k m) ∧ Below W.heap.size W w2) (fun _ x _ => nw + 1 - (intOf x).toNat)
      case atStart => exact ⟨0, by omega, rfl, by simpa [rowC] using HO.out, HBo.out⟩
      case round =>
        obtain ⟨m, hm, rfl, hO2, hb2⟩ := hrel
        have HO2 := Lib.hid hO2
        have HB2 := Lib.hid hb2
        have a2 := (HA.out.ext hb2).c0
        have a3 := (HA.out.ext hb2).c1
        clear hO2 hb2
        by_cases hlt2 : m < nw + 1
        · have hm2 : m ≤ nw := by omega
          have hmd : decide ((m : Int) ≤ (nw : Int)) = true := by rw [decide_eq_true_eq]; omega
          have hw9 : IntKind.i8.wrap ((m : Int) + 1) = (m : Int) + 1 := wrap8In' _ (by omega) (by omega)
          have hst := Lib.hid (show ptsN nw k ++ rowC k (m + 1) = (ptsN nw k ++ rowC k m) ++ [⟨(m : Int), (k : Int)⟩] from by rw [rowC_succ, List.append_assoc])
          have hle := Lib.hid (ptsN_le nw k m hw (by omega) (by omega))
          generalize ptsN nw k ++ rowC k m = out at *
          have hba := Lib.hid (HB2.out.alloc HB2.out.size (.cells #[.int .i8 (m : Int), .int .i8 (k : Int)] 36))
          go_wp2_with (at_builtin; refine push_cellat rfl _ _ rfl W.heap.size out _ rfl (HO2.out.alloc _) _ ⟨(m : Int), (k : Int)⟩ rfl (Bk.new _ _ _ _ (by simp)) (by have := hle.out; omega) hba.out.size ?_)
          intro v3 w3 hO3 hG3 hat
          have hb3 := Lib.hid (hba.out.grown hG3 hba.out.size (fun j hj => HO2.out.base j hj))
          have hO3 := Lib.hid hO3
          clear hG3 hat
          go_wp2_with fail
          go_roundw
          case rel => exact ⟨m + 1, by omega, by go_num, by rw [hst.out]; exact hO3.out, hb3.out⟩
          case measure => first | (simp [intOf]; done) | (simp [intOf]; omega)
        · obtain rfl : m = nw + 1 := by omega
          have hst := Lib.hid (ptsN_succ nw k)
          have hmd : decide (((nw + 1 : Nat) : Int) ≤ (nw : Int)) = false := by rw [decide_eq_false_iff_not]; omega
          rw [← hst.out] at HO2
          go_wp2_with fail
          go_roundw
          case rel => exact ⟨k + 1, by omega, by go_num, HO2.out, HB2.out⟩
          case measure => first | (simp [intOf]; done) | (simp [intOf]; omega)
    · obtain rfl : k = nh + 1 := by omega
      have hkd : decide (((nh + 1 : Nat) : Int) ≤ (nh : Int)) = false := by rw [decide_eq_false_iff_not]; omega
      go_wp2_with fail
      go_ret
      exact ⟨_, rfl, HO.out, HBo.out⟩
end Go.Proofs.Ytbmkhhhlnollmaa
