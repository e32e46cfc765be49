/-
All points of a square, in rows. Of the program. Conditions: the square is no larger than 12 by 12.
-/
import Derived.Test.YtbmkhhhlnollmaaLC1
set_option linter.unusedVariables false
set_option linter.unusedSimpArgs false
set_option maxRecDepth 100000
namespace Go.Proofs.Ytbmkhhhlnollmaa
open Go.RowKit
theorem corner1_calls (x y : Int) (W : World) : Calls Try.prog 131 #[.int .i64 x, .int .i64 y] W fun e w' => e = .returned (.bool true) ∧ W = w' := by
  go_enter Try.func131, Try.ntmps131
  go_wp2_with fail
  go_ret
  exact ⟨rfl, rfl⟩
set_option maxHeartbeats 2000000 in
theorem cells_calls (nw nh : Nat) (hw : nw ≤ 12) (hh : nh ≤ 12) (W : World) :
    Calls Try.prog 130 #[.agg #[.int .i8 ((nw : Int) + 1), .int .i8 ((nh : Int) + 1), .slice none 0 0], .func (.func 131) #[] #[]] W fun e w' => ∃ v, e = .returned v ∧ Own w' W.heap.size 36 Cell.c 2 v (ptsN nw (nh + 1)) ∧ Below W.heap.size W w' := by
  have eg := enters_of Try.func131 (by kernel_rfl) rfl
  have HB := Lib.hid (ext_alloc ((Below.refl W.heap.size W).alloc (Nat.le_refl _) (.cells #[.int .i8 ((nw : Int) + 1), .int .i8 ((nh : Int) + 1), .slice none 0 0] 34)) (.cells #[] 36))
  have K := Lib.hid ((Bk.new W 34 #[.int .i8 ((nw : Int) + 1), .int .i8 ((nh : Int) + 1), .slice none 0 0] W.heap.size rfl).alloc (.cells #[] 36))
  have hO0 := Lib.hid (Own.empty (α := Cell) (c := Cell.c) (sz := 2) (E := 36) (W.alloc (.cells #[.int .i8 ((nw : Int) + 1), .int .i8 ((nh : Int) + 1), .slice none 0 0] 34)) (W.heap.size + 1) (W.heap.size + 1) (by simp) (by simp))
  have k0 := K.out.cell 0 _ rfl
  have k1 := K.out.cell 1 _ rfl
  have wc := wrapIn ((nh : Int) + 1) (by omega) (by omega)
  have wd := wrapIn ((nw : Int) + 1) (by omega) (by omega)
  go_enter Try.func130, Try.ntmps130
  go_wp2_with fail
  clear k0 k1
  generalize (W.alloc (.cells #[.int .i8 ((nw : Int) + 1), .int .i8 ((nh : Int) + 1), .slice none 0 0] 34)).alloc (.cells #[] 36) = W1 at *
  go_loopw [5, 6, 7, 12, 18] (fun o _ _ y _ wr => ∃ k : Nat, k ≤ nh + 1 ∧ y = .int .i64 (k : Int) ∧ Own wr (W.heap.size + 1) 36 Cell.c 2 o (ptsN nw k) ∧ Bk wr W.heap.size 34 #[.int .i8 ((nw : Int) + 1), .int .i8 ((nh : Int) + 1), .slice none 0 0] ∧ Below W.heap.size W wr) (fun _ _ _ y _ _ => nh + 1 - (intOf y).toNat)
  case atStart => exact ⟨0, by omega, rfl, hO0.out, K.out, HB.out⟩
  case round =>
    obtain ⟨k, hk, rfl, hO, hK, hb⟩ := hrel
    have HO := Lib.hid hO
    have HK := Lib.hid hK
    have HBo := Lib.hid hb
    have a0 := hK.cell 0 _ rfl
    have a1 := hK.cell 1 _ rfl
    clear hO hb hK
    by_cases hlt : k < nh + 1
    · have hk2 : k ≤ nh := by omega
      have hkd : decide ((k : Int) < (nh : Int) + 1) = true := by rw [decide_eq_true_eq]; omega
      go_wp2_with fail
      go_loopw [5, 7, 18] (fun o _ x w2 => ∃ m : Nat, m ≤ nw + 1 ∧ x = .int .i64 (m : Int) ∧ Own w2 (W.heap.size + 1) 36 Cell.c 2 o (ptsN nw k ++ rowC k m) ∧ Bk w2 W.heap.size 34 #[.int .i8 ((nw : Int) + 1), .int .i8 ((nh : Int) + 1), .slice none 0 0] ∧ Below W.heap.size W w2) (fun _ _ x _ => nw + 1 - (intOf x).toNat)
      case atStart => exact ⟨0, by omega, rfl, by simpa [rowC] using HO.out, HK.out, HBo.out⟩
      case round =>
        obtain ⟨m, hm, rfl, hO2, hK2, hb2⟩ := hrel
        have HO2 := Lib.hid hO2
        have HK2 := Lib.hid hK2
        have HB2 := Lib.hid hb2
        clear hO2 hb2 hK2
        by_cases hlt2 : m < nw + 1
        · have hm2 : m ≤ nw := by omega
          have hmd : decide ((m : Int) < (nw : Int) + 1) = true := by rw [decide_eq_true_eq]; omega
          have hw8 : IntKind.i8.wrap (k : Int) = (k : Int) := wrap8In' _ (by omega) (by omega)
          have hw9 : IntKind.i8.wrap (m : Int) = (m : Int) := wrap8In' _ (by omega) (by omega)
          have hst := Lib.hid (show ptsN nw k ++ rowC k (m + 1) = (ptsN nw k ++ rowC k m) ++ [⟨(m : Int), (k : Int)⟩] from by rw [rowC_succ, List.append_assoc])
          have hle := Lib.hid (ptsN_le nw k m hw (by omega) (by omega))
          generalize ptsN nw k ++ rowC k m = out at *
          have hba := Lib.hid (HB2.out.alloc HB2.out.size (.cells #[.int .i8 (m : Int), .int .i8 (k : Int)] 36))
          go_wp2_with fail
          first
            | (refine (corner1_calls _ _ _).mono ?_)
            | (rw [eg, Oper.upon_enter]; refine (corner1_calls _ _ _).mono ?_)
          rintro e w1 ⟨rfl, rfl⟩
          go_wp2_with (at_builtin; refine push_cellat rfl _ _ rfl (W.heap.size + 1) out _ rfl (HO2.out.alloc _) _ ⟨(m : Int), (k : Int)⟩ rfl (Bk.new _ _ _ _ (by simp)) (by have := hle.out; omega) (Nat.le_trans HK2.out.lt (by simp)) ?_)
          intro v3 w3 hO3 hG3 hat
          have hb3 := Lib.hid (hba.out.grown hG3 hba.out.size (fun j hj => Nat.le_trans (by omega) (HO2.out.base j hj)))
          have hk3 := Lib.hid (show Bk w3 W.heap.size 34 #[.int .i8 ((nw : Int) + 1), .int .i8 ((nh : Int) + 1), .slice none 0 0] from (hG3.block _ (HK2.out.alloc _).lt (fun he => by have := HO2.out.base _ he.symm; omega)).trans (HK2.out.alloc _))
          have hO3 := Lib.hid hO3
          clear hG3 hat
          go_wp2_with fail
          go_roundw
          case rel => exact ⟨m + 1, by omega, by go_num, by rw [hst.out]; exact hO3.out, hk3.out, hb3.out⟩
          case measure => first | (simp [intOf]; done) | (simp [intOf]; omega)
        · obtain rfl : m = nw + 1 := by omega
          have hst := Lib.hid (ptsN_succ nw k)
          have hmd : decide (((nw + 1 : Nat) : Int) < (nw : Int) + 1) = false := by rw [decide_eq_false_iff_not]; omega
          rw [← hst.out] at HO2
          go_wp2_with fail
          go_roundw
          case rel => exact ⟨k + 1, by omega, by go_num, HO2.out, HK2.out, HB2.out⟩
          case measure => first | (simp [intOf]; done) | (simp [intOf]; omega)
    · obtain rfl : k = nh + 1 := by omega
      have hkd : decide (((nh + 1 : Nat) : Int) < (nh : Int) + 1) = false := by rw [decide_eq_false_iff_not]; omega
      go_wp2_with fail
      go_ret
      exact ⟨_, rfl, HO.out.more (by omega), HBo.out⟩
theorem corners_calls (nw nh : Nat) (hw : nw ≤ 12) (hh : nh ≤ 12) (z : Value) (W : World) :
    Calls Try.prog 78 #[.agg #[.int .i8 (nw : Int), .int .i8 (nh : Int), z]] W fun e w' => ∃ v, e = .returned v ∧ Own w' W.heap.size 36 Cell.c 2 v (ptsN nw (nh + 1)) ∧ Below W.heap.size W w' := by
  have HB := Lib.hid ((Below.refl W.heap.size W).alloc (Nat.le_refl _) (.cells #[.int .i8 (nw : Int), .int .i8 (nh : Int), z] 34))
  have K := Lib.hid (Bk.new W 34 #[.int .i8 (nw : Int), .int .i8 (nh : Int), z] W.heap.size rfl)
  have k0 := K.out.cell 0 _ rfl
  have k1 := K.out.cell 1 _ rfl
  have wc : IntKind.i8.wrap ((nh : Int) + 1) = (nh : Int) + 1 := wrap8In' _ (by omega) (by omega)
  have wd : IntKind.i8.wrap ((nw : Int) + 1) = (nw : Int) + 1 := wrap8In' _ (by omega) (by omega)
  go_enter Try.func78, Try.ntmps78
  go_wp2_with fail
  refine (cells_calls nw nh hw hh _).mono ?_
  rintro e w1 ⟨v, rfl, hO, hb⟩
  go_wp2_with fail
  go_ret
  exact ⟨v, rfl, hO.more HB.out.size, ext_trans HB.out hb⟩
end Go.Proofs.Ytbmkhhhlnollmaa
