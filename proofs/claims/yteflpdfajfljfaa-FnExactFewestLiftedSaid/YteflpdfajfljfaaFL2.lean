/-
All cells of a square, of both. Conditions: the square is no larger than 12 by 12.
-/
import Derived.Test.YteflpdfajfljfaaFL1
import Derived.Test.YteflpdfajfljfaaGR1
import Derived.Test.YteflpdfajfljfaaSQ12
set_option linter.unusedVariables false
set_option linter.unusedSimpArgs false
set_option maxRecDepth 100000
namespace Go.Proofs.Yteflpdfajfljfaa
open Go.RowKit
def rowS (y n : Nat) : List Cell := (List.range n).map fun (x : Nat) => ⟨(x : Int), (y : Int)⟩
def ptsS (w y : Nat) : List Cell := (List.range y).flatMap fun y => rowS y w
theorem rowS_len (y n : Nat) : (rowS y n).length = n := by simp [rowS]
theorem rowS_succ (y n : Nat) : rowS y (n + 1) = rowS y n ++ [⟨(n : Int), (y : Int)⟩] := by simp [rowS, List.range_succ]
theorem ptsS_succ (w y : Nat) : ptsS w (y + 1) = ptsS w y ++ rowS y w := by simp [ptsS, List.range_succ]
theorem ptsS_len (w : Nat) : ∀ y, (ptsS w y).length = y * w
  | 0 => by simp [ptsS]
  | y + 1 => by rw [ptsS_succ, List.length_append, ptsS_len w y, rowS_len, Nat.add_mul, Nat.one_mul]
theorem ptsS_le (w y k : Nat) (hw : w ≤ 12) (hy : y ≤ 12) (hk : k ≤ 12) : (ptsS w y ++ rowS y k).length ≤ 1000 := by
  rw [List.length_append, ptsS_len, rowS_len]
  have := Nat.mul_le_mul hy hw
  omega
theorem ptsS_mem (w y : Nat) (p : Cell) : p ∈ ptsS w y ↔ gpB (w : Int) (y : Int) p = true := by
  obtain ⟨px, py⟩ := p
  rw [gpB_true]
  simp only [ptsS, rowS, List.mem_flatMap, List.mem_range, List.mem_map, Cell.mk.injEq]
  constructor
  · rintro ⟨b, hb, a, ha, rfl, rfl⟩
    omega
  · rintro ⟨h1, h2, h3, h4⟩
    exact ⟨py.toNat, by omega, px.toNat, by omega, by omega, by omega⟩
theorem ahead1_calls (x y : Int) (W : World) : Calls Try.prog 189 #[.int .i64 x, .int .i64 y] W fun e w' => e = .returned (.bool true) ∧ W = w' := by
  go_enter Try.func189, Try.ntmps189
  go_wp2_with fail
  go_ret
  exact ⟨rfl, rfl⟩
set_option maxHeartbeats 2000000 in
theorem cellsS_calls (nw nh : Nat) (hw : nw ≤ 12) (hh : nh ≤ 12) (z : Value) (W : World) :
    Calls Try.prog 188 #[.agg #[.int .i8 (nw : Int), .int .i8 (nh : Int), z], .func (.func 189) #[] #[]] W (RetRowC W 36 Cell.c 2 (ptsS nw nh)) := by
  have eg := enters_of Try.func189 (by kernel_rfl) rfl
  have HB := Lib.hid (ext_alloc ((Below.refl W.heap.size W).alloc (Nat.le_refl _) (.cells #[.int .i8 (nw : Int), .int .i8 (nh : Int), z] 34)) (.cells #[] 36))
  have K := Lib.hid ((Bk.new W 34 #[.int .i8 (nw : Int), .int .i8 (nh : Int), z] W.heap.size rfl).alloc (.cells #[] 36))
  have hO0 := Lib.hid (Own.empty (α := Cell) (c := Cell.c) (sz := 2) (E := 36) (W.alloc (.cells #[.int .i8 (nw : Int), .int .i8 (nh : Int), z] 34)) (W.heap.size + 1) (W.heap.size + 1) (by simp) (by simp))
  have k0 := K.out.cell 0 _ rfl
  have k1 := K.out.cell 1 _ rfl
  have wc := wrapIn (nh : Int) (by omega) (by omega)
  have wd := wrapIn (nw : Int) (by omega) (by omega)
  go_enter Try.func188, Try.ntmps188
  go_wp2_with fail
  clear k0 k1
  generalize (W.alloc (.cells #[.int .i8 (nw : Int), .int .i8 (nh : Int), z] 34)).alloc (.cells #[] 36) = W1 at *
  go_loopw [5, 6, 7, 12, 18] (fun o _ _ y _ wr => ∃ k : Nat, k ≤ nh ∧ y = .int .i64 (k : Int) ∧ Own wr (W.heap.size + 1) 36 Cell.c 2 o (ptsS nw k) ∧ Bk wr W.heap.size 34 #[.int .i8 (nw : Int), .int .i8 (nh : Int), z] ∧ Below W.heap.size W wr) (fun _ _ _ y _ _ => nh - (intOf y).toNat)
  case atStart => exact ⟨0, by omega, rfl, hO0.out, K.out, HB.out⟩
  case round =>
    obtain ⟨k, hk, rfl, hO, hK, hb⟩ := hrel
    have HO := Lib.hid hO
    have HK := Lib.hid hK
    have HBo := Lib.hid hb
    have a0 := hK.cell 0 _ rfl
    have a1 := hK.cell 1 _ rfl
    clear hO hb hK
    by_cases hlt : k < nh
    · go_wp2_with fail
      go_loopw [5, 7, 18] (fun o _ x w2 => ∃ m : Nat, m ≤ nw ∧ x = .int .i64 (m : Int) ∧ Own w2 (W.heap.size + 1) 36 Cell.c 2 o (ptsS nw k ++ rowS k m) ∧ Bk w2 W.heap.size 34 #[.int .i8 (nw : Int), .int .i8 (nh : Int), z] ∧ Below W.heap.size W w2) (fun _ _ x _ => nw - (intOf x).toNat)
      case atStart => exact ⟨0, by omega, rfl, by simpa [rowS] using HO.out, HK.out, HBo.out⟩
      case round =>
        obtain ⟨m, hm, rfl, hO2, hK2, hb2⟩ := hrel
        have HO2 := Lib.hid hO2
        have HK2 := Lib.hid hK2
        have HB2 := Lib.hid hb2
        clear hO2 hb2 hK2
        by_cases hlt2 : m < nw
        · have hw8 : IntKind.i8.wrap (k : Int) = (k : Int) := wrap8In' _ (by omega) (by omega)
          have hw9 : IntKind.i8.wrap (m : Int) = (m : Int) := wrap8In' _ (by omega) (by omega)
          have hst := Lib.hid (show ptsS nw k ++ rowS k (m + 1) = (ptsS nw k ++ rowS k m) ++ [⟨(m : Int), (k : Int)⟩] from by rw [rowS_succ, List.append_assoc])
          have hle := Lib.hid (ptsS_le nw k m hw (by omega) (by omega))
          generalize ptsS nw k ++ rowS k m = out at *
          have hba := Lib.hid (HB2.out.alloc HB2.out.size (.cells #[.int .i8 (m : Int), .int .i8 (k : Int)] 36))
          go_wp2_with fail
          first
            | (refine (ahead1_calls _ _ _).mono ?_)
            | (rw [eg, Oper.upon_enter]; refine (ahead1_calls _ _ _).mono ?_)
          rintro e w1 ⟨rfl, rfl⟩
          go_wp2_with (at_builtin; refine push_cellat rfl _ _ rfl (W.heap.size + 1) out _ rfl (HO2.out.alloc _) _ ⟨(m : Int), (k : Int)⟩ rfl (Bk.new _ _ _ _ (by simp)) (by have := hle.out; omega) (Nat.le_trans HK2.out.lt (by simp)) ?_)
          intro v3 w3 hO3 hG3 hat
          have hb3 := Lib.hid (hba.out.grown hG3 hba.out.size (fun j hj => Nat.le_trans (by omega) (HO2.out.base j hj)))
          have hk3 := Lib.hid (show Bk w3 W.heap.size 34 #[.int .i8 (nw : Int), .int .i8 (nh : Int), z] from (hG3.block _ (HK2.out.alloc _).lt (fun he => by have := HO2.out.base _ he.symm; omega)).trans (HK2.out.alloc _))
          have hO3 := Lib.hid hO3
          clear hG3 hat
          go_wp2_with fail
          go_roundw
          case rel => exact ⟨m + 1, by omega, by go_num, by rw [hst.out]; exact hO3.out, hk3.out, hb3.out⟩
          case measure => first | (simp [intOf]; done) | (simp [intOf]; omega)
        · obtain rfl : m = nw := by omega
          have hst := Lib.hid (ptsS_succ m k)
          rw [← hst.out] at HO2
          go_wp2_with fail
          go_roundw
          case rel => exact ⟨k + 1, by omega, by go_num, HO2.out, HK2.out, HB2.out⟩
          case measure => first | (simp [intOf]; done) | (simp [intOf]; omega)
    · obtain rfl : k = nh := by omega
      go_wp2_with fail
      go_ret
      exact ⟨_, rfl, HO.out.more (by omega), HBo.out⟩
set_option maxHeartbeats 2000000 in
theorem sAll_callsS (b o : Nat) (nw nh : Nat) (hw : nw ≤ 12) (hh : nh ≤ 12) (z : Value) (W : World) (ha : Sq.at_ W b o nw nh z) :
    Calls Try.prog 141 #[.pointer (some ⟨b, o, none⟩)] W (RetRowC W 36 Cell.c 2 (ptsS nw nh)) := by
  have HA := Lib.hid ha
  have HB := Lib.hid ((Below.refl W.heap.size W).alloc (Nat.le_refl _) (.cells #[] 36))
  have hO0 := Lib.hid (Own.empty (α := Cell) (c := Cell.c) (sz := 2) (E := 36) W W.heap.size W.heap.size rfl (Nat.le_refl _))
  clear ha
  go_enter Try.func141, Try.ntmps141
  go_wp2_with fail
  go_loopw [3, 4, 5] (fun o y _ wr => ∃ k : Nat, k ≤ nh ∧ y = .int .i8 (k : Int) ∧ Own wr W.heap.size 36 Cell.c 2 o (ptsS nw k) ∧ Below W.heap.size W wr) (fun _ y _ _ => nh - (intOf y).toNat)
  case atStart => exact ⟨0, by omega, rfl, hO0.out, HB.out⟩
  case round =>
    obtain ⟨k, hk, rfl, hO, hb⟩ := hrel
    have HO := Lib.hid hO
    have HBo := Lib.hid hb
    have a0 := (HA.out.ext hb).c0
    have a1 := (HA.out.ext hb).c1
    clear hO hb
    by_cases hlt : k < nh
    · have hw8 : IntKind.i8.wrap ((k : Int) + 1) = (k : Int) + 1 := wrap8In' _ (by omega) (by omega)
      go_wp2_with fail
      go_loopw [3, 5] (fun o x w2 => ∃ m : Nat, m ≤ nw ∧ x = .int .i8 (m : Int) ∧ Own w2 W.heap.size 36 Cell.c 2 o (ptsS nw k ++ rowS k m) ∧ Below W.heap.size W w2) (fun _ x _ => nw - (intOf x).toNat)
      case atStart => exact ⟨0, by omega, rfl, by simpa [rowS] using HO.out, HBo.out⟩
      case round =>
        obtain ⟨m, hm, rfl, hO2, hb2⟩ := hrel
        have HO2 := Lib.hid hO2
        have HB2 := Lib.hid hb2
        have a2 := (HA.out.ext hb2).c0
        have a3 := (HA.out.ext hb2).c1
        clear hO2 hb2
        by_cases hlt2 : m < nw
        · have hw9 : IntKind.i8.wrap ((m : Int) + 1) = (m : Int) + 1 := wrap8In' _ (by omega) (by omega)
          have hst := Lib.hid (show ptsS nw k ++ rowS k (m + 1) = (ptsS nw k ++ rowS k m) ++ [⟨(m : Int), (k : Int)⟩] from by rw [rowS_succ, List.append_assoc])
          have hle := Lib.hid (ptsS_le nw k m hw (by omega) (by omega))
          generalize ptsS nw k ++ rowS k m = out at *
          have hba := Lib.hid (HB2.out.alloc HB2.out.size (.cells #[.int .i8 (m : Int), .int .i8 (k : Int)] 36))
          go_wp2_with (at_builtin; refine push_cellat rfl _ _ rfl W.heap.size out _ rfl (HO2.out.alloc _) _ ⟨(m : Int), (k : Int)⟩ rfl (Bk.new _ _ _ _ (by simp)) (by have := hle.out; omega) hba.out.size ?_)
          intro v3 w3 hO3 hG3 hat
          have hb3 := Lib.hid (hba.out.grown hG3 hba.out.size (fun j hj => HO2.out.base j hj))
          have hO3 := Lib.hid hO3
          clear hG3 hat
          go_wp2_with fail
          go_roundw
          case rel => exact ⟨m + 1, by omega, by go_num, by rw [hst.out]; exact hO3.out, hb3.out⟩
          case measure => first | (simp [intOf]; done) | (simp [intOf]; omega)
        · obtain rfl : m = nw := by omega
          have hst := Lib.hid (ptsS_succ m k)
          rw [← hst.out] at HO2
          go_wp2_with fail
          go_roundw
          case rel => exact ⟨k + 1, by omega, by go_num, HO2.out, HB2.out⟩
          case measure => first | (simp [intOf]; done) | (simp [intOf]; omega)
    · obtain rfl : k = nh := by omega
      go_wp2_with fail
      go_ret
      exact ⟨_, rfl, HO.out, HBo.out⟩
end Go.Proofs.Yteflpdfajfljfaa
