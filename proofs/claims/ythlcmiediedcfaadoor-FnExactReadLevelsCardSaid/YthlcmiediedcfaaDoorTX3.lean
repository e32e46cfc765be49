/-
Texts of levels, of both. Conditions: the library's table stands in memory; numbers are of their kinds; slices can be read.
-/
import Derived.Test.YthlcmiediedcfaaDoorTX2
import Derived.Test.YthlcmiediedcfaaDoorLV1
set_option linter.unusedVariables false
set_option linter.unusedSimpArgs false
set_option maxRecDepth 100000
namespace Go.Proofs.YthlcmiediedcfaaDoor
open Go.RowKit
theorem itoa_len {n : Int} (h : -100 ≤ n ∧ n ≤ 100) : (Lib.itoa n).length ≤ 21 := by
  unfold Lib.itoa
  split
  · have := decLen20 (n := n.natAbs) (by omega)
    simp only [List.length_cons]
    omega
  · have := decLen20 (n := n.toNat) (by omega)
    omega
def levelsT (w h : Int) (sl : List Slab) (xs : List Int) : List UInt8 := if levB w h sl xs = true then Lib.join (xs.map Lib.itoa) [32] else []
set_option maxHeartbeats 1000000 in
theorem l06Text_calls (xs : List Int) (hx : ∀ n ∈ xs, -100 ≤ n ∧ n ≤ 100) (hn : xs.length ≤ 60) (v : Value) (W : World) (hs : Sl W W.heap.size i64c 1 v xs) :
    Calls Tryd.prog 48 #[v] W fun e w' => e = .returned (str (Lib.join (xs.map Lib.itoa) [32])) ∧ Below W.heap.size W w' := by
  obtain ⟨A, cap, rfl, hl, hm, hcell0⟩ := hs.i64
  have hcell := Lib.hid hcell0
  have hlen := Lib.hid (joinN_len Lib.itoa xs 21 (fun n h => itoa_len (hx n h)))
  have HX := Lib.hid hx
  have hfin := Lib.hid (joinN_all Lib.itoa xs)
  have hz0 := Lib.hid (joinN_zero Lib.itoa xs)
  clear hs hcell0 hx
  go_enter Tryd.func48, Tryd.ntmps48
  go_wp2_with fail
  go_loopw [3, 4] (fun t i wr => ∃ k : Nat, k ≤ xs.length ∧ i = .int .i64 (k : Int) ∧ t = .string ⟨(joinN Lib.itoa xs k).toArray⟩ ∧ Below W.heap.size W wr) (fun _ i _ => xs.length - (intOf i).toNat)
  case atStart => exact ⟨0, by omega, rfl, by rw [hz0.out], Below.refl _ _⟩
  case round =>
    obtain ⟨k, hk, rfl, rfl, hb⟩ := hrel
    have HBr := Lib.hid hb
    clear hb
    by_cases hlt : k < xs.length
    · obtain ⟨bb, oo, rfl, hbb, c0⟩ := hcell.out k hlt
      have hnb := HX.out xs[k] (List.getElem_mem hlt)
      have hsucc := Lib.hid (joinN_succ Lib.itoa xs k hlt)
      have hJl := hlen.out k hk
      replace c0 := (HBr.out.cell (p := ⟨bb, _, none⟩) hbb).trans c0
      have hkd : decide ((k : Int) < (xs.length : Int)) = true := by rw [decide_eq_true_eq]; omega
      have hk0 : (0 : Int) ≤ (k : Int) := by omega
      have hk1 : (k : Int) < (xs.length : Int) := by omega
      obtain ⟨J, hJ⟩ : ∃ J, joinN Lib.itoa xs k = J := ⟨_, rfl⟩
      rw [hJ] at hsucc hJl
      rw [hJ]
      generalize xs[k] = n at *
      -- what stands ahead of the number
      obtain ⟨J2, hJ2, hsucc2⟩ : ∃ J2, J2 = (if k = 0 then J else J ++ [32]) ∧ joinN Lib.itoa xs (k + 1) = J2 ++ Lib.itoa n := by
        refine ⟨_, rfl, ?_⟩
        rw [hsucc.out]
        by_cases h0 : k = 0
        · rw [if_pos h0, if_pos h0, ← hJ, h0, hz0.out]; rfl
        · rw [if_neg h0, if_neg h0]
      have hJ2l : J2.length ≤ J.length + 1 := by rw [hJ2]; split <;> simp
      clear hsucc hJ
      by_cases hneg : n < 0
      · obtain ⟨a, ha⟩ : ∃ a : Nat, -n = (a : Int) := ⟨n.natAbs, by omega⟩
        have hit : Lib.itoa n = 45 :: Lib.decDigits a := by rw [show n = -(a : Int) by omega]; exact Lib.itoa_neg a (by omega)
        rw [hit] at hsucc2
        obtain ⟨D, hD⟩ : ∃ D, Lib.decDigits a = D := ⟨_, rfl⟩
        have hDl := decLen20 (n := a) (by omega)
        have qa := Lib.hid (fun W' => sDec_calls (a + 1) a (by omega) (by omega) W')
        rw [hD] at hsucc2 hDl qa
        obtain ⟨J3, hJ3⟩ : ∃ J3, J2 ++ [45] = J3 := ⟨_, rfl⟩
        obtain ⟨J4, hJ4⟩ : ∃ J4, J3 ++ D = J4 := ⟨_, rfl⟩
        have hN := Lib.hid (show joinN Lib.itoa xs (k + 1) = J4 from by rw [hsucc2, ← hJ4, ← hJ3]; simp)
        have f1 := cat_of hJ3
        have f2 := cat_of hJ4
        have l1 : (9223372036854775807 < J2.length + 1) = False := by simp; omega
        have hJ3l : J3.length = J2.length + 1 := by rw [← hJ3]; simp
        have l2 : (9223372036854775807 < J3.length + D.length) = False := by simp; omega
        have hnd : decide (n < 0) = true := decide_eq_true hneg
        clear hJ3 hJ4 hD hsucc2 hit hneg hJ3l
        by_cases h0 : k = 0
        · rw [if_pos h0] at hJ2
          subst hJ2
          have hz : decide ((0 : Int) < (k : Int)) = false := by rw [decide_eq_false_iff_not]; omega
          have hz2 : decide (0 < k) = false := by rw [decide_eq_false_iff_not]; omega
          clear h0
          go_wp2_with fail
          refine (qa.out _).mono ?_
          rintro e w1 ⟨rfl, hb1⟩
          have HB1 := Lib.hid (ext_trans HBr.out hb1)
          go_wp2_with fail
          go_roundw
          case rel => exact ⟨k + 1, by omega, by go_num, by rw [hN.out], HB1.out⟩
          case measure => first | (simp [intOf]; done) | (simp [intOf]; omega)
        · rw [if_neg h0] at hJ2
          have f0 := cat_of hJ2.symm
          have l0 : (9223372036854775807 < J.length + 1) = False := by simp; omega
          have hz : decide ((0 : Int) < (k : Int)) = true := by rw [decide_eq_true_eq]; omega
          have hz2 : decide (0 < k) = true := by rw [decide_eq_true_eq]; omega
          clear hJ2
          go_wp2_with fail
          refine (qa.out _).mono ?_
          rintro e w1 ⟨rfl, hb1⟩
          have HB1 := Lib.hid (ext_trans HBr.out hb1)
          go_wp2_with fail
          go_roundw
          case rel => exact ⟨k + 1, by omega, by go_num, by rw [hN.out], HB1.out⟩
          case measure => first | (simp [intOf]; done) | (simp [intOf]; omega)
      · obtain ⟨a, ha⟩ : ∃ a : Nat, n = (a : Int) := ⟨n.toNat, by omega⟩
        subst ha
        have hit := Lib.itoa_nonneg a
        rw [hit] at hsucc2
        obtain ⟨D, hD⟩ : ∃ D, Lib.decDigits a = D := ⟨_, rfl⟩
        have hDl := decLen20 (n := a) (by omega)
        have qa := Lib.hid (fun W' => sDec_calls (a + 1) a (by omega) (by omega) W')
        rw [hD] at hsucc2 hDl qa
        obtain ⟨J4, hJ4⟩ : ∃ J4, J2 ++ D = J4 := ⟨_, rfl⟩
        have hN := Lib.hid (show joinN Lib.itoa xs (k + 1) = J4 from by rw [hsucc2, ← hJ4])
        have f2 := cat_of hJ4
        have l2 : (9223372036854775807 < J2.length + D.length) = False := by simp; omega
        have hnd : decide ((a : Int) < 0) = false := decide_eq_false hneg
        clear hJ4 hD hsucc2 hit hneg
        by_cases h0 : k = 0
        · rw [if_pos h0] at hJ2
          subst hJ2
          have hz : decide ((0 : Int) < (k : Int)) = false := by rw [decide_eq_false_iff_not]; omega
          have hz2 : decide (0 < k) = false := by rw [decide_eq_false_iff_not]; omega
          clear h0
          go_wp2_with fail
          refine (qa.out _).mono ?_
          rintro e w1 ⟨rfl, hb1⟩
          have HB1 := Lib.hid (ext_trans HBr.out hb1)
          go_wp2_with fail
          go_roundw
          case rel => exact ⟨k + 1, by omega, by go_num, by rw [hN.out], HB1.out⟩
          case measure => first | (simp [intOf]; done) | (simp [intOf]; omega)
        · rw [if_neg h0] at hJ2
          have f0 := cat_of hJ2.symm
          have l0 : (9223372036854775807 < J.length + 1) = False := by simp; omega
          have hz : decide ((0 : Int) < (k : Int)) = true := by rw [decide_eq_true_eq]; omega
          have hz2 : decide (0 < k) = true := by rw [decide_eq_true_eq]; omega
          clear hJ2
          go_wp2_with fail
          refine (qa.out _).mono ?_
          rintro e w1 ⟨rfl, hb1⟩
          have HB1 := Lib.hid (ext_trans HBr.out hb1)
          go_wp2_with fail
          go_roundw
          case rel => exact ⟨k + 1, by omega, by go_num, by rw [hN.out], HB1.out⟩
          case measure => first | (simp [intOf]; done) | (simp [intOf]; omega)
    · obtain rfl : k = xs.length := by omega
      have hkd : decide ((xs.length : Int) < (xs.length : Int)) = false := by rw [decide_eq_false_iff_not]; omega
      go_wp2_with fail
      go_ret
      exact ⟨by rw [← hfin.out]; rfl, HBr.out⟩
theorem levB_facts {w h : Int} {sl : List Slab} {xs : List Int} (hv : levB w h sl xs = true) : xs.length ≤ 60 ∧ ∀ n ∈ xs, -100 ≤ n ∧ n ≤ 100 := by
  obtain ⟨h1, h2, h3⟩ := numsB_ok hv
  exact ⟨by rw [h2]; exact sqOk_len h1, h3⟩
theorem specLevelsText_calls (w h : Int) (z : Value) (sl : List Slab) (xs : List Int) (v : Value) (W : World) (hq : SqIn W w h z sl) (hs : Sl W W.heap.size i64c 1 v xs) :
    Calls Tryd.prog 15 #[sqv w h z, v] W fun e w' => e = .returned (str (levelsT w h sl xs)) ∧ Below W.heap.size W w' := by
  have hB := (Below.refl W.heap.size W).alloc (Nat.le_refl _) (.cells #[.int .i8 w, .int .i8 h, z] 38)
  have HB := Lib.hid hB
  have K := Bk.new W 38 #[.int .i8 w, .int .i8 h, z] W.heap.size rfl
  have ql := Lib.hid (sLevels_calls W.heap.size 0 w h z sl xs v _ (hq.ext hB) ⟨K.cell 0 _ rfl, K.cell 1 _ rfl, K.cell 2 _ rfl, by simp⟩ (hs.ext hB))
  have qt := Lib.hid (fun (hx : ∀ n ∈ xs, -100 ≤ n ∧ n ≤ 100) (hn : xs.length ≤ 60) W' (hb : Below W.heap.size W W') => l06Text_calls xs hx hn v W' (hs.ext hb))
  obtain ⟨A, cap, rfl, -, -, -⟩ := hs.i64
  obtain ⟨A2, cap2, rfl, -, -, -⟩ := hq.sl.slab
  clear hB K hq hs
  unfold sqv
  cases hv : levB w h sl xs
  · have hE := Lib.hid (show levelsT w h sl xs = [] from if_neg (by rw [hv]; decide))
    rw [hv] at ql
    clear hv
    go_enter Tryd.func15, Tryd.ntmps15
    go_wp2_with fail
    refine ql.out.mono ?_
    rintro e w1 ⟨rfl, hb1⟩
    go_wp2_with fail
    go_ret
    exact ⟨by rw [hE.out]; rfl, ext_trans HB.out hb1⟩
  · have hE := Lib.hid (show levelsT w h sl xs = Lib.join (xs.map Lib.itoa) [32] from if_pos hv)
    obtain ⟨h1, h2⟩ := levB_facts hv
    have qt := Lib.hid (qt.out h2 h1)
    rw [hv] at ql
    clear hv h1 h2
    go_enter Tryd.func15, Tryd.ntmps15
    go_wp2_with fail
    refine ql.out.mono ?_
    rintro e w1 ⟨rfl, hb1⟩
    have HB1 := Lib.hid (ext_trans HB.out hb1)
    go_wp2_with fail
    refine (qt.out _ HB1.out).mono ?_
    rintro e w2 ⟨rfl, hb2⟩
    go_wp2_with fail
    go_ret
    exact ⟨by rw [hE.out]; rfl, ext_trans HB1.out hb2⟩
set_option maxHeartbeats 1000000 in
theorem implLevelsText_calls (w h : Int) (z : Value) (sl : List Slab) (xs : List Int) (v : Value) (W : World) (ht : TabP W) (hq : SqIn W w h z sl) (hs : Sl W W.heap.size i64c 1 v xs) :
    Calls Tryd.prog 18 #[sqv w h z, v] W fun e w' => e = .returned (str (levelsT w h sl xs)) ∧ Below W.heap.size W w' := by
  have hB := (Below.refl W.heap.size W).alloc (Nat.le_refl _) (.cells #[.int .i8 w, .int .i8 h, z] 38)
  have HB := Lib.hid hB
  have HT0 := Lib.hid ht
  have q1 := Lib.hid (validLevels_calls w h z sl xs v _ (hq.ext hB) (hs.ext hB))
  have K := Bk.new W 38 #[.int .i8 w, .int .i8 h, z] W.heap.size rfl
  have k0 := K.cell 0 _ rfl
  have k1 := K.cell 1 _ rfl
  have k2 := K.cell 2 _ rfl
  obtain ⟨A, cap, rfl, hl, hm, hcell0⟩ := hs.i64
  have hcell := Lib.hid hcell0
  obtain ⟨A2, cap2, rfl, -, -, -⟩ := hq.sl.slab
  clear hB K hq hs hcell0 ht
  unfold sqv at *
  cases hv : levB w h sl xs
  · have hE := Lib.hid (show levelsT w h sl xs = [] from if_neg (by rw [hv]; decide))
    rw [hv] at q1
    clear hv
    go_enter Tryd.func18, Tryd.ntmps18
    go_wp2_with fail
    refine q1.out.mono ?_
    rintro e w1 ⟨rfl, hb1⟩
    go_wp2_with fail
    go_ret
    exact ⟨by rw [hE.out]; rfl, ext_trans HB.out hb1⟩
  · have hE := Lib.hid (show levelsT w h sl xs = Lib.join (xs.map Lib.itoa) [32] from if_pos hv)
    obtain ⟨h60, hx⟩ := levB_facts hv
    have HX := Lib.hid hx
    have hlen := Lib.hid (joinN_len Lib.itoa xs 21 (fun n h => itoa_len (hx n h)) xs.length (Nat.le_refl _))
    have hfin := Lib.hid (joinN_all Lib.itoa xs)
    rw [hv] at q1
    clear hv hx
    go_enter Tryd.func18, Tryd.ntmps18
    go_wp2_with fail
    refine q1.out.mono ?_
    rintro e w1 ⟨rfl, hb1⟩
    have hb1' := ext_trans HB.out hb1
    have HB1 := Lib.hid (hb1'.alloc hb1'.size (.cells #[] 9))
    have HO1 := Lib.hid ((Own.empty (α := List UInt8) (c := strc) (sz := 1) (E := 9) w1 w1.heap.size w1.heap.size rfl (Nat.le_refl _)).more hb1'.size)
    clear hb1 hb1' q1 k0 k1 k2
    go_wp2_with fail
    go_loopw [5, 15] (fun v i wr => ∃ k : Nat, k ≤ xs.length ∧ i = .int .i64 (k : Int) ∧ Own wr W.heap.size 9 strc 1 v ((xs.take k).map Lib.itoa) ∧ Below W.heap.size W wr) (fun _ i _ => xs.length - (intOf i).toNat)
    case atStart => exact ⟨0, by omega, rfl, by simpa using HO1.out, HB1.out⟩
    case round =>
      clear HO1 HB1
      obtain ⟨k, hk, rfl, hO, hb⟩ := hrel
      have HO := Lib.hid hO
      have HBr := Lib.hid hb
      clear hO hb
      by_cases hlt : k < xs.length
      · obtain ⟨bb, oo, rfl, hbb, c0⟩ := hcell.out k hlt
        have hnb := HX.out xs[k] (List.getElem_mem hlt)
        have hsucc := Lib.hid (show (xs.take (k + 1)).map Lib.itoa = (xs.take k).map Lib.itoa ++ [Lib.itoa xs[k]] from by rw [List.take_succ_eq_append_getElem hlt, List.map_append]; rfl)
        have hwl := Lib.hid (show ((xs.take k).map Lib.itoa).length ≤ 60 from by rw [List.length_map, List.length_take]; omega)
        replace c0 := (HBr.out.cell (p := ⟨bb, _, none⟩) hbb).trans c0
        have hkd : decide ((k : Int) < (xs.length : Int)) = true := by rw [decide_eq_true_eq]; omega
        have hk0 : (0 : Int) ≤ (k : Int) := by omega
        have hk1 : (k : Int) < (xs.length : Int) := by omega
        generalize xs[k] = n at *
        have qa := Lib.hid (decimal_calls n (by omega) (by omega) wr (HT0.out.ext HBr.out))
        generalize Lib.itoa n = D at *
        generalize (xs.take k).map Lib.itoa = ws at *
        go_wp2_with fail
        refine qa.out.mono ?_
        rintro e w2 ⟨rfl, hb2⟩
        have HB2 := Lib.hid (ext_trans HBr.out hb2)
        have HB2a := Lib.hid (HB2.out.alloc HB2.out.size (.cells #[.string ⟨D.toArray⟩] 9))
        have HO2 := Lib.hid ((HO.out.ext hb2).alloc (.cells #[.string ⟨D.toArray⟩] 9))
        clear hb2 c0
        go_wp2_with (at_builtin; refine push_app appStr rfl _ _ rfl W.heap.size ws [D] u5 _ rfl rfl HO2.out (bk_str1 (Bk.new _ _ _ _ rfl)) (by have := hwl.out; simp; omega) (by have := hwl.out; simp; omega) HB2a.out.size ?_)
        intro v9 w9 hO9 hG9 hat
        have HB9 := Lib.hid (HB2a.out.grown hG9 HB2a.out.size (fun j hj => HO2.out.base j hj))
        go_wp2_with fail
        go_roundw
        case rel => exact ⟨k + 1, by omega, by go_num, by rw [hsucc.out]; exact hO9, HB9.out⟩
        case measure => first | (simp [intOf]; done) | (simp [intOf]; omega)
      · obtain rfl : k = xs.length := by omega
        have hkd : decide ((xs.length : Int) < (xs.length : Int)) = false := by rw [decide_eq_false_iff_not]; omega
        rw [List.take_length] at HO
        have qj := Lib.hid (joinS_calls _ u5 [32] wr (HO.out.sl strc_len) (by rw [List.length_map]; omega) (by rw [← hfin.out]; have := hlen.out; omega))
        go_wp2_with fail
        refine qj.out.mono ?_
        rintro e w2 ⟨rfl, hb2⟩
        go_wp2_with fail
        go_ret
        exact ⟨by rw [hE.out]; rfl, ext_trans HBr.out hb2⟩
end Go.Proofs.YthlcmiediedcfaaDoor
