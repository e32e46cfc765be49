/-
All slabs beside one, of the reference: marks in a row of bools over the grid. Conditions: the square is valid; slices can be read. PRINTED by wip/mk_bs3.py.
-/
import Derived.Test.YtpjdgpcdcihogaaBP1
import Derived.Test.YtpjdgpcdcihogaaGR3
set_option linter.unusedVariables false
set_option linter.unusedSimpArgs false
set_option maxRecDepth 100000
namespace Go.Proofs.Ytpjdgpcdcihogaa
open Go.RowKit
def boolc (b : Bool) : List Value := [.bool b]
theorem boolc_len (b : Bool) : (boolc b).length = 1 := rfl
theorem tA_no (sl : List Slab) (i y : Int) : tA sl i ((0 : Nat) : Int) y = false := by simp [tA]
theorem tB_no (sl : List Slab) (i y : Int) : tB sl i ((0 : Nat) : Int) y = false := by simp [tB]
theorem tC_no (sl : List Slab) (i x : Int) : tC sl i x ((0 : Nat) : Int) = false := by simp [tC]
theorem tD_no (sl : List Slab) (i x : Int) : tD sl i x ((0 : Nat) : Int) = false := by simp [tD]
theorem tA_eq (sl : List Slab) (i x y p : Int) (h : 0 < x) (hp : gv sl x y = p) : tA sl i x y = (p == i + 1) := by rw [tA, hp, decide_eq_true h, Bool.true_and]; rfl
theorem tB_eq (sl : List Slab) (i x y p : Int) (h : 0 < x) (hp : gv sl (x - 1) y = p) : tB sl i x y = (p == i + 1) := by rw [tB, hp, decide_eq_true h, Bool.true_and]; rfl
theorem tC_eq (sl : List Slab) (i x y p : Int) (h : 0 < y) (hp : gv sl x y = p) : tC sl i x y = (p == i + 1) := by rw [tC, hp, decide_eq_true h, Bool.true_and]; rfl
theorem tD_eq (sl : List Slab) (i x y p : Int) (h : 0 < y) (hp : gv sl x (y - 1) = p) : tD sl i x y = (p == i + 1) := by rw [tD, hp, decide_eq_true h, Bool.true_and]; rfl
theorem tA_pos {sl : List Slab} {i x y : Int} (h : tA sl i x y = true) : 0 < x := by simp [tA] at h; exact h.1
theorem tB_pos {sl : List Slab} {i x y : Int} (h : tB sl i x y = true) : 0 < x := by simp [tB] at h; exact h.1
theorem tC_pos {sl : List Slab} {i x y : Int} (h : tC sl i x y = true) : 0 < y := by simp [tC] at h; exact h.1
theorem tD_pos {sl : List Slab} {i x y : Int} (h : tD sl i x y = true) : 0 < y := by simp [tD] at h; exact h.1
theorem gv_nat (sl : List Slab) (x y : Int) : ∃ p : Nat, gv sl x y = (p : Int) ∧ p ≤ sl.length := by
  have := gv_nonneg sl x y
  exact ⟨(gv sl x y).toNat, (Int.toNat_of_nonneg this.1).symm, by omega⟩
theorem put_false (v : Int) (M : List Bool) : put false v M = M := rfl
theorem put_true (v : Nat) (M : List Bool) : put true (v : Int) M = M.set v true := by simp [put]
theorem grid_cell {W : World} {g : Nat} {sl : List Slab} (hg : Bk W g 68 (gcells (gridL sl))) (x y p : Nat) (hx : x < 12) (hy : y < 12) (hp : gv sl (x : Int) (y : Int) = (p : Int)) : W.cell? ⟨g, y * 12 + x, none⟩ = some (.int .i64 (p : Int)) := by
  have := hg.cell (y * 12 + x) _ (gcells_get _ _ _ (grid_get sl x y hx hy))
  rw [this]
  unfold gv at hp
  rw [hp]
set_option maxHeartbeats 4000000 in
theorem sbeside_calls (b o : Nat) (w h : Int) (z : Value) (sl : List Slab) (i : Nat) (hi : i < sl.length) (hv : sqOk w h sl = true) (W : World) (hq : SqIn W w h z sl) (ha : Sq.at_ W b o w h z) :
    Calls Try.prog 154 #[.pointer (some ⟨b, o, none⟩), .int .i64 (i : Int)] W (RetRow W 2 i64c 1 (besL sl i)) := by
  have HQ := Lib.hid hq
  have HA := Lib.hid ha
  obtain ⟨⟨w0, w1⟩, ⟨h0, h1⟩, hlie⟩ := sqOk_edges hv
  have hn60 : sl.length ≤ 60 := by simp only [sqOk, Bool.and_eq_true, decide_eq_true_eq] at hv; exact hv.1.2
  have HV := Lib.hid hv
  have hok : slabsOk w h sl sl.length = true := by simp only [sqOk, Bool.and_eq_true, decide_eq_true_eq] at hv; exact hv.2
  have hout := Lib.hid (outN_bes hok hi)
  have ql := Lib.hid (lay_calls b o w h hq.w0 hq.w1 hq.h0 hq.h1 sl hq.ok z W hq.sl ha)
  rw [hv] at ql
  obtain ⟨nw, hnw⟩ : ∃ n : Nat, w = (n : Int) := ⟨w.toNat, (Int.toNat_of_nonneg (by omega)).symm⟩
  obtain ⟨nh, hnh⟩ : ∃ n : Nat, h = (n : Int) := ⟨h.toNat, (Int.toNat_of_nonneg (by omega)).symm⟩
  subst hnw
  subst hnh
  obtain ⟨A, cap, hz, hl, hm, -⟩ := hq.sl.slab
  have hmk : ∀ W : World, (Instr.makeSlice 85 (.int .i64 ((sl.length : Int) + 1)) (.int .i64 ((sl.length : Int) + 1))).run Try.prog W = .ok (.slice (some ⟨W.heap.size, 0, none⟩) (sl.length + 1) (sl.length + 1)) (W.alloc (.cells (madeCells (Value.bool false).cells ((sl.length + 1) * 1)) 4)) := fun W => by
    have := run_makeOf (P := Try.prog) 85 4 (.bool false) 1 1 Try.underlying85 (by kernel_rfl) (sl.length + 1) (by omega) (by omega) W
    simpa using this
  subst hz
  clear hq ha hv hok hlie
  go_enter Try.func154, Try.ntmps154
  go_wp2_with fail
  refine ql.out.mono ?_
  rintro e wa ⟨g, rfl, hgl, hgr, hb1⟩
  have hgg := hgr rfl
  subst hgg
  have HBa := Lib.hid hb1
  have HB5 := Lib.hid (hb1.alloc hb1.size (.cells Try.zeroCells68 68))
  have K5 := Lib.hid (Bk.new wa 68 Try.zeroCells68 wa.heap.size rfl)
  have hs5 := Lib.hid (show W.heap.size ≤ wa.heap.size from hb1.size)
  have hglH := Lib.hid hgl
  clear hb1 hgl hgr
  go_wp2_with (refine wpList_store_bk rfl 68 (.tmp 5) (.tmp 15) rfl _ (gcells (gridL sl)) rfl rfl _ _ K5.out (by rw [zsize, gcells_size, hglH.out]) (ginfo _ hglH.out) (gcells_one _) ?_)
  intro w6 k6 G6
  have KG6 := Lib.hid k6
  have HB6 := Lib.hid (HB5.out.grown G6 HB5.out.size (fun j hj => by injection hj with hj; have := hs5.out; omega))
  have a2 := (HA.out.ext HB6.out).c2
  have hbl := (HA.out.ext HB6.out).lt
  have hs6 := Lib.hid (show wa.heap.size < w6.heap.size from k6.lt)
  have hO7 := Lib.hid (Own.made (B := wa.heap.size + 1) (E := 4) boolc_len (by omega) w6 (by have := hs6.out; omega) false (sl.length + 1) (by omega))
  rw [Nat.mul_one] at hO7
  have hO7 := Lib.hid (show Own (w6.alloc (.cells (madeCells #[Value.bool false] (sl.length + 1)) 4)) (wa.heap.size + 1) 4 boolc 1 (.slice (some ⟨w6.heap.size, 0, none⟩) (sl.length + 1) (sl.length + 1)) (List.replicate (sl.length + 1) false) from hO7.out)
  have HB7 := Lib.hid (HB6.out.alloc HB6.out.size (.cells (madeCells #[Value.bool false] (sl.length + 1)) 4))
  have KG7 := Lib.hid (KG6.out.alloc (.cells (madeCells #[Value.bool false] (sl.length + 1)) 4))
  rw [← mkL_start sl (i : Int) (nw : Int)] at hO7
  clear k6 G6
  go_wp2_with fail
  clear a2 hbl hmk
  have Hg := Lib.hid (show W.heap.size ≤ wa.heap.size ∧ wa.heap.size < w6.heap.size from ⟨hs5.out, hs6.out⟩)
  generalize w6.alloc (.cells (madeCells #[Value.bool false] (sl.length + 1)) 4) = w7 at *
  clear HB6 HB5 HBa hs5 hs6 KG6 K5
  generalize w6.heap.size = g7 at *
  generalize wa.heap.size = g5 at *
  go_loopw [8, 9] (fun y _ wr => ∃ k : Nat, k ≤ nh ∧ y = .int .i8 (k : Int) ∧ Own wr (g5 + 1) 4 boolc 1 (.slice (some ⟨g7, 0, none⟩) (sl.length + 1) (sl.length + 1)) (mkL sl (i : Int) (nw : Int) (k : Int) 0) ∧ Bk wr g5 68 (gcells (gridL sl)) ∧ Below W.heap.size W wr) (fun y _ _ => nh - (intOf y).toNat)
  case atStart => exact ⟨0, by omega, rfl, hO7.out, KG7.out, HB7.out⟩
  case round =>
    obtain ⟨yn, hyn, rfl, hO, hK, hb⟩ := hrel
    obtain ⟨wo, rfl⟩ : ∃ wo : World, wo = wr := ⟨_, rfl⟩
    have HOo := Lib.hid hO
    have KGo := Lib.hid hK
    have HBo := Lib.hid hb
    have b1 := (HA.out.ext hb).c1
    have b0 := (HA.out.ext hb).c0
    clear hO hK hb
    by_cases hlt : yn < nh
    · have hyd : decide ((yn : Int) < (nh : Int)) = true := by rw [decide_eq_true_eq]; omega
      have hw8 : IntKind.i8.wrap ((yn : Int) + 1) = (yn : Int) + 1 := wrap8In' _ (by omega) (by omega)
      have y0 : (0 : Int) ≤ (yn : Int) := by omega
      have y1 : (yn : Int) < 12 := by omega
      go_wp2_with fail
      go_loopw [9] (fun x w2 => ∃ m : Nat, m ≤ nw ∧ x = .int .i8 (m : Int) ∧ Own w2 (g5 + 1) 4 boolc 1 (.slice (some ⟨g7, 0, none⟩) (sl.length + 1) (sl.length + 1)) (mkL sl (i : Int) (nw : Int) (yn : Int) (m : Int)) ∧ Bk w2 g5 68 (gcells (gridL sl)) ∧ Below W.heap.size W w2) (fun x _ => nw - (intOf x).toNat)
      case atStart => exact ⟨0, by omega, rfl, HOo.out, KGo.out, HBo.out⟩
      case round =>
        obtain ⟨xn, hxn, rfl, hO, hK, hb⟩ := hrel
        obtain ⟨W1, rfl⟩ : ∃ W1 : World, W1 = wr := ⟨_, rfl⟩
        have HOW1 := Lib.hid hO
        have KGW1 := Lib.hid hK
        have HBW1 := Lib.hid hb
        clear b0 b1
        have b0 := (HA.out.ext hb).c0
        clear hO hK hb
        by_cases hlt2 : xn < nw
        · have hxd : decide ((xn : Int) < (nw : Int)) = true := by rw [decide_eq_true_eq]; omega
          have hw9 : IntKind.i8.wrap ((xn : Int) + 1) = (xn : Int) + 1 := wrap8In' _ (by omega) (by omega)
          have x0 : (0 : Int) ≤ (xn : Int) := by omega
          have x1 : (xn : Int) < 12 := by omega
          obtain ⟨p, hp, hpn⟩ := gv_nat sl (xn : Int) (yn : Int)
          obtain ⟨q, hq, hqn⟩ := gv_nat sl ((xn : Int) - 1) (yn : Int)
          obtain ⟨r, hr, hrn⟩ := gv_nat sl (xn : Int) ((yn : Int) - 1)
          have hst := Lib.hid (mkL_step sl (i : Int) (nw : Int) (yn : Int) (xn : Int) x0 (by omega) y0)
          rw [hp, hq, hr] at hst
          have Hp := Lib.hid hp
          have Hq := Lib.hid hq
          have Hr := Lib.hid hr
          have HLW1 := Lib.hid (mkL_len sl (i : Int) (nw : Int) (yn : Int) (xn : Int))
          clear hp hq hr
          generalize mkL sl (i : Int) (nw : Int) (yn : Int) (xn : Int) = M at *
          have g57 : g5 < g7 := Hg.out.2
          go_upto_region 9 with (fail)
          go_cut [51] (fun c wx => c = .bool (tA sl (i : Int) (xn : Int) (yn : Int)) ∧ wx = W1)
          case first =>
            by_cases hz : xn = 0
            · have hE := Lib.hid (show tA sl (i : Int) (xn : Int) (yn : Int) = false from by rw [hz]; exact tA_no ..)
              have hd : decide (0 < xn) = false := by rw [decide_eq_false_iff_not]; omega
              clear hz
              generalize tA sl (i : Int) (xn : Int) (yn : Int) = E at *
              go_wp2_with fail
              go_meet
              exact ⟨by rw [hE.out], rfl⟩
            · have hpos : (0 : Int) < (xn : Int) := by omega
              have hd : decide (0 < xn) = true := by rw [decide_eq_true_eq]; omega
              have hE := Lib.hid (tA_eq sl (i : Int) (xn : Int) (yn : Int) (p : Int) hpos Hp.out)
              have c0 := grid_cell KGW1.out xn yn p (by omega) (by omega) Hp.out
              clear hz
              generalize tA sl (i : Int) (xn : Int) (yn : Int) = E at *
              go_wp2_with fail
              go_meet
              exact ⟨by rw [hE.out], rfl⟩
          obtain ⟨rfl, hwc⟩ := hcut
          have hwc := hwc.symm
          subst hwc
          have HE := Lib.hid (show tA sl (i : Int) (xn : Int) (yn : Int) = true → 0 < (xn : Int) from fun h => tA_pos h)
          generalize tA sl (i : Int) (xn : Int) (yn : Int) = e51 at *
          go_upto_if 51 with (fail)
          go_cut [] (fun wx => Own wx (g5 + 1) 4 boolc 1 (.slice (some ⟨g7, 0, none⟩) (sl.length + 1) (sl.length + 1)) (put e51 (q : Int) M) ∧ Bk wx g5 68 (gcells (gridL sl)) ∧ Below W.heap.size W wx)
          case first =>
            cases e51
            · go_wp2_with fail
              go_meet
              exact ⟨HOW1.out, KGW1.out, HBW1.out⟩
            · have hpos := HE.out rfl
              have c0 := grid_cell KGW1.out (xn - 1) yn q (by omega) (by omega) (by have := Hq.out; rw [show ((xn - 1 : Nat) : Int) = (xn : Int) - 1 from by omega]; exact this)
              have hML := HLW1.out
              obtain ⟨hBg, hgl, hce, hfz⟩ := HOW1.out.at_ boolc_len (by omega)
              obtain ⟨yv, hyv⟩ : ∃ yv, M[q]? = some yv := ⟨M[q]'(by omega), by rw [List.getElem?_eq_getElem]⟩
              have q0 : W1.cell? ⟨g7, q, none⟩ = some (.bool yv) := by simpa using hce q yv hyv 0 _ rfl
              have hML := Lib.hid hML
              clear hce hyv
              obtain ⟨hO2, hG2⟩ := HOW1.out.put boolc_len q (by have := hML.out; omega) true
              rw [Nat.mul_one] at hO2 hG2
              have hK2 := Lib.hid (KGW1.out.grown hG2 (by omega))
              have hB2 := Lib.hid (HBW1.out.grown hG2 HBW1.out.size (fun j hj => by injection hj with hj; have := Hg.out; omega))
              have hO2 := Lib.hid hO2
              clear hG2
              go_wp2_with fail
              go_meet
              exact ⟨by rw [put_true]; exact hO2.out, hK2.out, hB2.out⟩
          obtain ⟨hO, hK, hb⟩ := hcut
          obtain ⟨W2, rfl⟩ : ∃ W2 : World, W2 = wc := ⟨_, rfl⟩
          have HOW2 := Lib.hid hO
          have KGW2 := Lib.hid hK
          have HBW2 := Lib.hid hb
          have HLW2 := Lib.hid (show (put e51 (q : Int) M).length = sl.length + 1 from by rw [put_len]; exact HLW1.out)
          have HQW2 := Lib.hid (HA.out.ext HBW2.out)
          have HSW2 := Lib.hid (show put e51 (q : Int) M = put e51 (q : Int) M from rfl)
          clear hO hK hb HE
          generalize hM2 : put e51 (q : Int) M = M2 at HOW2 HLW2 ⊢
          have HM2 := Lib.hid hM2
          clear hM2 HSW2
          go_upto_region 11 with (fail)
          go_cut [72] (fun c wx => c = .bool (tB sl (i : Int) (xn : Int) (yn : Int)) ∧ wx = W2)
          case first =>
            by_cases hz : xn = 0
            · have hE := Lib.hid (show tB sl (i : Int) (xn : Int) (yn : Int) = false from by rw [hz]; exact tB_no ..)
              have hd : decide (0 < xn) = false := by rw [decide_eq_false_iff_not]; omega
              clear hz
              generalize tB sl (i : Int) (xn : Int) (yn : Int) = E at *
              go_wp2_with fail
              go_meet
              exact ⟨by rw [hE.out], rfl⟩
            · have hpos : (0 : Int) < (xn : Int) := by omega
              have hd : decide (0 < xn) = true := by rw [decide_eq_true_eq]; omega
              have hE := Lib.hid (tB_eq sl (i : Int) (xn : Int) (yn : Int) (q : Int) hpos Hq.out)
              have c0 := grid_cell KGW2.out (xn - 1) yn q (by omega) (by omega) (by have := Hq.out; rw [show ((xn - 1 : Nat) : Int) = (xn : Int) - 1 from by omega]; exact this)
              clear hz
              generalize tB sl (i : Int) (xn : Int) (yn : Int) = E at *
              go_wp2_with fail
              go_meet
              exact ⟨by rw [hE.out], rfl⟩
          obtain ⟨rfl, hwc⟩ := hcut
          have hwc := hwc.symm
          subst hwc
          have HE := Lib.hid (show tB sl (i : Int) (xn : Int) (yn : Int) = true → 0 < (xn : Int) from fun h => tB_pos h)
          generalize tB sl (i : Int) (xn : Int) (yn : Int) = e72 at *
          go_upto_if 72 with (fail)
          go_cut [] (fun wx => Own wx (g5 + 1) 4 boolc 1 (.slice (some ⟨g7, 0, none⟩) (sl.length + 1) (sl.length + 1)) (put e72 (p : Int) M2) ∧ Bk wx g5 68 (gcells (gridL sl)) ∧ Below W.heap.size W wx)
          case first =>
            cases e72
            · go_wp2_with fail
              go_meet
              exact ⟨HOW2.out, KGW2.out, HBW2.out⟩
            · have hpos := HE.out rfl
              have c0 := grid_cell KGW2.out xn yn p (by omega) (by omega) Hp.out
              have hML := HLW2.out
              obtain ⟨hBg, hgl, hce, hfz⟩ := HOW2.out.at_ boolc_len (by omega)
              obtain ⟨yv, hyv⟩ : ∃ yv, M2[p]? = some yv := ⟨M2[p]'(by omega), by rw [List.getElem?_eq_getElem]⟩
              have q0 : W2.cell? ⟨g7, p, none⟩ = some (.bool yv) := by simpa using hce p yv hyv 0 _ rfl
              have hML := Lib.hid hML
              clear hce hyv
              obtain ⟨hO2, hG2⟩ := HOW2.out.put boolc_len p (by have := hML.out; omega) true
              rw [Nat.mul_one] at hO2 hG2
              have hK2 := Lib.hid (KGW2.out.grown hG2 (by omega))
              have hB2 := Lib.hid (HBW2.out.grown hG2 HBW2.out.size (fun j hj => by injection hj with hj; have := Hg.out; omega))
              have hO2 := Lib.hid hO2
              clear hG2
              go_wp2_with fail
              go_meet
              exact ⟨by rw [put_true]; exact hO2.out, hK2.out, hB2.out⟩
          obtain ⟨hO, hK, hb⟩ := hcut
          obtain ⟨W3, rfl⟩ : ∃ W3 : World, W3 = wc := ⟨_, rfl⟩
          have HOW3 := Lib.hid hO
          have KGW3 := Lib.hid hK
          have HBW3 := Lib.hid hb
          have HLW3 := Lib.hid (show (put e72 (p : Int) M2).length = sl.length + 1 from by rw [put_len]; exact HLW2.out)
          have HQW3 := Lib.hid (HA.out.ext HBW3.out)
          have HSW3 := Lib.hid (show put e72 (p : Int) M2 = put e72 (p : Int) M2 from rfl)
          clear hO hK hb HE
          generalize hM3 : put e72 (p : Int) M2 = M3 at HOW3 HLW3 ⊢
          have HM3 := Lib.hid hM3
          clear hM3 HSW3
          go_upto_region 13 with (fail)
          go_cut [91] (fun c wx => c = .bool (tC sl (i : Int) (xn : Int) (yn : Int)) ∧ wx = W3)
          case first =>
            by_cases hz : yn = 0
            · have hE := Lib.hid (show tC sl (i : Int) (xn : Int) (yn : Int) = false from by rw [hz]; exact tC_no ..)
              have hd : decide (0 < yn) = false := by rw [decide_eq_false_iff_not]; omega
              clear hz
              generalize tC sl (i : Int) (xn : Int) (yn : Int) = E at *
              go_wp2_with fail
              go_meet
              exact ⟨by rw [hE.out], rfl⟩
            · have hpos : (0 : Int) < (yn : Int) := by omega
              have hd : decide (0 < yn) = true := by rw [decide_eq_true_eq]; omega
              have hE := Lib.hid (tC_eq sl (i : Int) (xn : Int) (yn : Int) (p : Int) hpos Hp.out)
              have c0 := grid_cell KGW3.out xn yn p (by omega) (by omega) Hp.out
              clear hz
              generalize tC sl (i : Int) (xn : Int) (yn : Int) = E at *
              go_wp2_with fail
              go_meet
              exact ⟨by rw [hE.out], rfl⟩
          obtain ⟨rfl, hwc⟩ := hcut
          have hwc := hwc.symm
          subst hwc
          have HE := Lib.hid (show tC sl (i : Int) (xn : Int) (yn : Int) = true → 0 < (yn : Int) from fun h => tC_pos h)
          generalize tC sl (i : Int) (xn : Int) (yn : Int) = e91 at *
          go_upto_if 91 with (fail)
          go_cut [] (fun wx => Own wx (g5 + 1) 4 boolc 1 (.slice (some ⟨g7, 0, none⟩) (sl.length + 1) (sl.length + 1)) (put e91 (r : Int) M3) ∧ Bk wx g5 68 (gcells (gridL sl)) ∧ Below W.heap.size W wx)
          case first =>
            cases e91
            · go_wp2_with fail
              go_meet
              exact ⟨HOW3.out, KGW3.out, HBW3.out⟩
            · have hpos := HE.out rfl
              have c0 := grid_cell KGW3.out xn (yn - 1) r (by omega) (by omega) (by have := Hr.out; rw [show ((yn - 1 : Nat) : Int) = (yn : Int) - 1 from by omega]; exact this)
              have hML := HLW3.out
              obtain ⟨hBg, hgl, hce, hfz⟩ := HOW3.out.at_ boolc_len (by omega)
              obtain ⟨yv, hyv⟩ : ∃ yv, M3[r]? = some yv := ⟨M3[r]'(by omega), by rw [List.getElem?_eq_getElem]⟩
              have q0 : W3.cell? ⟨g7, r, none⟩ = some (.bool yv) := by simpa using hce r yv hyv 0 _ rfl
              have hML := Lib.hid hML
              clear hce hyv
              obtain ⟨hO2, hG2⟩ := HOW3.out.put boolc_len r (by have := hML.out; omega) true
              rw [Nat.mul_one] at hO2 hG2
              have hK2 := Lib.hid (KGW3.out.grown hG2 (by omega))
              have hB2 := Lib.hid (HBW3.out.grown hG2 HBW3.out.size (fun j hj => by injection hj with hj; have := Hg.out; omega))
              have hO2 := Lib.hid hO2
              clear hG2
              go_wp2_with fail
              go_meet
              exact ⟨by rw [put_true]; exact hO2.out, hK2.out, hB2.out⟩
          obtain ⟨hO, hK, hb⟩ := hcut
          obtain ⟨W4, rfl⟩ : ∃ W4 : World, W4 = wc := ⟨_, rfl⟩
          have HOW4 := Lib.hid hO
          have KGW4 := Lib.hid hK
          have HBW4 := Lib.hid hb
          have HLW4 := Lib.hid (show (put e91 (r : Int) M3).length = sl.length + 1 from by rw [put_len]; exact HLW3.out)
          have HQW4 := Lib.hid (HA.out.ext HBW4.out)
          have HSW4 := Lib.hid (show put e91 (r : Int) M3 = put e91 (r : Int) M3 from rfl)
          clear hO hK hb HE
          generalize hM4 : put e91 (r : Int) M3 = M4 at HOW4 HLW4 ⊢
          have HM4 := Lib.hid hM4
          clear hM4 HSW4
          rw [HM2.out, HM3.out, HM4.out] at hst
          go_upto_region 15 with (fail)
          go_cut [112] (fun c wx => c = .bool (tD sl (i : Int) (xn : Int) (yn : Int)) ∧ wx = W4)
          case first =>
            by_cases hz : yn = 0
            · have hE := Lib.hid (show tD sl (i : Int) (xn : Int) (yn : Int) = false from by rw [hz]; exact tD_no ..)
              have hd : decide (0 < yn) = false := by rw [decide_eq_false_iff_not]; omega
              clear hz
              generalize tD sl (i : Int) (xn : Int) (yn : Int) = E at *
              go_wp2_with fail
              go_meet
              exact ⟨by rw [hE.out], rfl⟩
            · have hpos : (0 : Int) < (yn : Int) := by omega
              have hd : decide (0 < yn) = true := by rw [decide_eq_true_eq]; omega
              have hE := Lib.hid (tD_eq sl (i : Int) (xn : Int) (yn : Int) (r : Int) hpos Hr.out)
              have c0 := grid_cell KGW4.out xn (yn - 1) r (by omega) (by omega) (by have := Hr.out; rw [show ((yn - 1 : Nat) : Int) = (yn : Int) - 1 from by omega]; exact this)
              clear hz
              generalize tD sl (i : Int) (xn : Int) (yn : Int) = E at *
              go_wp2_with fail
              go_meet
              exact ⟨by rw [hE.out], rfl⟩
          obtain ⟨rfl, hwc⟩ := hcut
          have hwc := hwc.symm
          subst hwc
          have HE := Lib.hid (show tD sl (i : Int) (xn : Int) (yn : Int) = true → 0 < (yn : Int) from fun h => tD_pos h)
          generalize tD sl (i : Int) (xn : Int) (yn : Int) = e112 at *
          cases e112
          · rw [put_false] at hst
            go_wp2_with fail
            go_roundw
            case rel => exact ⟨xn + 1, by omega, by go_num, by rw [Int.natCast_add, Int.natCast_one, hst.out]; exact HOW4.out, KGW4.out, HBW4.out⟩
            case measure => first | (simp [intOf]; done) | (simp [intOf]; omega)
          · rw [put_true] at hst
            have hpos := HE.out rfl
            have c0 := grid_cell KGW4.out xn yn p (by omega) (by omega) Hp.out
            have hML := HLW4.out
            obtain ⟨hBg, hgl, hce, hfz⟩ := HOW4.out.at_ boolc_len (by omega)
            obtain ⟨yv, hyv⟩ : ∃ yv, M4[p]? = some yv := ⟨M4[p]'(by omega), by rw [List.getElem?_eq_getElem]⟩
            have q0 : W4.cell? ⟨g7, p, none⟩ = some (.bool yv) := by simpa using hce p yv hyv 0 _ rfl
            have hML := Lib.hid hML
            clear hce hyv
            obtain ⟨hO2, hG2⟩ := HOW4.out.put boolc_len p (by have := hML.out; omega) true
            rw [Nat.mul_one] at hO2 hG2
            have hK2 := Lib.hid (KGW4.out.grown hG2 (by omega))
            have hB2 := Lib.hid (HBW4.out.grown hG2 HBW4.out.size (fun j hj => by injection hj with hj; have := Hg.out; omega))
            have hO2 := Lib.hid hO2
            clear hG2
            go_wp2_with fail
            go_roundw
            case rel => exact ⟨xn + 1, by omega, by go_num, by rw [Int.natCast_add, Int.natCast_one, hst.out]; exact hO2.out, hK2.out, hB2.out⟩
            case measure => first | (simp [intOf]; done) | (simp [intOf]; omega)
        · obtain rfl : xn = nw := by omega
          have hst := Lib.hid (mkL_row sl (i : Int) (xn : Int) (yn : Int))
          go_wp2_with fail
          go_roundw
          case rel => exact ⟨yn + 1, by omega, by go_num, by rw [Int.natCast_add, Int.natCast_one, ← hst.out]; exact HOW1.out, KGW1.out, HBW1.out⟩
          case measure => first | (simp [intOf]; done) | (simp [intOf]; omega)
    · obtain rfl : yn = nh := by omega
      have HLo := Lib.hid (mkL_len sl (i : Int) (nw : Int) (yn : Int) 0)
      generalize mkL sl (i : Int) (nw : Int) (yn : Int) 0 = M at *
      have HB8 := Lib.hid (HBo.out.alloc HBo.out.size (.cells #[] 2))
      have HO8 := Lib.hid (HOo.out.alloc (.cells #[] 2))
      have hP0 := Lib.hid (Own.empty (α := Int) (c := i64c) (sz := 1) (E := 2) wo wo.heap.size wo.heap.size rfl (Nat.le_refl _))
      have hg7 := Lib.hid (show g7 < wo.heap.size from HOo.out.lt g7 rfl)
      have hyd : decide ((yn : Int) < (yn : Int)) = false := by simp
      clear b0
      go_wp2_with fail
      clear b1
      generalize wo.alloc (.cells #[] 2) = w8 at *
      generalize wo.heap.size = B8 at *
      go_loopw [10, 11] (fun r c wr => ∃ k : Nat, k ≤ sl.length ∧ c = .int .i64 (k : Int) ∧ Own wr B8 2 i64c 1 r (outN M i k) ∧ Own wr (g5 + 1) 4 boolc 1 (.slice (some ⟨g7, 0, none⟩) (sl.length + 1) (sl.length + 1)) M ∧ Below W.heap.size W wr ∧ B8 ≤ wr.heap.size) (fun _ c _ => sl.length - (intOf c).toNat)
      case atStart => exact ⟨0, by omega, rfl, hP0.out, HO8.out, HB8.out, Nat.le_of_lt (hP0.out.lt _ rfl)⟩
      case round =>
        obtain ⟨k, hk, rfl, hO, hM, hb, hsz⟩ := hrel
        have HO := Lib.hid hO
        have HM := Lib.hid hM
        have HBr := Lib.hid hb
        have hlen := Lib.hid (outN_len M i k)
        have a2 := (HA.out.ext hb).c2
        clear hO hM hb
        by_cases hlt2 : k < sl.length
        · have hst := Lib.hid (outN_succ M i k)
          have hML := HLo.out
          obtain ⟨hBg, hgl, hce, hfz⟩ := HM.out.at_ boolc_len (by omega)
          obtain ⟨yv, hyv⟩ : ∃ yv, M[k + 1]? = some yv := ⟨M[k + 1]'(by omega), by rw [List.getElem?_eq_getElem]⟩
          have q0 : wr.cell? ⟨g7, k + 1, none⟩ = some (.bool yv) := by simpa using hce (k + 1) yv hyv 0 _ rfl
          rw [List.getD_eq_getElem?_getD, hyv, Option.getD_some] at hst
          have hML := Lib.hid hML
          clear hce hyv
          by_cases hki : k = i
          · have hs2 := Lib.hid (show outN M i (k + 1) = outN M i k from by rw [hst.out, if_neg (by simp [hki])])
            clear hst
            subst hki
            cases yv
            all_goals
              go_wp2_with fail
              go_roundw
              case rel => exact ⟨k + 1, by omega, by go_num, by rw [hs2.out]; exact HO.out, HM.out, HBr.out, hsz⟩
              case measure => first | (simp [intOf]; done) | (simp [intOf]; omega)
          · have hne : ((k : Int) != (i : Int)) = true := by rw [bne_iff_ne]; omega
            have hki := Lib.hid hki
            cases yv
            · have hs2 := Lib.hid (show outN M i (k + 1) = outN M i k from by rw [hst.out, if_neg (by simp)])
              clear hst
              go_wp2_with fail
              go_roundw
              case rel => exact ⟨k + 1, by omega, by go_num, by rw [hs2.out]; exact HO.out, HM.out, HBr.out, hsz⟩
              case measure => first | (simp [intOf]; done) | (simp [intOf]; omega)
            · have hs2 := Lib.hid (show outN M i (k + 1) = outN M i k ++ [(k : Int)] from by rw [hst.out, if_pos (by simp [hki.out])])
              clear hst
              generalize outN M i k = us at *
              have hba := Lib.hid (HBr.out.alloc HBr.out.size (.cells #[.int .i64 (k : Int)] 2))
              have HMa := Lib.hid (HM.out.alloc (.cells #[.int .i64 (k : Int)] 2))
              go_wp2_with (at_builtin; refine push_i64at rfl _ _ rfl B8 us _ rfl (HO.out.alloc _) ⟨_, 0, none⟩ _ rfl ((Bk.new _ _ _ _ rfl).cell 0 _ rfl) (by have := hlen.out; omega) (Nat.le_trans hsz (by simp)) ?_)
              intro v4 w4 hO4 hG4 hat
              have hb4 := Lib.hid (hba.out.grown hG4 hba.out.size (fun j hj => Nat.le_trans (by have := Hg.out; have := hg7.out; omega) (HO.out.base j hj)))
              have HM4 := Lib.hid (HMa.out.keep (fun j hj => hG4.block j (HMa.out.lt j hj) (fun he => by have hj2 : g7 = j := (by simpa [Value.ownBlock] using hj); have := HO.out.base _ he.symm; have := hg7.out; omega)))
              have hsz4 := Lib.hid (Nat.le_trans hsz (Nat.le_trans (show wr.heap.size ≤ (wr.alloc (.cells #[.int .i64 (k : Int)] 2)).heap.size from by simp) hG4.size))
              rw [← hs2.out] at hO4
              have hO4 := Lib.hid hO4
              clear hG4 hat
              go_wp2_with fail
              go_roundw
              case rel => exact ⟨k + 1, by omega, by go_num, hO4.out, HM4.out, hb4.out, hsz4.out⟩
              case measure => first | (simp [intOf]; done) | (simp [intOf]; omega)
        · obtain rfl : k = sl.length := by omega
          rw [hout.out] at HO
          go_wp2_with fail
          go_ret
          exact ⟨_, rfl, HO.out.more (by have := Hg.out; have := hg7.out; omega), HBr.out⟩
end Go.Proofs.Ytpjdgpcdcihogaa
