/-
DrySquare, of the reference. Conditions: numbers are of their kinds; slices can be read.
-/
import Derived.Test.YtipcmakidifelaaGS7
set_option linter.unusedVariables false
set_option linter.unusedSimpArgs false
set_option maxRecDepth 100000
namespace Go.Proofs.Ytipcmakidifelaa
open Go.RowKit
set_option maxHeartbeats 2000000 in
theorem specDrySquare_calls (w h : Int) (hs : List Int) (gl : List Cell) (z : Value) (W : World) (hq : GdIn W w h hs gl z) :
    Calls Try.prog 26 #[.agg (gdA w h hs z)] W (RetG2 W (dryG w h hs gl)) := by
  have hB := ext_alloc ((Below.refl W.heap.size W).alloc (Nat.le_refl _) (.cells (gdA w h hs z) 36)) (.cells Try.zeroCells36 36)
  have HB := Lib.hid hB
  have KG := Lib.hid ((Bk.new W 36 (gdA w h hs z) W.heap.size rfl).alloc (.cells Try.zeroCells36 36))
  have KR := Lib.hid (Bk.new (W.alloc (.cells (gdA w h hs z) 36)) 36 Try.zeroCells36 (W.heap.size + 1) (by simp))
  have hl := hq.hl
  have HQ := Lib.hid hq
  have qc := Lib.hid (sPools_calls W.heap.size _ w h hs gl z _ (hq.ext hB) KG.out)
  clear hB hq
  go_enter Try.func26, Try.ntmps26
  go_wp2_with fail
  refine qc.out.mono ?_
  rintro e w1 ⟨rfl, hb1⟩
  have HB1 := Lib.hid (ext_trans HB.out hb1)
  have KG1 := Lib.hid (KG.out.ext hb1)
  have KR1 := Lib.hid (KR.out.ext hb1)
  clear hb1 qc
  by_cases hc : poolG w h hs gl = 0
  · have hE := Lib.hid (show dryG w h hs gl = ⟨⟨w, h, levL w h hs gl, gl⟩, cntD (levL w h hs gl) hs 81, 0⟩ from if_pos hc)
    have ok0 := poolG_ok hc
    have ok := gOk_ok ok0.1
    have qo := Lib.hid (l04Own_calls w h hs hl gl z W.heap.size _ w1 KG1.out (HQ.out.sl.ext HB1.out) (by have := ok.len; omega))
    have ql := Lib.hid (fun W' (hb : Below W.heap.size W W') g T hg => sLevels_calls ok ok0.2 hl z g T W' hg (HQ.out.sl.ext hb))
    have hL := Lib.hid (levL_len w h hs gl)
    have hne := Lib.hid (fun F hF => lev_ne ok (levOf_is (F := F) hF))
    have hlo := Lib.hid (fun F hF => (levOf_arr (w := w) (h := h) (hs := hs) (gl := gl) (F := F) hF))
    rw [hc]
    clear hc ok ok0
    go_wp2_with fail
    refine qo.out.mono ?_
    rintro e w2 ⟨v2, rfl, hO2, hb2⟩
    obtain ⟨A2, cap2, rfl, -, -, -⟩ := (hO2.sl Cell.c_len).cell
    have KG2 := Lib.hid ((KG1.out.ext hb2).alloc (.cells Try.zeroCells36 36))
    have KR2 := Lib.hid ((KR1.out.ext hb2).alloc (.cells Try.zeroCells36 36))
    have hr2 := Lib.hid (show W.heap.size + 1 < w2.heap.size from (KR1.out.ext hb2).lt)
    have HO2 := Lib.hid (hO2.alloc (.cells Try.zeroCells36 36))
    have hO2b := Lib.hid (fun j hj => hO2.lt j hj)
    have hr1 := Lib.hid (show W.heap.size + 1 < w1.heap.size from KR1.out.lt)
    have KX2 := Lib.hid (Bk.new w2 36 Try.zeroCells36 w2.heap.size rfl)
    have HB2 := Lib.hid ((ext_trans HB1.out hb2).alloc (ext_trans HB1.out hb2).size (.cells Try.zeroCells36 36))
    clear hO2 hb2
    go_wp2_with (refine wpList_store_m rfl 36 (.tmp 6) (.tmp 15) rfl _ 0 (gdA w h hs (.slice A2 gl.length cap2)) rfl rfl _ _ KX2.out (by rw [gdA_size _ _ _ _ hl, zG_size]; omega) (by rw [gdA_size _ _ _ _ hl]; exact gd_sz _) (gdA_one _ _ _ _ _ _) ?_)
    intro w3 hK3 hG3
    rw [gdA_zero _ _ _ hl] at hK3
    have KX3 := Lib.hid hK3
    have KG3 := Lib.hid (KG2.out.grownM hG3 (by have := hr2.out; omega))
    have KR3 := Lib.hid (KR2.out.grownM hG3 (by have := hr2.out; omega))
    have HB3 := Lib.hid (HB2.out.grown hG3 HB2.out.size (fun j hj => by injection hj with hj; have := hr2.out; omega))
    have HO3 := Lib.hid (HO2.out.keep fun j hj => hG3.block j (HO2.out.lt j hj) (fun e => by injection e with e; have := hO2b.out j hj; omega))
    clear hK3 hG3 KG2 KR2 KX2 HB2 HO2
    generalize w2.heap.size = X at *
    go_wp2_with fail
    refine (ql.out _ HB3.out _ _ KG3.out).mono ?_
    rintro e w4 ⟨⟨F, hF, rfl⟩, hb4⟩
    have hEF := Lib.hid (show levA w h F = levL w h hs gl from hlo.out F hF)
    have hle := Lib.hid (hne.out F hF)
    rw [hEF.out]
    have fin := Lib.hid (fun i hi => (hle.out i hi))
    clear hF hEF hle hne hlo
    generalize levL w h hs gl = L at *
    have KX4 := Lib.hid (KX3.out.ext hb4)
    have KG4 := Lib.hid (KG3.out.ext hb4)
    have KR4 := Lib.hid (KR3.out.ext hb4)
    have HO4 := Lib.hid (HO3.out.ext hb4)
    have HB4 := Lib.hid (ext_trans HB3.out hb4)
    clear hb4
    go_wp2_with (refine wpList_store_m rfl 25 (.tmp 17) (.tmp 16) rfl _ 2 (hA L) rfl rfl _ _ KX4.out (by rw [hA_size, hL.out, gdA_size _ _ _ _ hl]; omega) (by rw [hA_size, hL.out]; exact a81_sz _) (hA_one L) ?_)
    intro w5 hK5 hG5
    rw [gdA_put2 w h hs L hl hL.out] at hK5
    have KX5 := Lib.hid hK5
    have KG5 := Lib.hid (KG4.out.grownM hG5 (by have := hr2.out; omega))
    have KR5 := Lib.hid (KR4.out.grownM hG5 (by have := hr2.out; omega))
    have HB5 := Lib.hid (HB4.out.grown hG5 HB4.out.size (fun j hj => by injection hj with hj; have := hr2.out; omega))
    have HO5 := Lib.hid (HO4.out.keep fun j hj => hG5.block j (HO4.out.lt j hj) (fun e => by injection e with e; have := hO2b.out j hj; omega))
    clear hK5 hG5 KX4 KG4 KR4 HO4 HB4 hO2b
    go_wp2_with fail
    go_loopw [7, 8] (fun t i wr => ∃ k : Nat, k ≤ 9 ∧ i = .int .i64 (k : Int) ∧ t = .int .i64 (cntD L hs (k * 9)) ∧ Below w5.heap.size w5 wr) (fun _ i _ => 9 - (intOf i).toNat)
    case atStart => exact ⟨0, by omega, rfl, rfl, Below.refl _ _⟩
    case round =>
      obtain ⟨k, hk, rfl, rfl, hb⟩ := hrel
      have HBo := Lib.hid hb
      clear hb
      by_cases hlt : k < 9
      · have hd9 : decide ((k : Int) < 9) = true := by rw [decide_eq_true_eq]; omega
        go_wp2_with fail
        go_loopw [7, 9] (fun t i wr => ∃ j : Nat, j ≤ 9 ∧ i = .int .i64 (j : Int) ∧ t = .int .i64 (cntD L hs (k * 9 + j)) ∧ Below w5.heap.size w5 wr) (fun _ i _ => 9 - (intOf i).toNat)
        case atStart => exact ⟨0, by omega, rfl, rfl, HBo.out⟩
        case round =>
          obtain ⟨j, hj, rfl, rfl, hb3⟩ := hrel
          have HB3' := Lib.hid hb3
          clear hb3
          by_cases hlt2 : j < 9
          · have hd10 : decide ((j : Int) < 9) = true := by rw [decide_eq_true_eq]; omega
            have i0 : (j : Int) < 9 := by omega
            have i1 : (k : Int) < 9 := by omega
            have hh := (KG5.out.ext HB3'.out).ht hl j k hlt2 hlt
            have ht := (KX5.out.ext HB3'.out).ht hL.out j k hlt2 hlt
            rw [show htL hs ⟨(j : Int), (k : Int)⟩ = hs.getD (k * 9 + j) 0 from by rw [htL_idx, idxC_nat]] at hh
            rw [show htL L ⟨(j : Int), (k : Int)⟩ = L.getD (k * 9 + j) 0 from by rw [htL_idx, idxC_nat]] at ht
            have cb := cntD_bd (L := L) (hs := hs) (k * 9 + j)
            have hcmp := fin.out (k * 9 + j) (by omega)
            have hc1 := Lib.hid (show cntD L hs (k * 9 + (j + 1)) = cntD L hs (k * 9 + j) + (if decide (hs.getD (k * 9 + j) 0 < L.getD (k * 9 + j) 0) = true then 1 else 0) from rfl)
            generalize L.getD (k * 9 + j) 0 = a at *
            generalize hs.getD (k * 9 + j) 0 = b at *
            generalize cntD L hs (k * 9 + j) = C at *
            have wc : wrap64 (C + 1) = C + 1 := wr64 (by omega) (by omega)
            by_cases e : b < a
            · rw [if_pos (decide_eq_true e)] at hc1
              have hn1 : (a == b) = false := by rw [beq_eq_false_iff_ne]; omega
              have hn2 : (a != b) = true := by rw [bne, hn1]; rfl
              clear e hcmp
              go_wp2_with fail
              go_quiet (fail)
              go_wp2_with fail
              go_roundw
              case rel => exact ⟨j + 1, by omega, by go_num, by first | (rw [hc1.out]; done) | (rw [hc1.out]; go_num), ext_drewN HB3'.out _⟩
              case measure => first | (simp [intOf]; done) | (simp [intOf]; omega)
            · rw [if_neg (by rw [decide_eq_true_eq]; exact e)] at hc1
              have hn1 : (a == b) = true := by rw [beq_iff_eq]; omega
              have hn2 : (a != b) = false := by rw [bne, hn1]; rfl
              clear e hcmp
              go_wp2_with fail
              go_quiet (fail)
              go_wp2_with fail
              go_roundw
              case rel => exact ⟨j + 1, by omega, by go_num, by rw [hc1.out, Int.add_zero], ext_drewN HB3'.out _⟩
              case measure => first | (simp [intOf]; done) | (simp [intOf]; omega)
          · obtain rfl : j = 9 := by omega
            have hd10 : decide (((9 : Nat) : Int) < 9) = false := by decide
            go_wp2_with fail
            go_roundw
            case rel => exact ⟨k + 1, by omega, by go_num, by rw [Nat.succ_mul], HB3'.out⟩
            case measure => first | (simp [intOf]; done) | (simp [intOf]; omega)
      · obtain rfl : k = 9 := by omega
        simp only [show ((9 : Nat) : Int) = 9 from rfl, show 9 * 9 = 81 from rfl]
        have hd9 : decide ((9 : Int) < 9) = false := by decide
        have ldx := load_gd hL.out (KX5.out.ext HBo.out)
        go_wp2_with (first | (refine wpList_load_w rfl 36 (.tmp 6) rfl _ rfl _ ldx ?_) | (refine wpList_store_m rfl 36 (.tmp 2) (.tmp 41) rfl _ 0 (gdA w h L (.slice A2 gl.length cap2)) rfl rfl _ _ (KR5.out.ext HBo.out) (by rw [gdA_size _ _ _ _ hL.out, zG_size]; omega) (by rw [gdA_size _ _ _ _ hL.out]; exact gd_sz _) (gdA_one _ _ _ _ _ _) ?_))
        intro w9 hK9 hG9
        rw [gdA_zero _ _ _ hL.out] at hK9
        have HK9 := Lib.hid hK9
        have HB9 := Lib.hid ((ext_trans HB5.out HBo.out).grown hG9 (ext_trans HB5.out HBo.out).size (fun j hj => by injection hj with hj; omega))
        have HO9 := Lib.hid ((HO5.out.ext HBo.out).grownM hG9 (by have := hr1.out; omega))
        clear hK9 hG9 ldx
        go_wp2_with fail
        exact cellret3 Try.results26 rfl rfl rfl (load_gd hL.out HK9.out) rfl ⟨_, by rw [hE.out]; rfl, by rw [hE.out]; exact HO9.out.more (by have := hr1.out; omega), HB9.out⟩
  · have hE := Lib.hid (show dryG w h hs gl = ⟨⟨0, 0, z81, []⟩, 0, poolG w h hs gl⟩ from if_neg hc)
    have hcb : (poolG w h hs gl == 0) = false := by simpa using hc
    have hcb2 : (poolG w h hs gl != 0) = true := by simpa using hc
    have hzg := Lib.hid zeroG
    generalize poolG w h hs gl = C at *
    clear hc
    go_wp2_with (refine wpList_store_m rfl 36 (.tmp 2) (.tmp 13) rfl _ 0 Try.zeroCells36 rfl rfl _ _ KR1.out (by omega) (by rw [zG_size]; exact gd_sz _) (by rw [hzg.out]; exact gdA_one _ _ _ _ _ _) ?_)
    intro w9 hK9 hG9
    rw [writeAt_all _ _ rfl] at hK9
    have HK9 := Lib.hid (show Bk w9 (W.heap.size + 1) 36 (gdA 0 0 z81 (.slice none 0 0)) from by rw [← hzg.out]; simpa using hK9)
    have HB9 := Lib.hid (HB1.out.grown hG9 HB1.out.size (fun j hj => by injection hj with hj; omega))
    clear hK9 hG9
    go_wp2_with fail
    exact cellret3 Try.results26 rfl rfl rfl (load_gd z81_len HK9.out) rfl ⟨.slice none 0 0, by rw [hE.out]; rfl, by rw [hE.out]; exact Own.nil_ _ _ _ _ _, HB9.out⟩
end Go.Proofs.Ytipcmakidifelaa
