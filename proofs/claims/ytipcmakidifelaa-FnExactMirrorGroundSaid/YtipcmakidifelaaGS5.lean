/-
PoolSum, of both. Conditions: numbers are of their kinds; slices can be read.
-/
import Derived.Test.YtipcmakidifelaaGS4
set_option linter.unusedVariables false
set_option linter.unusedSimpArgs false
set_option maxRecDepth 100000
namespace Go.Proofs.Ytipcmakidifelaa
open Go.RowKit
def sumD (L hs : List Int) : Nat → Int
  | 0 => 0
  | k + 1 => sumD L hs k + (L.getD k 0 - hs.getD k 0)
def cntD (L hs : List Int) : Nat → Int
  | 0 => 0
  | k + 1 => cntD L hs k + (if decide (hs.getD k 0 < L.getD k 0) = true then 1 else 0)
def Fine (L : List Int) : Prop := ∀ i, 0 ≤ L.getD i 0 ∧ L.getD i 0 ≤ 200
theorem sumD_bd {L hs : List Int} (hL : Fine L) (hh : Fine hs) : ∀ k : Nat, -(200 * (k : Int)) ≤ sumD L hs k ∧ sumD L hs k ≤ 200 * (k : Int)
  | 0 => by simp [sumD]
  | k + 1 => by
    have := sumD_bd hL hh k
    have h1 := hL k
    have h2 := hh k
    simp only [sumD]
    omega
theorem cntD_bd {L hs : List Int} : ∀ k : Nat, 0 ≤ cntD L hs k ∧ cntD L hs k ≤ (k : Int)
  | 0 => by simp [cntD]
  | k + 1 => by
    have := cntD_bd (L := L) (hs := hs) k
    simp only [cntD]
    split <;> omega
theorem fine_hs {w h : Int} {hs : List Int} {gl : List Cell} (ok : GOk w h hs gl) (hl : hs.length = 81) : Fine hs := by
  intro i
  by_cases hi : i < 81
  · cases hp : gpB w h (cellOf i)
    · have := ok.zero i hi hp
      omega
    · have := ok.ht _ hp
      rw [htL_idx, cell_idx] at this
      exact this
  · rw [List.getD_eq_getElem?_getD, List.getElem?_eq_none (by omega)]
    simp
theorem fine_lev {w h : Int} {hs : List Int} {gl : List Cell} (ok : GOk w h hs gl) : Fine (levL w h hs gl) := by
  intro i
  by_cases hi : i < 81
  · unfold levL
    rw [List.getD_eq_getElem?_getD, levA_at w h _ i hi, Option.getD_some]
    cases hp : gpB w h (cellOf i)
    · simp
    · rw [if_pos rfl]
      by_cases hx : ∃ F, IsLev w h hs gl F
      · obtain ⟨F, hF⟩ := hx
        have := att_bd ok.ht ok.gl ((levOf_is hF).att _ hp)
        exact ⟨this.1, this.2.1⟩
      · unfold levOf
        rw [dif_neg hx]
        simp
  · rw [List.getD_eq_getElem?_getD, List.getElem?_eq_none (by rw [levL_len]; omega)]
    simp
noncomputable def poolS (w h : Int) (hs : List Int) (gl : List Cell) : Int × Int := if poolG w h hs gl = 0 then (sumD (levL w h hs gl) hs 81, 0) else (0, poolG w h hs gl)
def RetI2 (W : World) (r : Int × Int) (e : Ending) (w' : World) : Prop := e = .returned (.tuple #[.int .i64 r.1, .int .i64 r.2]) ∧ Below W.heap.size W w'
set_option maxHeartbeats 2000000 in
theorem raised_calls {w h : Int} {hs : List Int} {gl : List Cell} (ok : GOk w h hs gl) (hne : gl ≠ []) (hl : hs.length = 81) (z : Value) (W : World) (hz : Sl W W.heap.size Cell.c 2 z gl) :
    Calls Try.prog 54 #[.agg (gdA w h hs z)] W fun e w' => e = .returned (.tuple #[.int .i64 (cntD (levL w h hs gl) hs 81), .int .i64 (sumD (levL w h hs gl) hs 81)]) ∧ Below W.heap.size W w' := by
  have hB := (Below.refl W.heap.size W).alloc (Nat.le_refl _) (.cells (gdA w h hs z) 36)
  have HB := Lib.hid hB
  have K := Lib.hid (Bk.new W 36 (gdA w h hs z) W.heap.size rfl)
  have ldg := load_gd hl K.out
  have ql := Lib.hid (levels_calls ok hne hl z _ (hz.ext hB))
  have hL := Lib.hid (levL_len w h hs gl)
  have fL := Lib.hid (fine_lev ok)
  have fh := Lib.hid (fine_hs ok hl)
  clear hB hz
  generalize levL w h hs gl = L at *
  go_enter Try.func54, Try.ntmps54
  go_wp2_with (refine wpList_load_w rfl 36 (.tmp 1) rfl _ rfl _ ldg ?_)
  refine ql.out.mono ?_
  rintro e w1 ⟨rfl, hb1⟩
  have HB1 := Lib.hid (ext_trans HB.out hb1)
  have K1 := Lib.hid (K.out.ext hb1)
  clear hb1 ldg ql
  go_wp2_with fail
  go_loopw [4, 5, 13] (fun c t i wr => ∃ k : Nat, k ≤ 9 ∧ i = .int .i64 (k : Int) ∧ c = .int .i64 (cntD L hs (k * 9)) ∧ t = .int .i64 (sumD L hs (k * 9)) ∧ Below w1.heap.size w1 wr) (fun _ _ i _ => 9 - (intOf i).toNat)
  case atStart => exact ⟨0, by omega, rfl, rfl, rfl, Below.refl _ _⟩
  case round =>
    obtain ⟨k, hk, rfl, rfl, rfl, hb⟩ := hrel
    have HBo := Lib.hid hb
    clear hb
    by_cases hlt : k < 9
    · have ix := hA_row L hL.out k hlt
      have hd9 : decide ((k : Int) < 9) = true := by rw [decide_eq_true_eq]; omega
      have rs := rowA_size L hL.out k hlt
      have st := run_storeCells_new (P := Try.prog) wr 24 #[.int .i16 0, .int .i16 0, .int .i16 0, .int .i16 0, .int .i16 0, .int .i16 0, .int .i16 0, .int .i16 0, .int .i16 0] (rowA L k) (rs.symm ▸ info9) (Eq.trans (show _ = 9 from rfl) rs.symm) (rowA_one L k)
      have ldr := run_loadCellsFrom_new (P := Try.prog) wr 24 (rowA L k) 9 rs
      have HB2 := Lib.hid (HBo.out.alloc HBo.out.size (.cells (rowA L k) 24))
      go_upto_region 5 with (fail)
      clear st ix rs
      have ldv := load_row hL.out k hlt (Bk.new wr 24 (rowA L k) wr.heap.size rfl)
      generalize wr.alloc (.cells (rowA L k) 24) = w2 at *
      go_wp2_with (refine wpList_load_v rfl 24 (.tmp 7) rfl _ rfl _ ldv ?_)
      clear ldr ldv
      go_loopw [4, 5, 18] (fun c t i w3 => ∃ j : Nat, j ≤ 9 ∧ i = .int .i64 (j : Int) ∧ c = .int .i64 (cntD L hs (k * 9 + j)) ∧ t = .int .i64 (sumD L hs (k * 9 + j)) ∧ Below w1.heap.size w1 w3) (fun _ _ i _ => 9 - (intOf i).toNat)
      case atStart => exact ⟨0, by omega, rfl, rfl, rfl, HB2.out⟩
      case round =>
        obtain ⟨j, hj, rfl, rfl, rfl, hb3⟩ := hrel
        have HB3 := Lib.hid hb3
        clear hb3
        by_cases hlt2 : j < 9
        · have ix2 := rowA_ix L hL.out k j hlt hlt2
          have hd10 : decide ((j : Int) < 9) = true := by rw [decide_eq_true_eq]; omega
          have i0 : (j : Int) < 9 := by omega
          have i1 : (k : Int) < 9 := by omega
          have hh := (K1.out.ext HB3.out).ht hl j k hlt2 hlt
          rw [show htL hs ⟨(j : Int), (k : Int)⟩ = hs.getD (k * 9 + j) 0 from by rw [htL_idx, idxC_nat]] at hh
          have sb := sumD_bd fL.out fh.out (k * 9 + j)
          have cb := cntD_bd (L := L) (hs := hs) (k * 9 + j)
          have b1 := fL.out (k * 9 + j)
          have b2 := fh.out (k * 9 + j)
          have hs1 := Lib.hid (show sumD L hs (k * 9 + (j + 1)) = sumD L hs (k * 9 + j) + (L.getD (k * 9 + j) 0 - hs.getD (k * 9 + j) 0) from rfl)
          have hc1 := Lib.hid (show cntD L hs (k * 9 + (j + 1)) = cntD L hs (k * 9 + j) + (if decide (hs.getD (k * 9 + j) 0 < L.getD (k * 9 + j) 0) = true then 1 else 0) from rfl)
          generalize L.getD (k * 9 + j) 0 = a at *
          generalize hs.getD (k * 9 + j) 0 = b at *
          generalize sumD L hs (k * 9 + j) = S at *
          generalize cntD L hs (k * 9 + j) = C at *
          have w16 : IntKind.i16.wrap (a - b) = a - b := wrap16In _ (by omega) (by omega)
          have w64 : IntKind.i64.wrap (a - b) = a - b := wrapIn _ (by omega) (by omega)
          have ws : wrap64 (S + (a - b)) = S + (a - b) := wr64 (by omega) (by omega)
          have qb := Lib.hid (fun W' => bit_calls (decide (b < a)) W')
          cases hd : decide (b < a)
          all_goals
            rw [hd] at hc1 qb
            simp only [if_true, if_false, Bool.false_eq_true] at hc1 qb
            go_wp2_with fail
            refine (qb.out _).mono ?_
            rintro e w4 ⟨rfl, rfl⟩
            have wc : wrap64 (C + 1) = C + 1 := wr64 (by omega) (by omega)
            go_wp2_with fail
            go_roundw
            case rel => exact ⟨j + 1, by omega, by go_num, by first | (rw [hc1.out]; done) | (rw [hc1.out]; go_num), by first | (rw [hs1.out]; done) | (rw [hs1.out]; go_num), HB3.out⟩
            case measure => first | (simp [intOf]; done) | (simp [intOf]; omega)
        · obtain rfl : j = 9 := by omega
          have hd10 : decide (((9 : Nat) : Int) < 9) = false := by decide
          go_wp2_with fail
          go_roundw
          case rel => exact ⟨k + 1, by omega, by go_num, by rw [Nat.succ_mul], by rw [Nat.succ_mul], HB3.out⟩
          case measure => first | (simp [intOf]; done) | (simp [intOf]; omega)
    · obtain rfl : k = 9 := by omega
      simp only [show ((9 : Nat) : Int) = 9 from rfl, show 9 * 9 = 81 from rfl]
      have hd9 : decide ((9 : Int) < 9) = false := by decide
      go_wp2_with fail
      go_ret2
      exact ⟨rfl, ext_trans HB1.out HBo.out⟩
set_option maxHeartbeats 1000000 in
theorem implPoolSum_calls (w h : Int) (hs : List Int) (gl : List Cell) (z : Value) (W : World) (hq : GdIn W w h hs gl z) :
    Calls Try.prog 25 #[.agg (gdA w h hs z)] W (RetI2 W (poolS w h hs gl)) := by
  have hB := (Below.refl W.heap.size W).alloc (Nat.le_refl _) (.cells (gdA w h hs z) 36)
  have HB := Lib.hid hB
  have KG := Lib.hid (Bk.new W 36 (gdA w h hs z) W.heap.size rfl)
  have hl := hq.hl
  have ldg := load_gd hl KG.out
  have HQ := Lib.hid hq
  have qc := Lib.hid (levelCode_calls w h hs gl z _ (hq.ext hB))
  clear hB hq
  go_enter Try.func25, Try.ntmps25
  go_wp2_with (refine wpList_load_w rfl 36 (.tmp 1) rfl _ rfl _ ldg ?_)
  refine qc.out.mono ?_
  rintro e w1 ⟨rfl, hb1⟩
  have HB1 := Lib.hid (ext_trans HB.out hb1)
  have KG1 := Lib.hid (KG.out.ext hb1)
  clear hb1 ldg qc
  by_cases hc : poolG w h hs gl = 0
  · have hE := Lib.hid (show poolS w h hs gl = (sumD (levL w h hs gl) hs 81, 0) from if_pos hc)
    have ok := poolG_ok hc
    have ql := Lib.hid (raised_calls (gOk_ok ok.1) ok.2 hl z w1 (HQ.out.sl.ext HB1.out))
    have ldg := load_gd hl KG1.out
    rw [hc]
    clear hc ok
    generalize sumD (levL w h hs gl) hs 81 = S at *
    generalize cntD (levL w h hs gl) hs 81 = C at *
    go_wp2_with (refine wpList_load_w rfl 36 (.tmp 1) rfl _ rfl _ ldg ?_)
    refine ql.out.mono ?_
    rintro e w2 ⟨rfl, hb2⟩
    go_wp2_with fail
    go_ret2
    rw [hE.out]
    exact ⟨rfl, ext_trans HB1.out hb2⟩
  · have hE := Lib.hid (show poolS w h hs gl = (0, poolG w h hs gl) from if_neg hc)
    have hcb : (poolG w h hs gl == 0) = false := by simpa using hc
    have hcb2 : (poolG w h hs gl != 0) = true := by simpa using hc
    generalize poolG w h hs gl = C at *
    clear hc
    go_wp2_with fail
    go_ret2
    rw [hE.out]
    exact ⟨rfl, HB1.out⟩
set_option maxHeartbeats 1000000 in
theorem specPoolSum_calls (w h : Int) (hs : List Int) (gl : List Cell) (z : Value) (W : World) (hq : GdIn W w h hs gl z) :
    Calls Try.prog 24 #[.agg (gdA w h hs z)] W (RetI2 W (poolS w h hs gl)) := by
  have hB := (Below.refl W.heap.size W).alloc (Nat.le_refl _) (.cells (gdA w h hs z) 36)
  have HB := Lib.hid hB
  have KG := Lib.hid (Bk.new W 36 (gdA w h hs z) W.heap.size rfl)
  have hl := hq.hl
  have HQ := Lib.hid hq
  have qc := Lib.hid (sPools_calls W.heap.size _ w h hs gl z _ (hq.ext hB) KG.out)
  have hzz := Lib.hid zeroA81
  clear hB hq
  go_enter Try.func24, Try.ntmps24
  go_wp2_with fail
  refine qc.out.mono ?_
  rintro e w1 ⟨rfl, hb1⟩
  have HB1 := Lib.hid (ext_trans HB.out hb1)
  have KG1 := Lib.hid (KG.out.ext hb1)
  clear hb1 qc
  by_cases hc : poolG w h hs gl = 0
  · have hE := Lib.hid (show poolS w h hs gl = (sumD (levL w h hs gl) hs 81, 0) from if_pos hc)
    have ok0 := poolG_ok hc
    have ok := gOk_ok ok0.1
    have ql := Lib.hid (sLevelsL_calls ok ok0.2 hl z W.heap.size _ w1 KG1.out (HQ.out.sl.ext HB1.out))
    have hL := Lib.hid (levL_len w h hs gl)
    have fL := Lib.hid (fine_lev ok)
    have fh := Lib.hid (fine_hs ok hl)
    rw [hc]
    clear hc ok ok0
    generalize levL w h hs gl = L at *
    go_wp2_with fail
    refine ql.out.mono ?_
    rintro e w2 ⟨rfl, hb2⟩
    have KG2 := Lib.hid ((KG1.out.ext hb2).alloc (.cells Try.zeroCells25 25))
    have K2 := Lib.hid (Bk.new w2 25 Try.zeroCells25 w2.heap.size rfl)
    have HB2 := Lib.hid (ext_trans HB1.out hb2)
    have HB2a := Lib.hid (HB2.out.alloc HB2.out.size (.cells Try.zeroCells25 25))
    have hgt := Lib.hid (show W.heap.size < w2.heap.size from (KG1.out.ext hb2).lt)
    clear hb2
    go_wp2_with (refine wpList_store_m rfl 25 (.tmp 5) (.tmp 13) rfl _ 0 (hA L) rfl rfl _ _ K2.out (by rw [hzz.out, hA_size, hA_size, hL.out, z81_len']; omega) (by rw [hA_size, hL.out]; exact a81_sz _) (hA_one L) ?_)
    intro w3 hK9 hG9
    rw [writeAt_all _ _ (by rw [hzz.out, Array.length_toList, Array.length_toList, hA_size, hA_size, hL.out, z81_len'])] at hK9
    have HK := Lib.hid (show Bk w3 w2.heap.size 25 (hA L) from by simpa using hK9)
    have HG := Lib.hid (KG2.out.grownM hG9 (by have := hgt.out; omega))
    have HB9 := Lib.hid (HB2a.out.grown hG9 HB2a.out.size (fun j hj => by injection hj with hj; have := hgt.out; omega))
    clear hK9 hG9 K2 HB2a KG2
    generalize w2.heap.size = tb at *
    go_wp2_with fail
    go_loopw [6, 7] (fun t i wr => ∃ k : Nat, k ≤ 9 ∧ i = .int .i64 (k : Int) ∧ t = .int .i64 (sumD L hs (k * 9)) ∧ Below w3.heap.size w3 wr) (fun _ i _ => 9 - (intOf i).toNat)
    case atStart => exact ⟨0, by omega, rfl, rfl, Below.refl _ _⟩
    case round =>
      obtain ⟨k, hk, rfl, rfl, hb⟩ := hrel
      have HBo := Lib.hid hb
      clear hb
      by_cases hlt : k < 9
      · have hd9 : decide ((k : Int) < 9) = true := by rw [decide_eq_true_eq]; omega
        go_wp2_with fail
        go_loopw [6, 8] (fun t i wr => ∃ j : Nat, j ≤ 9 ∧ i = .int .i64 (j : Int) ∧ t = .int .i64 (sumD L hs (k * 9 + j)) ∧ Below w3.heap.size w3 wr) (fun _ i _ => 9 - (intOf i).toNat)
        case atStart => exact ⟨0, by omega, rfl, rfl, HBo.out⟩
        case round =>
          obtain ⟨j, hj, rfl, rfl, hb3⟩ := hrel
          have HB3 := Lib.hid hb3
          clear hb3
          by_cases hlt2 : j < 9
          · have hd10 : decide ((j : Int) < 9) = true := by rw [decide_eq_true_eq]; omega
            have i0 : (j : Int) < 9 := by omega
            have i1 : (k : Int) < 9 := by omega
            have hh := (HG.out.ext HB3.out).ht hl j k hlt2 hlt
            have ht := (HK.out.ext HB3.out).cell _ _ (hA_nat L hL.out j k hlt2 hlt)
            rw [show htL hs ⟨(j : Int), (k : Int)⟩ = hs.getD (k * 9 + j) 0 from by rw [htL_idx, idxC_nat]] at hh
            rw [show htL L ⟨(j : Int), (k : Int)⟩ = L.getD (k * 9 + j) 0 from by rw [htL_idx, idxC_nat]] at ht
            have sb := sumD_bd fL.out fh.out (k * 9 + j)
            have b1 := fL.out (k * 9 + j)
            have b2 := fh.out (k * 9 + j)
            have hs1 := Lib.hid (show sumD L hs (k * 9 + (j + 1)) = sumD L hs (k * 9 + j) + (L.getD (k * 9 + j) 0 - hs.getD (k * 9 + j) 0) from rfl)
            generalize L.getD (k * 9 + j) 0 = a at *
            generalize hs.getD (k * 9 + j) 0 = b at *
            generalize sumD L hs (k * 9 + j) = S at *
            have w1' : IntKind.i64.wrap a = a := wrapIn _ (by omega) (by omega)
            have w2' : IntKind.i64.wrap b = b := wrapIn _ (by omega) (by omega)
            have w64 : wrap64 (a - b) = a - b := wr64 (by omega) (by omega)
            have ws : wrap64 (S + (a - b)) = S + (a - b) := wr64 (by omega) (by omega)
            go_wp2_with fail
            go_quiet (fail)
            go_wp2_with fail
            go_roundw
            case rel => exact ⟨j + 1, by omega, by go_num, by first | (rw [hs1.out]; done) | (rw [hs1.out]; go_num), ext_drewN HB3.out _⟩
            case measure => first | (simp [intOf]; done) | (simp [intOf]; omega)
          · obtain rfl : j = 9 := by omega
            have hd10 : decide (((9 : Nat) : Int) < 9) = false := by decide
            go_wp2_with fail
            go_roundw
            case rel => exact ⟨k + 1, by omega, by go_num, by rw [Nat.succ_mul], HB3.out⟩
            case measure => first | (simp [intOf]; done) | (simp [intOf]; omega)
      · obtain rfl : k = 9 := by omega
        simp only [show ((9 : Nat) : Int) = 9 from rfl, show 9 * 9 = 81 from rfl]
        have hd9 : decide ((9 : Int) < 9) = false := by decide
        go_wp2_with fail
        go_ret2
        rw [hE.out]
        exact ⟨rfl, ext_trans HB9.out HBo.out⟩
  · have hE := Lib.hid (show poolS w h hs gl = (0, poolG w h hs gl) from if_neg hc)
    have hcb : (poolG w h hs gl == 0) = false := by simpa using hc
    have hcb2 : (poolG w h hs gl != 0) = true := by simpa using hc
    generalize poolG w h hs gl = C at *
    clear hc
    go_wp2_with fail
    go_ret2
    rw [hE.out]
    exact ⟨rfl, HB1.out⟩
end Go.Proofs.Ytipcmakidifelaa
