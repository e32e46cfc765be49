/-
LongestCrack of the program. Conditions: numbers are of their kinds; slices can be read.
-/
import Derived.Test.YtbmkhhhlnollmaaLC3
set_option linter.unusedVariables false
set_option linter.unusedSimpArgs false
set_option maxRecDepth 100000
namespace Go.Proofs.Ytbmkhhhlnollmaa
open Go.RowKit
theorem size_calls (A : Option Addr) (n c : Nat) (W : World) : Calls Try.prog 79 #[.slice A n c] W fun e w' => e = .returned (.int .i64 (n : Int)) ∧ W = w' := by
  go_enter Try.func79, Try.ntmps79
  go_wp2_with fail
  go_ret
  exact ⟨rfl, rfl⟩
set_option maxHeartbeats 4000000 in
theorem implLongest_calls (w h : Int) (z : Value) (sl : List Slab) (years : Int) (W : World) (hq : SqIn W w h z sl) :
    Calls Try.prog 41 #[sqv w h z, .int .i64 years] W (RetLo W (longest w h sl years)) := by
  obtain ⟨A, cap, hz, -, -, -⟩ := hq.sl.slab
  subst hz
  have HB := Lib.hid (ext_alloc ((Below.refl W.heap.size W).alloc (Nat.le_refl _) (.cells #[.int .i8 w, .int .i8 h, .slice A sl.length cap] 34)) (.cells #[.int .i8 0, .int .i8 0] 36))
  have HQ := Lib.hid (hq.ext HB.out)
  have K0 := Lib.hid ((Bk.new W 34 #[.int .i8 w, .int .i8 h, .slice A sl.length cap] W.heap.size rfl).alloc (.cells #[.int .i8 0, .int .i8 0] 36))
  have K2 := Lib.hid (Bk.new (W.alloc (.cells #[.int .i8 w, .int .i8 h, .slice A sl.length cap] 34)) 36 #[.int .i8 0, .int .i8 0] (W.heap.size + 1) (by simp))
  have qt := Lib.hid (growCode_calls w h _ sl [] (by simp) (.slice none 0 0) [] (.slice none 0 0) years _ HQ.out (Sl.nil_ _ _ _ _) (Sl.nil_ _ _ _ _))
  obtain ⟨R, hR0⟩ : ∃ R, R = longest w h sl years := ⟨_, rfl⟩
  rw [← hR0]
  have hR := Lib.hid hR0
  have HQ0 := Lib.hid hq.sl
  clear hR0 hq
  unfold sqv at *
  go_enter Try.func41, Try.ntmps41
  go_wp2_with fail
  refine qt.out.mono ?_
  rintro e w6 ⟨rfl, hb6⟩
  have HB6 := Lib.hid (ext_trans HB.out hb6)
  have K26 := Lib.hid (K2.out.ext hb6)
  have K06 := Lib.hid (K0.out.ext hb6)
  have HQ6 := Lib.hid (HQ.out.ext hb6)
  clear hb6
  by_cases hc : growC w h sl [] [] years = 0
  · obtain ⟨hcc, ⟨y0, y1⟩, -⟩ := growC_ok hc
    obtain ⟨hv, -⟩ := cornC_ok hcc
    obtain ⟨⟨w0, w1'⟩, ⟨h0, h1⟩, hl⟩ := sqOk_edges hv
    have hE := Lib.hid (hR.out.trans (if_pos hc))
    rw [hc]
    clear hc hcc hv hR
    obtain ⟨ny, hny⟩ : ∃ ny : Nat, years = (ny : Int) := ⟨years.toNat, (Int.toNat_of_nonneg y0).symm⟩
    subst hny
    obtain ⟨nw, hnw⟩ : ∃ n : Nat, w = (n : Int) := ⟨w.toNat, (Int.toNat_of_nonneg (by omega)).symm⟩
    subst hnw
    obtain ⟨nh, hnh⟩ : ∃ n : Nat, h = (n : Int) := ⟨h.toNat, (Int.toNat_of_nonneg (by omega)).symm⟩
    subst hnh
    simp only [Int.toNat_natCast] at hE
    have HM := Lib.hid (ptsN_mem nw (nh + 1))
    have HPL := Lib.hid (show 0 < (ptsN nw (nh + 1)).length ∧ (ptsN nw (nh + 1)).length ≤ 1000 from ⟨by rw [ptsN_len]; exact Nat.mul_pos (by omega) (by omega), by have := ptsN_le nw (nh + 1) 0 (by omega) (by omega) (by omega); simpa [rowC] using this⟩)
    have HB7 := Lib.hid (HB6.out.alloc HB6.out.size (.cells #[.int .i8 0, .int .i8 0] 36))
    have KB7 := Lib.hid (Bk.new w6 36 #[.int .i8 0, .int .i8 0] w6.heap.size rfl)
    have K27 := Lib.hid (K26.out.alloc (.cells #[.int .i8 0, .int .i8 0] 36))
    have K07 := Lib.hid (K06.out.alloc (.cells #[.int .i8 0, .int .i8 0] 36))
    have HQ7 := Lib.hid (HQ6.out.ext ((Below.refl _ _).alloc (Nat.le_refl _) (.cells #[.int .i8 0, .int .i8 0] 36)))
    have qp := Lib.hid (corners_calls nw nh (by omega) (by omega) (.slice A sl.length cap) (w6.alloc (.cells #[.int .i8 0, .int .i8 0] 36)))
    have s0 := K07.out.cell 0 _ rfl
    have s1 := K07.out.cell 1 _ rfl
    have s2 := K07.out.cell 2 _ rfl
    have ne2 := Lib.hid (show W.heap.size + 1 < w6.heap.size from K26.out.lt)
    have hs7 := Lib.hid (show (w6.alloc (.cells #[.int .i8 0, .int .i8 0] 36)).heap.size = w6.heap.size + 1 from by simp)
    go_wp2_with fail
    refine qp.out.mono ?_
    rintro e w8 ⟨pv, rfl, hO, hb8⟩
    generalize w6.alloc (.cells #[.int .i8 0, .int .i8 0] 36) = w7 at *
    have HB8 := Lib.hid (ext_trans HB7.out hb8)
    have KB8 := Lib.hid (KB7.out.ext hb8)
    have K28 := Lib.hid (K27.out.ext hb8)
    have HQ8 := Lib.hid (HQ7.out.ext hb8)
    have K08 := Lib.hid (K07.out.ext hb8)
    have hO8 := Lib.hid (hO.more (Nat.le_of_eq hs7.out.symm))
    clear hb8 hO K06 K0 KB7 K27 HB7 HQ7 HQ6 s0 s1 s2 K07
    generalize ptsN nw (nh + 1) = pts at *
    obtain ⟨g8, c8, rfl, -, -, -, -, -, -⟩ := hO8.out.room Cell.c_len HPL.out.1
    generalize w6.heap.size = b10 at *
    obtain ⟨f, hf⟩ : ∃ f, f = growN sl ny := ⟨_, rfl⟩
    rw [← hf] at hE
    have HF := Lib.hid hf
    clear hf
    have HLH := Lib.hid hl
    clear hl
    go_wp2_with fail
    go_loopw [10, 11, 13, 14, 15, 27, 31] (fun t n _ _ _ i _ wr => ∃ (k : Nat) (s : Cell × Int × Int), k ≤ pts.length ∧ i = .int .i64 (k : Int) ∧ t = .int .i64 s.2.1 ∧ n = .int .i64 s.2.2 ∧ s = bestB f (pts.take k) ∧ Bk wr b10 36 #[.int .i8 s.1.x, .int .i8 s.1.y] ∧ Bk wr (W.heap.size + 1) 36 #[.int .i8 0, .int .i8 0] ∧ Bk wr W.heap.size 34 #[.int .i8 (nw : Int), .int .i8 (nh : Int), .slice A sl.length cap] ∧ Own wr (b10 + 1) 36 Cell.c 2 (.slice (some ⟨g8, 0, none⟩) pts.length c8) pts ∧ Below W.heap.size W wr) (fun _ _ _ _ _ i _ _ => pts.length - (intOf i).toNat)
    case atStart => exact ⟨0, (⟨0, 0⟩, 0, 0), by omega, rfl, rfl, rfl, rfl, KB8.out, K28.out, K08.out, hO8.out, HB8.out⟩
    case round =>
      obtain ⟨k, s, hk, rfl, rfl, rfl, hs, kb, k2, kg, hO, hb⟩ := hrel
      have HS := Lib.hid hs
      have KB := Lib.hid kb
      have K2 := Lib.hid k2
      have KG := Lib.hid kg
      have HO := Lib.hid hO
      have HBo := Lib.hid hb
      clear hs kb k2 kg hO hb
      by_cases hlt : k < pts.length
      · have hbs := Lib.hid (bestB_succ f pts k hlt)
        have hmem := HM.out _ (List.getElem_mem hlt)
        have hpk := Lib.hid (List.getElem?_eq_getElem hlt)
        have hk1 := Lib.hid (show k + 1 ≤ pts.length from hlt)
        have hk3 : k ≤ 1000 := by have := HPL.out.2; omega
        generalize pts[k] = p at *
        obtain ⟨⟨px0, px1⟩, py0, py1⟩ := hmem
        have hk8 : (0 : Int) ≤ (k : Int) := by omega
        have hk9 : (k : Int) < (pts.length : Int) := by have := hk1.out; omega
        obtain ⟨g', c', hv, hbg, hgl, _, _, hce, _⟩ := HO.out.room Cell.c_len HPL.out.1
        obtain ⟨rfl, rfl⟩ : g8 = g' ∧ c8 = c' := by injection hv with e1 e2 e3; injection e1 with e1; injection e1 with e1; exact ⟨e1, e3⟩
        have q0 : wr.cell? ⟨g8, k * 2, none⟩ = some (.int .i8 p.x) := by simpa using hce k p hpk.out 0 _ rfl
        have q1 : wr.cell? ⟨g8, k * 2 + 1, none⟩ = some (.int .i8 p.y) := by simpa using hce k p hpk.out 1 _ rfl
        clear hce hv
        have KP := Lib.hid (Bk.new wr 36 #[.int .i8 p.x, .int .i8 p.y] wr.heap.size rfl)
        have KB := Lib.hid (KB.out.alloc (.cells #[.int .i8 p.x, .int .i8 p.y] 36))
        have K2 := Lib.hid (K2.out.alloc (.cells #[.int .i8 p.x, .int .i8 p.y] 36))
        have KGa := Lib.hid (KG.out.alloc (.cells #[.int .i8 p.x, .int .i8 p.y] 36))
        have HOa := Lib.hid (HO.out.alloc (.cells #[.int .i8 p.x, .int .i8 p.y] 36))
        have hbp := Lib.hid (show b10 < wr.heap.size from by have h1 := HO.out.base g8 rfl; have h2 := HO.out.lt g8 rfl; omega)
        have HBa := Lib.hid (HBo.out.alloc HBo.out.size (.cells #[.int .i8 p.x, .int .i8 p.y] 36))
        go_wp2_with fail
        generalize wr.alloc (.cells #[.int .i8 p.x, .int .i8 p.y] 36) = wa at *
        clear q0 q1
        generalize wr.heap.size = b13 at *
        go_loopw [10, 11, 14, 15, 31] (fun t n _ _ j w2 => ∃ (m : Nat) (s : Cell × Int × Int), m ≤ 4 ∧ j = .int .i64 (m : Int) ∧ t = .int .i64 s.2.1 ∧ n = .int .i64 s.2.2 ∧ s = waysB f p (bestB f (pts.take k)) m ∧ Bk w2 b10 36 #[.int .i8 s.1.x, .int .i8 s.1.y] ∧ Bk w2 (W.heap.size + 1) 36 #[.int .i8 0, .int .i8 0] ∧ Bk w2 W.heap.size 34 #[.int .i8 (nw : Int), .int .i8 (nh : Int), .slice A sl.length cap] ∧ Bk w2 b13 36 #[.int .i8 p.x, .int .i8 p.y] ∧ Own w2 (b10 + 1) 36 Cell.c 2 (.slice (some ⟨g8, 0, none⟩) pts.length c8) pts ∧ Below W.heap.size W w2) (fun _ _ _ _ j _ => 4 - (intOf j).toNat)
        case atStart => exact ⟨0, s, by omega, rfl, rfl, rfl, HS.out, KB.out, K2.out, KGa.out, KP.out, HOa.out, HBa.out⟩
        case round =>
          obtain ⟨m, s, hm, rfl, rfl, rfl, hs, kb, k2, kg, kp, hO, hb⟩ := hrel
          obtain ⟨wo, rfl⟩ : ∃ wo : World, wo = wr := ⟨_, rfl⟩
          have HS := Lib.hid hs
          have KB := Lib.hid kb
          have K2 := Lib.hid k2
          have KG := Lib.hid kg
          have KP := Lib.hid kp
          have HO := Lib.hid hO
          have HBo := Lib.hid hb
          clear hs kb k2 kg kp hO hb
          by_cases hlt2 : m < 4
          · have hst := Lib.hid (waysB_succ f p (bestB f (pts.take k)) m)
            have hfp := Lib.hid (show f p (m : Int) = ((growL sl ny [p] p (m : Int)).length : Int) from by rw [HF.out]; rfl)
            have hmd : decide ((m : Int) < 4) = true := by rw [decide_eq_true_eq]; omega
            have HQo := Lib.hid (show SqIn wo nw nh (.slice A sl.length cap) sl from ⟨HQ8.out.w0, HQ8.out.w1, HQ8.out.h0, HQ8.out.h1, HQ8.out.ok, (HQ0.out.keep HBo.out).more HBo.out.size⟩)
            have s0 := KG.out.cell 0 _ rfl
            have s1 := KG.out.cell 1 _ rfl
            have s2 := KG.out.cell 2 _ rfl
            have p0 := KP.out.cell 0 _ rfl
            have p1 := KP.out.cell 1 _ rfl
            have qg := Lib.hid (grow_calls nw nh _ sl HLH.out ⟨w1', h1⟩ p ⟨px0, px1⟩ ⟨py0, by omega⟩ (m : Int) ⟨by omega, by omega⟩ ny (by omega) wo HQo.out)
            unfold sqv Cell.v at qg
            generalize growL sl ny [p] p (m : Int) = us at *
            go_wp2_with fail
            refine qg.out.mono ?_
            rintro e w10 ⟨g20, c20, rfl, -, hb10⟩
            have KP10 := Lib.hid (KP.out.ext hb10)
            clear s0 s1 s2 p0 p1
            have p0 := KP10.out.cell 0 _ rfl
            have p1 := KP10.out.cell 1 _ rfl
            have KB10 := Lib.hid (KB.out.ext hb10)
            have K210 := Lib.hid (K2.out.ext hb10)
            have KG10 := Lib.hid (KG.out.ext hb10)
            have HO10 := Lib.hid (HO.out.ext hb10)
            have HB10 := Lib.hid (ext_trans HBo.out hb10)
            clear hb10
            go_wp2_with fail
            refine (size_calls _ _ _ _).mono ?_
            rintro e w11 ⟨rfl, rfl⟩
            by_cases hgt : s.2.2 < (us.length : Int)
            · have hgd : decide (s.2.2 < (us.length : Int)) = true := by rw [decide_eq_true_eq]; exact hgt
              have hs2 := Lib.hid (show (p, (m : Int), (us.length : Int)) = waysB f p (bestB f (pts.take k)) (m + 1) from by rw [hst.out, ← HS.out, stepB, if_pos (by rw [hfp.out]; exact hgt), hfp.out])
              have f0 := KB10.out.frz 0
              have f1 := KB10.out.frz 1
              have e0 := KB10.out.cell 0 _ rfl
              have e1 := KB10.out.cell 1 _ rfl
              have HRES := Lib.hid (res_set KB10.out HB10.out (by have := ne2.out; omega) p.x p.y)
              have K211 := Lib.hid ((K210.out.oth 0 (.int .i8 p.x) (show W.heap.size + 1 ≠ b10 from by have := ne2.out; omega)).oth 1 (.int .i8 p.y) (show W.heap.size + 1 ≠ b10 from by have := ne2.out; omega))
              have KG11 := Lib.hid ((KG10.out.oth 0 (.int .i8 p.x) (show W.heap.size ≠ b10 from by have := ne2.out; omega)).oth 1 (.int .i8 p.y) (show W.heap.size ≠ b10 from by have := ne2.out; omega))
              have KP11 := Lib.hid ((KP10.out.oth 0 (.int .i8 p.x) (show b13 ≠ b10 from by have := hbp.out; omega)).oth 1 (.int .i8 p.y) (show b13 ≠ b10 from by have := hbp.out; omega))
              have HO11 := Lib.hid (HO10.out.keep (fun j hj => ((gby_set w10 b10 0 (.int .i8 p.x)).trans (gby_set (w10.setCell ⟨b10, 0, none⟩ (.int .i8 p.x)) b10 1 (.int .i8 p.y))).block j (HO10.out.lt j hj) (fun he => by injection he with he; have := HO10.out.base j hj; omega)))
              clear hst hfp
              go_wp2_with fail
              go_roundw
              case rel => exact ⟨m + 1, (p, (m : Int), (us.length : Int)), by omega, by go_num, rfl, rfl, hs2.out, HRES.out.1, K211.out, KG11.out, KP11.out, HO11.out, HRES.out.2⟩
              case measure => first | (simp [intOf]; done) | (simp [intOf]; omega)
            · have hgd : decide (s.2.2 < (us.length : Int)) = false := by rw [decide_eq_false_iff_not]; exact hgt
              have hs2 := Lib.hid (show s = waysB f p (bestB f (pts.take k)) (m + 1) from by rw [hst.out, ← HS.out, stepB, if_neg (by rw [hfp.out]; exact hgt)])
              clear hst hfp
              go_wp2_with fail
              go_roundw
              case rel => exact ⟨m + 1, s, by omega, by go_num, rfl, rfl, hs2.out, KB10.out, K210.out, KG10.out, KP10.out, HO10.out, HB10.out⟩
              case measure => first | (simp [intOf]; done) | (simp [intOf]; omega)
          · obtain rfl : m = 4 := by omega
            have hs2 := Lib.hid (HS.out.trans hbs.out.symm)
            go_wp2_with fail
            go_roundw
            case rel => exact ⟨k + 1, s, hk1.out, by go_num, rfl, rfl, hs2.out, KB.out, K2.out, KG.out, HO.out, HBo.out⟩
            case measure => have := hk1.out; first | (simp [intOf]; done) | (simp [intOf]; omega)
      · obtain rfl : k = pts.length := by omega
        have hs2 := Lib.hid (show R = (s, 0) from by rw [hE.out, HS.out, List.take_length])
        have f0 := K2.out.frz 0
        have f1 := K2.out.frz 1
        have e0 := K2.out.cell 0 _ rfl
        have e1 := K2.out.cell 1 _ rfl
        have b0 := KB.out.cell 0 _ rfl
        have b1 := KB.out.cell 1 _ rfl
        have HRES := Lib.hid (res_set K2.out HBo.out (by omega) s.1.x s.1.y)
        go_wp2_with fail
        (try simp only [Exit.inBlock, Exit.then])
        refine cell_ret4 Try.results41 rfl HRES.out.1 Try.underlying36 rfl (by kernel_rfl) rfl ?_
        exact ⟨by rw [hs2.out]; rfl, HRES.out.2⟩
  · have hE := Lib.hid (show R = ((⟨0, 0⟩, 0, 0), growC w h sl [] [] years) from by rw [hR.out, longest, if_neg hc])
    have hcb : (growC w h sl [] [] years == 0) = false := by simpa using hc
    have hcb2 : (growC w h sl [] [] years != 0) = true := by simpa using hc
    generalize growC w h sl [] [] years = C at *
    clear hc
    have f0 := K26.out.frz 0
    have f1 := K26.out.frz 1
    have e0 := K26.out.cell 0 _ rfl
    have e1 := K26.out.cell 1 _ rfl
    have HRES := Lib.hid (res_set K26.out HB6.out (by omega) 0 0)
    go_wp2_with fail
    (try simp only [Exit.inBlock, Exit.then])
    refine cell_ret4 Try.results41 rfl HRES.out.1 Try.underlying36 rfl (by kernel_rfl) rfl ?_
    exact ⟨by rw [hE.out]; rfl, HRES.out.2⟩
end Go.Proofs.Ytbmkhhhlnollmaa
