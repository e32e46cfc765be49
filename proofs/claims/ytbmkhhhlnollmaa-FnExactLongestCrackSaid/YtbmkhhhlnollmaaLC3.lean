/-
LongestCrack of the reference. Conditions: numbers are of their kinds; slices can be read.
-/
import Derived.Test.YtbmkhhhlnollmaaLC2
import Derived.Test.YtbmkhhhlnollmaaGR5
import Derived.Test.YtbmkhhhlnollmaaSM5
set_option linter.unusedVariables false
set_option linter.unusedSimpArgs false
set_option maxRecDepth 100000
namespace Go.Proofs.Ytbmkhhhlnollmaa
open Go.RowKit
theorem cell_ret4 {P : Program} {fn : Func} {g2 t t1 t2 : Nat} {R : Ending → World → Prop} {a : Act} {W : World} {T : TypeId} {d : TypeDesc} (hr : fn.results = #[.cell g2 T, .tmp t, .tmp t1, .tmp t2]) {p : Nat} (hp : a.tmps.getD g2 undef = .pointer (some ⟨p, 0, none⟩)) {cs : Array Value} {T' : TypeId} (hb : Bk W p T' cs)
    (hu : P.underlying T = some d) (hrow : d.isRow = true) (hi : (P.info? T).map (·.size) = some cs.size) (hd : a.defers = []) (hR : R (.returned (.tuple #[.agg cs, a.tmps.getD t undef, a.tmps.getD t1 undef, a.tmps.getD t2 undef])) W) : bodyPost P fn R .ret a W := by
  refine bodyPost_ret (v := .tuple #[.agg cs, a.tmps.getD t undef, a.tmps.getD t1 undef, a.tmps.getD t2 undef]) ?_ hd hR
  have := run_loadVar_mid (P := P) W p 0 T cs.toList _ (fun j v hj => by rw [Nat.zero_add]; exact hb.cell j v (by simpa using hj)) hu hrow (by simpa using hi)
  have hp2 : a.tmps[g2]?.getD undef = .pointer (some ⟨p, 0, none⟩) := by simpa using hp
  simp [results, hr, hp2, this, asAddr, Sem.run_bind, Result.andThen]
def stepB (f : Cell → Int → Int) (p : Cell) (s : Cell × Int × Int) (t : Nat) : Cell × Int × Int := if s.2.2 < f p t then (p, (t : Int), f p t) else s
def waysB (f : Cell → Int → Int) (p : Cell) (s : Cell × Int × Int) (m : Nat) : Cell × Int × Int := (List.range m).foldl (stepB f p) s
def bestB (f : Cell → Int → Int) (pts : List Cell) : Cell × Int × Int := pts.foldl (fun s p => waysB f p s 4) (⟨0, 0⟩, 0, 0)
theorem waysB_succ (f : Cell → Int → Int) (p : Cell) (s : Cell × Int × Int) (m : Nat) : waysB f p s (m + 1) = stepB f p (waysB f p s m) m := by simp [waysB, List.range_succ]
theorem bestB_succ (f : Cell → Int → Int) (pts : List Cell) (k : Nat) (hk : k < pts.length) : bestB f (pts.take (k + 1)) = waysB f pts[k] (bestB f (pts.take k)) 4 := by
  rw [List.take_succ_eq_append_getElem hk, bestB, List.foldl_append]; rfl
def growN (sl : List Slab) (n : Nat) (p : Cell) (t : Int) : Int := ((growL sl n [p] p t).length : Int)
def longest (w h : Int) (sl : List Slab) (years : Int) : (Cell × Int × Int) × Int :=
  if growC w h sl [] [] years = 0 then (bestB (growN sl years.toNat) (ptsN w.toNat (h.toNat + 1)), 0) else ((⟨0, 0⟩, 0, 0), growC w h sl [] [] years)
theorem growC_none (w h : Int) (sl : List Slab) (years : Int) : toldC w h sl [] (inB years 0 60) = growC w h sl [] [] years := by
  unfold toldC growC cornC
  cases sqOk w h sl <;> cases inB years 0 60 <;> simp
def RetLo (W : World) (r : (Cell × Int × Int) × Int) (e : Ending) (w' : World) : Prop := e = .returned (.tuple #[.agg #[.int .i8 r.1.1.x, .int .i8 r.1.1.y], .int .i64 r.1.2.1, .int .i64 r.1.2.2, .int .i64 r.2]) ∧ Below W.heap.size W w'
set_option maxHeartbeats 4000000 in
theorem specLongest_calls (w h : Int) (z : Value) (sl : List Slab) (years : Int) (W : World) (hq : SqIn W w h z sl) :
    Calls Try.prog 40 #[sqv w h z, .int .i64 years] W (RetLo W (longest w h sl years)) := by
  obtain ⟨A, cap, hz, -, -, -⟩ := hq.sl.slab
  subst hz
  have HQ := Lib.hid hq
  have HB := Lib.hid (ext_alloc (ext_alloc ((Below.refl W.heap.size W).alloc (Nat.le_refl _) (.cells #[.int .i8 w, .int .i8 h, .slice A sl.length cap] 34)) (.cells #[.int .i8 0, .int .i8 0] 36)) (.cells #[] 36))
  have K0 := Lib.hid (((Bk.new W 34 #[.int .i8 w, .int .i8 h, .slice A sl.length cap] W.heap.size rfl).alloc (.cells #[.int .i8 0, .int .i8 0] 36)).alloc (.cells #[] 36))
  have K2 := Lib.hid ((Bk.new (W.alloc (.cells #[.int .i8 w, .int .i8 h, .slice A sl.length cap] 34)) 36 #[.int .i8 0, .int .i8 0] (W.heap.size + 1) (by simp)).alloc (.cells #[] 36))
  have hO0 := Lib.hid (Own.empty (α := Cell) (c := Cell.c) (sz := 2) (E := 36) ((W.alloc (.cells #[.int .i8 w, .int .i8 h, .slice A sl.length cap] 34)).alloc (.cells #[.int .i8 0, .int .i8 0] 36)) (W.heap.size + 1 + 1) (W.heap.size + 1 + 1) (by simp) (by simp))
  have qt := Lib.hid (told_calls W.heap.size 0 w h _ sl [] (by simp) _ (inB years 0 60) _ (HQ.out.ext HB.out) ⟨K0.out.cell 0 _ rfl, K0.out.cell 1 _ rfl, K0.out.cell 2 _ rfl, K0.out.lt⟩ (hO0.out.sl Cell.c_len))
  rw [growC_none] at qt
  obtain ⟨R, hR0⟩ : ∃ R, R = longest w h sl years := ⟨_, rfl⟩
  rw [← hR0]
  have hR := Lib.hid hR0
  clear hR0 hq
  unfold sqv
  go_enter Try.func40, Try.ntmps40
  go_wp2_with fail
  refine (yearsS_calls _ _).mono ?_
  rintro e w0 ⟨rfl, rfl⟩
  go_wp2_with fail
  refine qt.out.mono ?_
  rintro e w5 ⟨g, rfl, hgl, hgr, hb5⟩
  have HB4 := Lib.hid (ext_trans HB.out hb5)
  have HB5 := Lib.hid (HB4.out.alloc HB4.out.size (.cells Try.zeroCells85 85))
  have K8 := Lib.hid (Bk.new w5 85 Try.zeroCells85 w5.heap.size rfl)
  have K25 := Lib.hid ((K2.out.ext hb5).alloc (.cells Try.zeroCells85 85))
  have K05 := Lib.hid ((K0.out.ext hb5).alloc (.cells Try.zeroCells85 85))
  have hglH := Lib.hid hgl
  have hgrH := Lib.hid hgr
  have hs5 := Lib.hid (K2.out.ext hb5).lt
  clear hb5 hgl hgr
  go_wp2_with (refine wpList_store_bk rfl 85 (.tmp 8) (.tmp 22) rfl _ (gcells g) rfl rfl _ _ K8.out (by rw [zsize, gcells_size, hglH.out]) (ginfo _ hglH.out) (gcells_one _) ?_)
  intro w6 k8 G8
  have KG := Lib.hid k8
  have HB6 := Lib.hid (HB5.out.grown G8 HB5.out.size (fun j hj => by injection hj with hj; have := hs5.out; omega))
  have K26 := Lib.hid (show Bk w6 (W.heap.size + 1) 36 #[.int .i8 0, .int .i8 0] from (G8.block _ K25.out.lt (fun he => by injection he with he; have := hs5.out; omega)).trans K25.out)
  have K06 := Lib.hid (show Bk w6 W.heap.size 34 #[.int .i8 w, .int .i8 h, .slice A sl.length cap] from (G8.block _ K05.out.lt (fun he => by injection he with he; have := hs5.out; omega)).trans K05.out)
  clear k8 G8
  by_cases hc : growC w h sl [] [] years = 0
  · obtain ⟨hcc, ⟨y0, y1⟩, -⟩ := growC_ok hc
    obtain ⟨hv, -⟩ := cornC_ok hcc
    obtain ⟨⟨w0, w1'⟩, ⟨h0, h1⟩, hl⟩ := sqOk_edges hv
    have hgg := hgrH.out hc
    subst hgg
    have hE := Lib.hid (hR.out.trans (if_pos hc))
    rw [hc]
    clear hc hcc hv hR hgrH
    obtain ⟨ny, hny⟩ : ∃ ny : Nat, years = (ny : Int) := ⟨years.toNat, (Int.toNat_of_nonneg y0).symm⟩
    subst hny
    obtain ⟨nw, hnw⟩ : ∃ n : Nat, w = (n : Int) := ⟨w.toNat, (Int.toNat_of_nonneg (by omega)).symm⟩
    subst hnw
    obtain ⟨nh, hnh⟩ : ∃ n : Nat, h = (n : Int) := ⟨h.toNat, (Int.toNat_of_nonneg (by omega)).symm⟩
    subst hnh
    simp only [Int.toNat_natCast] at hE
    have HM := Lib.hid (ptsN_mem nw (nh + 1))
    have HPL := Lib.hid (show 0 < (ptsN nw (nh + 1)).length ∧ (ptsN nw (nh + 1)).length ≤ 1000 from ⟨by rw [ptsN_len]; exact Nat.mul_pos (by omega) (by omega), by have := ptsN_le nw (nh + 1) 0 (by omega) (by omega) (by omega); simpa [rowC] using this⟩)
    have HB7 := Lib.hid (HB6.out.alloc HB6.out.size (.cells #[.int .i8 0, .int .i8 0] 36))
    have KB7 := Lib.hid (Bk.new w6 36 #[.int .i8 0, .int .i8 0] w6.heap.size rfl)
    have K27 := Lib.hid (K26.out.alloc (.cells #[.int .i8 0, .int .i8 0] 36))
    have K07 := Lib.hid (K06.out.alloc (.cells #[.int .i8 0, .int .i8 0] 36))
    have KG7 := Lib.hid (KG.out.alloc (.cells #[.int .i8 0, .int .i8 0] 36))
    have qp := Lib.hid (points_calls W.heap.size 0 nw nh (by omega) (by omega) _ _ ⟨K07.out.cell 0 _ rfl, K07.out.cell 1 _ rfl, K07.out.cell 2 _ rfl, K07.out.lt⟩)
    have ne1 := Lib.hid (show w5.heap.size < w6.heap.size from KG.out.lt)
    have ne2 := Lib.hid (show W.heap.size + 1 < w6.heap.size from K26.out.lt)
    have hs7 := Lib.hid (show (w6.alloc (.cells #[.int .i8 0, .int .i8 0] 36)).heap.size = w6.heap.size + 1 from by simp)
    go_wp2_with fail
    refine qp.out.mono ?_
    rintro e w8 ⟨pv, rfl, hO, hb8⟩
    generalize w6.alloc (.cells #[.int .i8 0, .int .i8 0] 36) = w7 at *
    have HB8 := Lib.hid (ext_trans HB7.out hb8)
    have KB8 := Lib.hid (KB7.out.ext hb8)
    have K28 := Lib.hid (K27.out.ext hb8)
    have KG8 := Lib.hid (KG7.out.ext hb8)
    have hO8 := Lib.hid (hO.more (Nat.le_of_eq hs7.out.symm))
    clear hb8 hO K07 K06 K0 KB7 K27 KG7 HB7
    generalize ptsN nw (nh + 1) = pts at *
    obtain ⟨g8, c8, rfl, -, -, -, -, -, -⟩ := hO8.out.room Cell.c_len HPL.out.1
    generalize w6.heap.size = b10 at *
    generalize w5.heap.size = b8 at *
    obtain ⟨f, hf⟩ : ∃ f, f = growN sl ny := ⟨_, rfl⟩
    rw [← hf] at hE
    have HF := Lib.hid hf
    clear hf
    have HLH := Lib.hid hl
    clear hl
    go_wp2_with fail
    go_loopw [11, 12, 14, 15, 16] (fun t n i _ _ wr => ∃ (k : Nat) (s : Cell × Int × Int), k ≤ pts.length ∧ i = .int .i64 (k : Int) ∧ t = .int .i64 s.2.1 ∧ n = .int .i64 s.2.2 ∧ s = bestB f (pts.take k) ∧ Bk wr b10 36 #[.int .i8 s.1.x, .int .i8 s.1.y] ∧ Bk wr (W.heap.size + 1) 36 #[.int .i8 0, .int .i8 0] ∧ Bk wr b8 85 (gcells (gridL sl)) ∧ Own wr (b10 + 1) 36 Cell.c 2 (.slice (some ⟨g8, 0, none⟩) pts.length c8) pts ∧ Below W.heap.size W wr) (fun _ _ i _ _ _ => pts.length - (intOf i).toNat)
    case atStart => exact ⟨0, (⟨0, 0⟩, 0, 0), by omega, rfl, rfl, rfl, rfl, KB8.out, K28.out, KG8.out, hO8.out, HB8.out⟩
    case round =>
      obtain ⟨k, s, hk, rfl, rfl, rfl, hs, kb, k2, kg, hO, hb⟩ := hrel
      have HS := Lib.hid hs
      have KB := Lib.hid kb
      have K2 := Lib.hid k2
      have KG := Lib.hid kg
      have HO := Lib.hid hO
      have HBo := Lib.hid hb
      clear hs kb k2 kg hO hb
      by_cases hlt : k < pts.length
      · have hbs := Lib.hid (bestB_succ f pts k hlt)
        have hmem := HM.out _ (List.getElem_mem hlt)
        have hpk := Lib.hid (List.getElem?_eq_getElem hlt)
        have hk1 := Lib.hid (show k + 1 ≤ pts.length from hlt)
        have hk3 : k ≤ 1000 := by have := HPL.out.2; omega
        generalize pts[k] = p at *
        obtain ⟨⟨px0, px1⟩, py0, py1⟩ := hmem
        go_wp2_with fail
        go_loopw [11, 12, 15, 16] (fun t n j _ w2 => ∃ (m : Nat) (s : Cell × Int × Int), m ≤ 4 ∧ j = .int .i64 (m : Int) ∧ t = .int .i64 s.2.1 ∧ n = .int .i64 s.2.2 ∧ s = waysB f p (bestB f (pts.take k)) m ∧ Bk w2 b10 36 #[.int .i8 s.1.x, .int .i8 s.1.y] ∧ Bk w2 (W.heap.size + 1) 36 #[.int .i8 0, .int .i8 0] ∧ Bk w2 b8 85 (gcells (gridL sl)) ∧ Own w2 (b10 + 1) 36 Cell.c 2 (.slice (some ⟨g8, 0, none⟩) pts.length c8) pts ∧ Below W.heap.size W w2) (fun _ _ j _ _ => 4 - (intOf j).toNat)
        case atStart => exact ⟨0, s, by omega, rfl, rfl, rfl, HS.out, KB.out, K2.out, KG.out, HO.out, HBo.out⟩
        case round =>
          obtain ⟨m, s, hm, rfl, rfl, rfl, hs, kb, k2, kg, hO, hb⟩ := hrel
          obtain ⟨wo, rfl⟩ : ∃ wo : World, wo = wr := ⟨_, rfl⟩
          have HS := Lib.hid hs
          have KB := Lib.hid kb
          have K2 := Lib.hid k2
          have KG := Lib.hid kg
          have HO := Lib.hid hO
          have HBo := Lib.hid hb
          clear hs kb k2 kg hO hb
          by_cases hlt2 : m < 4
          · have hst := Lib.hid (waysB_succ f p (bestB f (pts.take k)) m)
            have hfp := Lib.hid (show f p (m : Int) = ((growL sl ny [p] p (m : Int)).length : Int) from by rw [HF.out]; rfl)
            have hmd : decide ((m : Int) < 4) = true := by rw [decide_eq_true_eq]; omega
            have hk8 : (0 : Int) ≤ (k : Int) := by omega
            have hk9 : (k : Int) < (pts.length : Int) := by have := hk1.out; omega
            obtain ⟨g', c', hv, hbg, hgl, _, _, hce, _⟩ := HO.out.room Cell.c_len HPL.out.1
            obtain ⟨rfl, rfl⟩ : g8 = g' ∧ c8 = c' := by injection hv with e1 e2 e3; injection e1 with e1; injection e1 with e1; exact ⟨e1, e3⟩
            have q0 : wo.cell? ⟨g8, k * 2, none⟩ = some (.int .i8 p.x) := by simpa using hce k p hpk.out 0 _ rfl
            have q1 : wo.cell? ⟨g8, k * 2 + 1, none⟩ = some (.int .i8 p.y) := by simpa using hce k p hpk.out 1 _ rfl
            clear hce hv
            have qg := Lib.hid (sGrow_calls nw nh sl HLH.out ⟨w1', h1⟩ p ⟨px0, px1⟩ ⟨py0, by omega⟩ (m : Int) ⟨by omega, by omega⟩ ny (by omega) b8 wo KG.out)
            unfold Cell.v at qg
            generalize growL sl ny [p] p (m : Int) = us at *
            go_wp2_with fail
            refine qg.out.mono ?_
            rintro e w10 ⟨g20, c20, rfl, -, hb10⟩
            have q0 := (hb10.cell (p := ⟨g8, _, none⟩) hgl).trans q0
            have q1 := (hb10.cell (p := ⟨g8, _, none⟩) hgl).trans q1
            have KB10 := Lib.hid (KB.out.ext hb10)
            have K210 := Lib.hid (K2.out.ext hb10)
            have KG10 := Lib.hid (KG.out.ext hb10)
            have HO10 := Lib.hid (HO.out.ext hb10)
            have HB10 := Lib.hid (ext_trans HBo.out hb10)
            clear hb10
            by_cases hgt : s.2.2 < (us.length : Int)
            · have hgd : decide (s.2.2 < (us.length : Int)) = true := by rw [decide_eq_true_eq]; exact hgt
              have hs2 := Lib.hid (show (p, (m : Int), (us.length : Int)) = waysB f p (bestB f (pts.take k)) (m + 1) from by rw [hst.out, ← HS.out, stepB, if_pos (by rw [hfp.out]; exact hgt), hfp.out])
              have f0 := KB10.out.frz 0
              have f1 := KB10.out.frz 1
              have e0 := KB10.out.cell 0 _ rfl
              have e1 := KB10.out.cell 1 _ rfl
              have HRES := Lib.hid (res_set KB10.out HB10.out (by have := ne2.out; omega) p.x p.y)
              have K211 := Lib.hid ((K210.out.oth 0 (.int .i8 p.x) (show W.heap.size + 1 ≠ b10 from by have := ne2.out; omega)).oth 1 (.int .i8 p.y) (show W.heap.size + 1 ≠ b10 from by have := ne2.out; omega))
              have KG11 := Lib.hid ((KG10.out.oth 0 (.int .i8 p.x) (show b8 ≠ b10 from by have := ne1.out; omega)).oth 1 (.int .i8 p.y) (show b8 ≠ b10 from by have := ne1.out; omega))
              have HO11 := Lib.hid (HO10.out.keep (fun j hj => ((gby_set w10 b10 0 (.int .i8 p.x)).trans (gby_set (w10.setCell ⟨b10, 0, none⟩ (.int .i8 p.x)) b10 1 (.int .i8 p.y))).block j (HO10.out.lt j hj) (fun he => by injection he with he; have := HO10.out.base j hj; omega)))
              clear hst hfp
              go_wp2_with fail
              go_roundw
              case rel => exact ⟨m + 1, (p, (m : Int), (us.length : Int)), by omega, by go_num, rfl, rfl, hs2.out, HRES.out.1, K211.out, KG11.out, HO11.out, HRES.out.2⟩
              case measure => first | (simp [intOf]; done) | (simp [intOf]; omega)
            · have hgd : decide (s.2.2 < (us.length : Int)) = false := by rw [decide_eq_false_iff_not]; exact hgt
              have hs2 := Lib.hid (show s = waysB f p (bestB f (pts.take k)) (m + 1) from by rw [hst.out, ← HS.out, stepB, if_neg (by rw [hfp.out]; exact hgt)])
              clear hst hfp
              go_wp2_with fail
              go_roundw
              case rel => exact ⟨m + 1, s, by omega, by go_num, rfl, rfl, hs2.out, KB10.out, K210.out, KG10.out, HO10.out, HB10.out⟩
              case measure => first | (simp [intOf]; done) | (simp [intOf]; omega)
          · obtain rfl : m = 4 := by omega
            have hs2 := Lib.hid (HS.out.trans hbs.out.symm)
            go_wp2_with fail
            go_roundw
            case rel => exact ⟨k + 1, s, hk1.out, by go_num, rfl, rfl, hs2.out, KB.out, K2.out, KG.out, HO.out, HBo.out⟩
            case measure => have := hk1.out; first | (simp [intOf]; done) | (simp [intOf]; omega)
      · obtain rfl : k = pts.length := by omega
        have hs2 := Lib.hid (show R = (s, 0) from by rw [hE.out, HS.out, List.take_length])
        have f0 := K2.out.frz 0
        have f1 := K2.out.frz 1
        have e0 := K2.out.cell 0 _ rfl
        have e1 := K2.out.cell 1 _ rfl
        have b0 := KB.out.cell 0 _ rfl
        have b1 := KB.out.cell 1 _ rfl
        have HRES := Lib.hid (res_set K2.out HBo.out (by omega) s.1.x s.1.y)
        go_wp2_with fail
        (try simp only [Exit.inBlock, Exit.then])
        refine cell_ret4 Try.results40 rfl HRES.out.1 Try.underlying36 rfl (by kernel_rfl) rfl ?_
        exact ⟨by rw [hs2.out]; rfl, HRES.out.2⟩
  · have hE := Lib.hid (show R = ((⟨0, 0⟩, 0, 0), growC w h sl [] [] years) from by rw [hR.out, longest, if_neg hc])
    have hcb : (growC w h sl [] [] years == 0) = false := by simpa using hc
    have hcb2 : (growC w h sl [] [] years != 0) = true := by simpa using hc
    generalize growC w h sl [] [] years = C at *
    clear hc
    have f0 := K26.out.frz 0
    have f1 := K26.out.frz 1
    have e0 := K26.out.cell 0 _ rfl
    have e1 := K26.out.cell 1 _ rfl
    have HRES := Lib.hid (res_set K26.out HB6.out (by omega) 0 0)
    go_wp2_with fail
    (try simp only [Exit.inBlock, Exit.then])
    refine cell_ret4 Try.results40 rfl HRES.out.1 Try.underlying36 rfl (by kernel_rfl) rfl ?_
    exact ⟨by rw [hE.out]; rfl, HRES.out.2⟩
end Go.Proofs.Ytbmkhhhlnollmaa
