/-
GrowAll of the reference. Conditions: slices can be read.
-/
import Derived.Test.YtbmkhhhlnollmaaGA3
import Derived.Test.YtbmkhhhlnollmaaGR5
set_option linter.unusedVariables false
set_option linter.unusedSimpArgs false
set_option maxRecDepth 100000
namespace Go.Proofs.Ytbmkhhhlnollmaa
open Go.RowKit
def fineW (ways : List Int) (b : Bool) : Bool := b && ways.all fun t => inB t 0 3
def fineA (pts : List Cell) (ways : List Int) (years : Int) : Bool := fineW ways (decide (ways.length = pts.length) && inB years 0 60)
theorem fineW_succ (ways : List Int) (b : Bool) (k : Nat) (hk : k < ways.length) : fineW (ways.take (k + 1)) b = (fineW (ways.take k) b && inB ways[k] 0 3) := by
  unfold fineW
  rw [List.take_succ_eq_append_getElem hk, List.all_append]
  simp [Bool.and_assoc]
theorem growAllC_told (w h : Int) (sl : List Slab) (pts : List Cell) (ways : List Int) (years : Int) :
    growAllC w h sl pts ways years = if toldC w h sl pts (fineA pts ways years) = 0 then (if 8 < pts.length then 3 else 0) else toldC w h sl pts (fineA pts ways years) := by
  unfold growAllC growC cornC toldC fineA fineW
  cases sqOk w h sl <;> cases pts.all (ptB w h) <;> cases inB years 0 60 <;> cases ways.all (fun t => inB t 0 3) <;> by_cases h5 : ways.length = pts.length <;> simp [h5]
theorem told_ok {w h : Int} {sl : List Slab} {pts : List Cell} {ways : List Int} {years : Int} (hc : toldC w h sl pts (fineA pts ways years) = 0) : cornC w h sl pts = 0 ∧ ways.length = pts.length ∧ (0 ≤ years ∧ years ≤ 60) ∧ ∀ t ∈ ways, 0 ≤ t ∧ t ≤ 3 := by
  unfold toldC at hc
  split at hc
  · rename_i h1
    split at hc
    · rename_i h2
      simp only [fineA, fineW, Bool.and_eq_true, decide_eq_true_eq] at h2
      obtain ⟨⟨⟨h3, h4⟩, h5⟩, h6⟩ := h2
      refine ⟨by simp [cornC, h1, h6], h3, inB_true.1 h4, fun t ht => inB_true.1 (List.all_eq_true.1 h5 t ht)⟩
    · omega
  · omega
abbrev GbS (B : Nat) (W0 : World) (b o d q : Nat) (x y t : Int) (w' : World) : Prop :=
  Below B W0 w' ∧ w'.cell? ⟨b, o, none⟩ = some (.int .i8 x) ∧ w'.cell? ⟨b, o + 1, none⟩ = some (.int .i8 y) ∧ w'.cell? ⟨d, q, none⟩ = some (.int .i64 t)
theorem GbS.keep0 {B : Nat} {W0 w1 w2 : World} {b o d q : Nat} {x y t : Int} (hb : b < B) (hd : d < B) (hS : GbS B W0 b o d q x y t w1) (k : Below B w1 w2) : GbS B W0 b o d q x y t w2 := by
  obtain ⟨g0, h0, h1, h2⟩ := hS
  exact ⟨g0.trans k, (k.cell (p := ⟨b, _, none⟩) hb).trans h0, (k.cell (p := ⟨b, _, none⟩) hb).trans h1, (k.cell (p := ⟨d, _, none⟩) hd).trans h2⟩
theorem GbS.keep {B : Nat} {W0 w1 w2 : World} {b o d q : Nat} {x y t : Int} (hB : B ≤ W0.heap.size) (hb : b < B) (hd : d < B) (hS : GbS B W0 b o d q x y t w1) (k : Below w1.heap.size w1 w2) : GbS B W0 b o d q x y t w2 := GbS.keep0 hb hd hS (k.mono (Nat.le_trans hB hS.1.size))
theorem GbS.keepG {B : Nat} {W0 w1 w2 : World} {b o d q : Nat} {x y t : Int} {r : Option Nat} (hB : B ≤ W0.heap.size) (hb : b < B) (hd : d < B) (hS : GbS B W0 b o d q x y t w1) (hG : w1.grownBy w2 r) (hr : ∀ k, r = some k → B ≤ k) : GbS B W0 b o d q x y t w2 :=
  GbS.keep0 hb hd hS ((Below.refl _ _).grown hG (Nat.le_trans hB hS.1.size) hr)
set_option maxHeartbeats 4000000 in
theorem specGrowAll_calls (w h : Int) (z : Value) (sl : List Slab) (pts : List Cell) (hp : ∀ x ∈ pts, x.ok) (v : Value) (ways : List Int) (u : Value) (years : Int) (W : World) (hq : SqIn W w h z sl) (hs : Sl W W.heap.size Cell.c 2 v pts) (ht : Sl W W.heap.size i64c 1 u ways) :
    Calls Try.prog 34 #[sqv w h z, v, u, .int .i64 years] W (RetRR W (growAll w h sl pts ways years)) := by
  obtain ⟨A, cap, hz, -, -, -⟩ := hq.sl.slab
  subst hz
  obtain ⟨A1, cap1, rfl, hl1, hm1, hcellp⟩ := id hs.cell
  obtain ⟨A2, cap2, rfl, hl2, hm2, hcellt⟩ := id ht.i64
  have HQ := Lib.hid hq
  have HS := Lib.hid hs
  have CP := Lib.hid hcellp
  have CT := Lib.hid hcellt
  have hwl := Lib.hid (show ways.length ≤ 9223372036854775807 from Nat.le_trans hl2 hm2)
  have HB := Lib.hid (ext_alloc ((Below.refl W.heap.size W).alloc (Nat.le_refl _) (.cells #[.int .i8 w, .int .i8 h, .slice A sl.length cap] 34)) (.cells #[] 47))
  have K0 := Lib.hid ((Bk.new W 34 #[.int .i8 w, .int .i8 h, .slice A sl.length cap] W.heap.size rfl).alloc (.cells #[] 47))
  have HA := Lib.hid (show Sq.at_ ((W.alloc (.cells #[.int .i8 w, .int .i8 h, .slice A sl.length cap] 34)).alloc (.cells #[] 47)) W.heap.size 0 w h (.slice A sl.length cap) from ⟨K0.out.cell 0 _ rfl, K0.out.cell 1 _ rfl, K0.out.cell 2 _ rfl, K0.out.lt⟩)
  have HR0 := Lib.hid (RR.empty (W.alloc (.cells #[.int .i8 w, .int .i8 h, .slice A sl.length cap] 34)) (W.heap.size + 1) (W.heap.size + 1) (by simp) (by simp))
  obtain ⟨R, hR0⟩ : ∃ R, R = growAll w h sl pts ways years := ⟨_, rfl⟩
  rw [← hR0]
  have hR := Lib.hid hR0
  have hsz1 := Lib.hid (show ((W.alloc (.cells #[.int .i8 w, .int .i8 h, .slice A sl.length cap] 34)).alloc (.cells #[] 47)).heap.size = W.heap.size + 1 + 1 from by simp)
  have HP := Lib.hid hp
  have qy := Lib.hid (fun W' => yearsS_calls years W')
  have qw := Lib.hid (fun t W' => wayS_calls t W')
  clear hq hs ht hR0 hcellp hcellt hp hl1 hm1 hl2 hm2
  unfold sqv
  go_enter Try.func34, Try.ntmps34
  go_upto_region 2 with (fail)
  generalize (W.alloc (.cells #[.int .i8 w, .int .i8 h, .slice A sl.length cap] 34)).alloc (.cells #[] 47) = W1 at *
  go_cut [11] (fun f wx => f = .bool (decide (ways.length = pts.length) && inB years 0 60) ∧ wx = W1)
  case first =>
    by_cases hlen : ways.length = pts.length
    · have hb1 : ((ways.length : Int) == (pts.length : Int)) = true := by simp [hlen]
      have hE := Lib.hid (show (decide (ways.length = pts.length) && inB years 0 60) = inB years 0 60 from by simp [hlen])
      clear hlen
      go_wp2_with fail
      refine (qy.out _).mono ?_
      rintro e w3 ⟨rfl, rfl⟩
      go_wp2_with fail
      go_meet
      exact ⟨by rw [hE.out], rfl⟩
    · have hb1 : ((ways.length : Int) == (pts.length : Int)) = false := by rw [beq_eq_false_iff_ne]; omega
      have hE := Lib.hid (show (decide (ways.length = pts.length) && inB years 0 60) = false from by simp [hlen])
      clear hlen
      go_wp2_with fail
      go_meet
      exact ⟨by rw [hE.out], rfl⟩
  obtain ⟨rfl, hwc⟩ := hcut
  have hwc := hwc.symm
  subst hwc
  obtain ⟨f0, hf0⟩ : ∃ f, f = (decide (ways.length = pts.length) && inB years 0 60) := ⟨_, rfl⟩
  rw [← hf0]
  have HF0 := Lib.hid hf0
  clear hf0
  go_wp2_with fail
  go_loop [11, 12] (fun f i => ∃ k : Nat, k ≤ ways.length ∧ i = .int .i64 (k : Int) ∧ f = .bool (fineW (ways.take k) f0)) (fun _ i => ways.length - (intOf i).toNat)
  case atStart => exact ⟨0, by omega, rfl, by simp [fineW]⟩
  case round =>
    obtain ⟨k, hk, rfl, rfl⟩ := hrel
    have hwl2 := hwl.out
    by_cases hlt : k < ways.length
    · obtain ⟨b2, o2, rfl, hbb2, t0⟩ := CT.out k hlt
      have t0 := (HB.out.cell (p := ⟨b2, _, none⟩) hbb2).trans t0
      have hst := Lib.hid (fineW_succ ways f0 k hlt)
      generalize ways[k] = t at *
      generalize fineW (ways.take k) f0 = f at *
      have hkd : decide ((k : Int) < (ways.length : Int)) = true := by rw [decide_eq_true_eq]; omega
      cases f
      · have hE := Lib.hid (hst.out.trans (Bool.false_and _))
        clear hst
        go_wp2_with fail
        go_round
        case rel => exact ⟨k + 1, by omega, by go_num, by rw [hE.out]⟩
        case measure => first | (simp [intOf]; done) | (simp [intOf]; omega)
      · have hE := Lib.hid (hst.out.trans (Bool.true_and _))
        clear hst
        go_wp2_with fail
        refine (qw.out t _).mono ?_
        rintro e w3 ⟨rfl, rfl⟩
        go_wp2_with fail
        go_round
        case rel => exact ⟨k + 1, by omega, by go_num, by rw [hE.out]⟩
        case measure => first | (simp [intOf]; done) | (simp [intOf]; omega)
    · obtain rfl : k = ways.length := by omega
      have hFa := Lib.hid (show fineW (ways.take ways.length) f0 = fineA pts ways years from by rw [List.take_length, HF0.out]; rfl)
      rw [hFa.out]
      have hkd : decide ((ways.length : Int) < (ways.length : Int)) = false := by rw [decide_eq_false_iff_not]; omega
      have qt := Lib.hid (told_calls W.heap.size 0 w h _ sl pts HP.out _ (fineA pts ways years) _ (HQ.out.ext HB.out) HA.out (HS.out.ext HB.out))
      obtain ⟨CC, hCC0⟩ : ∃ c, c = toldC w h sl pts (fineA pts ways years) := ⟨_, rfl⟩
      have HTOK := Lib.hid (fun h : CC = 0 => told_ok (hCC0.symm.trans h))
      have hGC := Lib.hid (growAllC_told w h sl pts ways years)
      rw [← hCC0] at qt hGC
      generalize fineA pts ways years = fa at *
      clear hCC0 hwl2
      go_wp2_with fail
      refine qt.out.mono ?_
      rintro e w1 ⟨g, rfl, hgl, hgr, hb1⟩
      have HB1 := Lib.hid (ext_trans HB.out hb1)
      have HR1 := Lib.hid (HR0.out.ext hb1)
      have hs1 := Lib.hid (show W.heap.size + 1 < w1.heap.size from by have := hb1.size; have := hsz1.out; omega)
      have K8 := Lib.hid (Bk.new w1 85 Try.zeroCells85 w1.heap.size rfl)
      have HR2 := Lib.hid (HR1.out.alloc (.cells Try.zeroCells85 85))
      have HB2 := Lib.hid (HB1.out.alloc HB1.out.size (.cells Try.zeroCells85 85))
      have hglH := Lib.hid hgl
      have hgrH := Lib.hid hgr
      have HX1 := Lib.hid hb1
      clear hb1 hgl hgr qt
      go_wp2_with (refine wpList_store_bk rfl 85 (.tmp 13) (.tmp 44) rfl _ (gcells g) rfl rfl _ _ K8.out (by rw [zsize, gcells_size, hglH.out]) (ginfo _ hglH.out) (gcells_one _) ?_)
      intro w2 k8 G8
      have k8 := Lib.hid k8
      have HBw := Lib.hid (HB2.out.grown G8 HB2.out.size (fun j hj => by injection hj with hj; have := hs1.out; omega))
      have hs2 := Lib.hid (show w1.heap.size < w2.heap.size from k8.out.lt)
      have HRw := Lib.hid (show RR w2 (W.heap.size + 1) _ [] from by
        obtain ⟨ds, o1, l1, -⟩ := HR1.out
        have hd0 : ds = [] := List.eq_nil_of_length_eq_zero l1
        subst hd0
        exact ⟨[], (o1.alloc _).keep (fun j hj => G8.block j ((o1.alloc _).lt j hj) (fun e => by injection e with e; have := o1.lt j hj; omega)), rfl, fun i d xs h => by simp at h, fun i j d e h h1 => by simp at h1⟩)
      clear G8
      by_cases hc : CC = 0
      · obtain ⟨hc2, hlen, ⟨y0, y1⟩, hway⟩ := HTOK.out hc
        by_cases h8 : 8 < pts.length
        · have hE := Lib.hid (show growAll w h sl pts ways years = ([], 3) from by simp [growAll, hGC.out, hc, h8])
          have hd8 : decide ((8 : Int) < (pts.length : Int)) = true := by rw [decide_eq_true_eq]; omega
          have hcb : (CC == 0) = true := by simpa using hc
          rw [hc]
          clear hc hlen h8 hc2 hway y0 y1
          go_wp2_with fail
          go_ret2
          rw [hR.out, hE.out]
          exact RetRR.mk rfl (HRw.out.more (by omega)) HBw.out
        · obtain ⟨hv, hpts⟩ := cornC_ok hc2
          obtain ⟨⟨w0, w1'⟩, ⟨h0, h1⟩, hl⟩ := sqOk_edges hv
          obtain ⟨ny, hny⟩ : ∃ ny : Nat, years = (ny : Int) := ⟨years.toNat, (Int.toNat_of_nonneg y0).symm⟩
          subst hny
          have hE := Lib.hid (show growAll w h sl pts ways (ny : Int) = (growAllL sl ny pts ways, 0) from by simp [growAll, hGC.out, hc, h8])
          have hd8 : decide ((8 : Int) < (pts.length : Int)) = false := by rw [decide_eq_false_iff_not]; omega
          have hgg := hgrH.out hc
          subst hgg
          generalize hgx : w1.heap.size = gx at *
          have HGX := Lib.hid hgx
          clear hgx
          have qg := Lib.hid (fun k (hk : k < pts.length) (hk2 : k < ways.length) W' (hb : Bk W' gx 85 (gcells (gridL sl))) => sGrow_calls w h sl hl ⟨w1', h1⟩ pts[k] (hpts _ (List.getElem_mem hk)).1 (hpts _ (List.getElem_mem hk)).2 ways[k] (hway _ (List.getElem_mem hk2)) ny (by omega) gx W' hb)
          have HLN := Lib.hid hlen
          have H8 := Lib.hid h8
          rw [hc]
          unfold Cell.v at qg
          clear hc hlen h8 hc2 hv hpts hl hway
          go_wp2_with fail
          go_loopw [10, 15] (fun r c wr => ∃ k : Nat, k ≤ pts.length ∧ c = .int .i64 (k : Int) ∧ RR wr (W.heap.size + 1) r ((growAllL sl ny pts ways).take k) ∧ (∀ j, r.ownBlock = some j → j ≠ gx) ∧ Bk wr gx 85 (gcells (gridL sl)) ∧ Below W.heap.size W wr) (fun _ c _ => pts.length - (intOf c).toNat)
          case atStart => exact ⟨0, by omega, rfl, by simpa using HRw.out, fun j hj => by simp [Value.ownBlock] at hj; have := hs1.out; omega, k8.out, HBw.out⟩
          case round =>
            obtain ⟨k, hk, rfl, hRr, hne, hKr, hb⟩ := hrel
            have HRr := Lib.hid hRr
            have HNE := Lib.hid hne
            have HKr := Lib.hid hKr
            have HBr := Lib.hid hb
            clear hRr hne hKr hb
            have hp8 : pts.length ≤ 8 := by have := H8.out; omega
            by_cases hlt : k < pts.length
            · have hlt2 : k < ways.length := by have := HLN.out; omega
              obtain ⟨b1, o1, rfl, hbb1, c0, c1⟩ := CP.out k hlt
              obtain ⟨b2, o2, rfl, hbb2, t0⟩ := CT.out k hlt2
              have hst := Lib.hid (growAllL_succ sl ny pts ways k hlt hlt2)
              have qk := Lib.hid (qg.out k hlt hlt2)
              have c0 := (HBr.out.cell (p := ⟨b1, _, none⟩) hbb1).trans c0
              have c1 := (HBr.out.cell (p := ⟨b1, _, none⟩) hbb1).trans c1
              have t0 := (HBr.out.cell (p := ⟨b2, _, none⟩) hbb2).trans t0
              generalize pts[k] = p at *
              generalize ways[k] = t at *
              generalize growL sl ny [p] p t = us at *
              have hll := Lib.hid (show ((growAllL sl ny pts ways).take k).length ≤ 8 from by rw [List.length_take]; omega)
              generalize (growAllL sl ny pts ways).take k = xss at *
              have hk2i : (k : Int) < (ways.length : Int) := by omega
              have hk1i : (k : Int) < (pts.length : Int) := by omega
              have hk0i : (0 : Int) ≤ (k : Int) := by omega
              have hvl := Lib.hid (HRr.out.blk)
              have hBle : W.heap.size ≤ wr.heap.size := HBr.out.size
              have hWs : W.heap.size + 1 ≤ wr.heap.size := by have h1 := hs1.out; have h2 := HKr.out.lt; omega
              have hS : GbS W.heap.size wr b1 (o1 + k * 2) b2 (o2 + k) p.x p.y t wr := ⟨Below.refl _ _, c0, c1, t0⟩
              clear c0 c1 t0
              go_wp2_with fail
              refine wp_region_held_drew (S := (GbS W.heap.size wr b1 (o1 + k * 2) b2 (o2 + k) p.x p.y t)) (by kernel_rfl) ?r30_hS0 (fun hHeld => ?r30_rest)
              case r30_hS0 => (try dsimp only); first | assumption | exact GbS.keep hBle hbb1 hbb2 (by assumption) ((Below.refl _ _).drew) | exact GbS.keep hBle hbb1 hbb2 (by assumption) (by assumption) | exact GbS.keep hBle hbb1 hbb2 (by assumption) ((Below.refl _ _).alloc (Nat.le_refl _) _) | exact GbS.keepG hBle hbb1 hbb2 (by assumption) hG4 (fun j hj => Nat.le_trans (Nat.le_succ _) (hvl.out j hj).1)
              refine wpAnyH_take (i := 0) (v := ?r30_vv0) (by (simp only [List.getElem?_toArray, List.getElem?_cons_succ, List.getElem?_cons_zero]; rfl)) (by kernel_rfl) (by kernel_rfl) (by kernel_rfl) (by exact fun _ _ _ h => h) (Or.inl ⟨by rfl, ?r30_hy0⟩) (by assumption) ?r30_rest0
              case r30_hy0 => intro w hSw; (try dsimp only at hSw); (go_simp <;> (with_reducible rfl))
              try simp only [Act.put, List.setIfInBounds_toArray, List.set_cons_zero, List.set_cons_succ]
              refine wpAnyH_take (i := 1) (v := ?r30_vv1) (by (simp only [List.getElem?_toArray, List.getElem?_cons_succ, List.getElem?_cons_zero]; rfl)) (by kernel_rfl) (by kernel_rfl) (by kernel_rfl) (by exact fun _ _ _ h => h) (Or.inl ⟨by rfl, ?r30_hy1⟩) (by assumption) ?r30_rest1
              case r30_hy1 => intro w hSw; (try dsimp only at hSw); (go_simp <;> (with_reducible rfl))
              try simp only [Act.put, List.setIfInBounds_toArray, List.set_cons_zero, List.set_cons_succ]
              refine wpAnyH_take (i := 2) (v := ?r30_vv2) (by (simp only [List.getElem?_toArray, List.getElem?_cons_succ, List.getElem?_cons_zero]; rfl)) (by kernel_rfl) (by kernel_rfl) (by kernel_rfl) (by exact fun _ _ _ h => h) (Or.inl ⟨by rfl, ?r30_hy2⟩) (by assumption) ?r30_rest2
              case r30_hy2 => intro w hSw; (try dsimp only at hSw); (go_simp <;> (with_reducible rfl))
              try simp only [Act.put, List.setIfInBounds_toArray, List.set_cons_zero, List.set_cons_succ]
              refine wpAnyH_take (i := 3) (v := ?r30_vv3) (by (simp only [List.getElem?_toArray, List.getElem?_cons_succ, List.getElem?_cons_zero]; rfl)) (by kernel_rfl) (by kernel_rfl) (by kernel_rfl) (by exact fun _ _ _ h => h) (Or.inl ⟨by rfl, ?r30_hy3⟩) (by assumption) ?r30_rest3
              case r30_hy3 => intro w hSw; (try dsimp only at hSw); (go_simp <;> (with_reducible rfl))
              try simp only [Act.put, List.setIfInBounds_toArray, List.set_cons_zero, List.set_cons_succ]
              refine wpAnyH_take (i := 4) (v := ?r30_vv4) (by (simp only [List.getElem?_toArray, List.getElem?_cons_succ, List.getElem?_cons_zero]; rfl)) (by kernel_rfl) (by kernel_rfl) (by kernel_rfl) (by exact fun _ _ _ h => h) (Or.inl ⟨by rfl, ?r30_hy4⟩) (by assumption) ?r30_rest4
              case r30_hy4 => intro w hSw; (try dsimp only at hSw); (go_simp <;> (with_reducible rfl))
              try simp only [Act.put, List.setIfInBounds_toArray, List.set_cons_zero, List.set_cons_succ]
              refine wpAnyH_take (i := 5) (v := ?r30_vv5) (by (simp only [List.getElem?_toArray, List.getElem?_cons_succ, List.getElem?_cons_zero]; rfl)) (by kernel_rfl) (by kernel_rfl) (by kernel_rfl) (by exact fun _ _ _ h => h) (Or.inl ⟨by rfl, ?r30_hy5⟩) (by assumption) ?r30_rest5
              case r30_hy5 => intro w hSw; (try dsimp only at hSw); (go_simp <;> (with_reducible rfl))
              try simp only [Act.put, List.setIfInBounds_toArray, List.set_cons_zero, List.set_cons_succ]
              refine wpAnyH_take (i := 6) (v := ?r30_vv6) (by (simp only [List.getElem?_toArray, List.getElem?_cons_succ, List.getElem?_cons_zero]; rfl)) (by kernel_rfl) (by kernel_rfl) (by kernel_rfl) (by exact fun _ _ _ h => h) (Or.inl ⟨by rfl, ?r30_hy6⟩) (by assumption) ?r30_rest6
              case r30_hy6 => intro w hSw; (try dsimp only at hSw); (go_simp <;> (with_reducible rfl))
              try simp only [Act.put, List.setIfInBounds_toArray, List.set_cons_zero, List.set_cons_succ]
              refine wpAnyH_take (i := 7) (v := ?r30_vv7) (by (simp only [List.getElem?_toArray, List.getElem?_cons_succ, List.getElem?_cons_zero]; rfl)) (by kernel_rfl) (by kernel_rfl) (by kernel_rfl) (by exact fun _ _ _ h => h) (Or.inl ⟨by rfl, ?r30_hy7⟩) (by assumption) ?r30_rest7
              case r30_hy7 => intro w hSw; (try dsimp only at hSw); (go_simp <;> (with_reducible rfl))
              try simp only [Act.put, List.setIfInBounds_toArray, List.set_cons_zero, List.set_cons_succ]
              refine wpAnyH_take (i := 8) (v := ?r30_vv8) (by (simp only [List.getElem?_toArray, List.getElem?_cons_succ, List.getElem?_cons_zero]; rfl)) (by kernel_rfl) (by kernel_rfl) (by kernel_rfl) (by exact fun _ _ _ h => h) (Or.inl ⟨by rfl, ?r30_hy8⟩) (by assumption) ?r30_rest8
              case r30_hy8 => intro w hSw; (try dsimp only at hSw); (go_simp <;> (with_reducible rfl))
              try simp only [Act.put, List.setIfInBounds_toArray, List.set_cons_zero, List.set_cons_succ]
              refine wpAnyH_take (i := 9) (v := ?r30_vv9) (by (simp only [List.getElem?_toArray, List.getElem?_cons_succ, List.getElem?_cons_zero]; rfl)) (by kernel_rfl) (by kernel_rfl) (by kernel_rfl) (by exact fun _ _ _ h => h) (Or.inl ⟨by rfl, ?r30_hy9⟩) (by assumption) ?r30_rest9
              case r30_hy9 => intro w hSw; (try dsimp only at hSw); (go_simp <;> (with_reducible rfl))
              try simp only [Act.put, List.setIfInBounds_toArray, List.set_cons_zero, List.set_cons_succ]
              refine wpAnyH_ready (rs := [10]) (by kernel_rfl) (by simp) ?_
              refine AllReadyH.cons (by (simp only [List.getElem?_toArray, List.getElem?_cons_succ, List.getElem?_cons_zero]; rfl)) (fun K hK => ?_) AllReadyH.nil
              go_simp
              (go_at_call 74; refine (qk.out _ (by first | exact HKr.out | exact HKr.out.ext ((Below.refl _ _).drew))).mono ?_; rintro e w3 ⟨g, c, rfl, hO2, hb2⟩; have hX2 := Lib.hid (show Below wr.heap.size wr w3 from by first | exact (Below.refl _ wr).drew.trans hb2 | exact hb2); obtain ⟨ds, hdl, hOd, hpush⟩ := RR.app (d := ⟨some ⟨g, 0, none⟩, us.length, c⟩) HRr.out hX2.out hO2 (Nat.le_refl _) hWs (.cells #[.slice (some ⟨g, 0, none⟩) us.length c] 47); have hOd := Lib.hid hOd; have hpush := Lib.hid hpush; have hdl := Lib.hid hdl)
              try go_wp2_with fail
              refine hK.out _ _ ?r30_hS10 (fun hHeld => ?r30_r10)
              case r30_hS10 => (try dsimp only); first | assumption | exact GbS.keep hBle hbb1 hbb2 (by assumption) ((Below.refl _ _).drew) | exact GbS.keep hBle hbb1 hbb2 (by assumption) (by assumption) | exact GbS.keep hBle hbb1 hbb2 (by assumption) ((Below.refl _ _).alloc (Nat.le_refl _) _) | exact GbS.keepG hBle hbb1 hbb2 (by assumption) hG4 (fun j hj => Nat.le_trans (Nat.le_succ _) (hvl.out j hj).1)
              clear hK K
              try simp only [Act.put, List.setIfInBounds_toArray, List.set_cons_zero, List.set_cons_succ]
              refine wpAnyH_ready (rs := [11]) (by kernel_rfl) (by simp) ?_
              refine AllReadyH.cons (by (simp only [List.getElem?_toArray, List.getElem?_cons_succ, List.getElem?_cons_zero]; rfl)) (fun K hK => ?_) AllReadyH.nil
              go_simp
              skip
              try go_wp2_with fail
              refine hK.out _ _ ?r30_hS11 (fun hHeld => ?r30_r11)
              case r30_hS11 => (try dsimp only); first | assumption | exact GbS.keep hBle hbb1 hbb2 (by assumption) ((Below.refl _ _).drew) | exact GbS.keep hBle hbb1 hbb2 (by assumption) (by assumption) | exact GbS.keep hBle hbb1 hbb2 (by assumption) ((Below.refl _ _).alloc (Nat.le_refl _) _) | exact GbS.keepG hBle hbb1 hbb2 (by assumption) hG4 (fun j hj => Nat.le_trans (Nat.le_succ _) (hvl.out j hj).1)
              clear hK K
              try simp only [Act.put, List.setIfInBounds_toArray, List.set_cons_zero, List.set_cons_succ]
              refine wpAnyH_ready (rs := [12]) (by kernel_rfl) (by simp) ?_
              refine AllReadyH.cons (by (simp only [List.getElem?_toArray, List.getElem?_cons_succ, List.getElem?_cons_zero]; rfl)) (fun K hK => ?_) AllReadyH.nil
              (refine step_app appCC rfl _ _ rfl (W.heap.size + 1) ds [⟨some ⟨g, 0, none⟩, us.length, c⟩] _ _ rfl rfl hOd.out (bk_sd (Bk.new _ _ _ _ rfl)) (by have h1 := hll.out; have h2 := hdl.out; simp; omega) (by have h1 := hll.out; have h2 := hdl.out; simp; omega) (by have h2 := hX2.out.size; simp; omega) ?_; intro v4 w4 hO4 hG4 hat)
              refine hK.out _ _ ?r30_hS12 (fun hHeld => ?r30_r12)
              case r30_hS12 => (try dsimp only); first | assumption | exact GbS.keep hBle hbb1 hbb2 (by assumption) ((Below.refl _ _).drew) | exact GbS.keep hBle hbb1 hbb2 (by assumption) (by assumption) | exact GbS.keep hBle hbb1 hbb2 (by assumption) ((Below.refl _ _).alloc (Nat.le_refl _) _) | exact GbS.keepG hBle hbb1 hbb2 (by assumption) hG4 (fun j hj => Nat.le_trans (Nat.le_succ _) (hvl.out j hj).1)
              clear hK K
              try simp only [Act.put, List.setIfInBounds_toArray, List.set_cons_zero, List.set_cons_succ]
              refine wpAnyH_take (i := 13) (v := ?r30_vv13) (by (simp only [List.getElem?_toArray, List.getElem?_cons_succ, List.getElem?_cons_zero]; rfl)) (by kernel_rfl) (by kernel_rfl) (by kernel_rfl) (by exact fun _ _ _ h => h) (Or.inl ⟨by rfl, ?r30_hy13⟩) (by assumption) ?r30_rest13
              case r30_hy13 => intro w hSw; (try dsimp only at hSw); (go_simp <;> (with_reducible rfl))
              try simp only [Act.put, List.setIfInBounds_toArray, List.set_cons_zero, List.set_cons_succ]
              refine wpAnyH_done (by kernel_rfl) ?_ _
              have h9 := Lib.hid (show GbS W.heap.size wr b1 (o1 + k * 2) b2 (o2 + k) p.x p.y t w4 from by assumption)
              have hR4 := Lib.hid (hpush.out v4 w4 hO4 hG4 hat)
              have hB4 := Lib.hid (HBr.out.trans h9.out.1)
              have hK3 := Lib.hid ((HKr.out.ext hX2.out).alloc (.cells #[.slice (some ⟨g, 0, none⟩) us.length c] 47))
              have hK4 := Lib.hid (show Bk w4 gx _ _ from (hG4.block _ hK3.out.lt (fun e => HNE.out _ e.symm rfl)).trans hK3.out)
              have hN4 := Lib.hid (show ∀ j, v4.ownBlock = some j → j ≠ gx from fun j hj => by
                rcases hat with he | he
                · exact HNE.out j (he ▸ hj)
                · rw [he] at hj
                  injection hj with hj
                  have := hK3.out.lt
                  omega)
              clear hO2 hb2 hS hO4 hG4 hat
              repeat clear hHeld
              rw [← hst.out] at hR4
              go_wp2_with fail
              go_roundw
              case rel => exact ⟨k + 1, by omega, by go_num, hR4.out, hN4.out, hK4.out, hB4.out⟩
              case measure => first | (simp [intOf]; done) | (simp [intOf]; omega)
            · obtain rfl : k = pts.length := by omega
              have hT := Lib.hid (show (growAllL sl ny pts ways).take pts.length = growAllL sl ny pts ways from List.take_of_length_le (by rw [growAllL_len HLN.out]; exact Nat.le_refl _))
              go_wp2_with fail
              go_ret2
              rw [hR.out, hE.out]
              exact RetRR.mk rfl (by rw [← hT.out]; exact HRr.out.more (by omega)) HBr.out
      · have hE := Lib.hid (show growAll w h sl pts ways years = ([], CC) from by simp [growAll, hGC.out, hc])
        have hcb : (CC == 0) = false := by simpa using hc
        have hcb2 : (CC != 0) = true := by simpa using hc
        clear hc
        go_wp2_with fail
        go_ret2
        rw [hR.out, hE.out]
        exact RetRR.mk rfl (HRw.out.more (by omega)) HBw.out
end Go.Proofs.Ytbmkhhhlnollmaa
