/-
GrowAll of the program. Conditions: slices can be read.
-/
import Derived.Test.YtbmkhhhlnollmaaGA2
import Derived.Test.YtbmkhhhlnollmaaGR4
set_option linter.unusedVariables false
set_option linter.unusedSimpArgs false
set_option maxRecDepth 100000
namespace Go.Proofs.Ytbmkhhhlnollmaa
open Go.RowKit
def growAllC (w h : Int) (sl : List Slab) (pts : List Cell) (ways : List Int) (years : Int) : Int :=
  if growC w h sl pts ways years = 0 then (if ways.length = pts.length then (if 8 < pts.length then 3 else 0) else 2) else growC w h sl pts ways years
def growAllL (sl : List Slab) (n : Nat) (pts : List Cell) (ways : List Int) : List (List Cell) := List.zipWith (fun p t => growL sl n [p] p t) pts ways
def growAll (w h : Int) (sl : List Slab) (pts : List Cell) (ways : List Int) (years : Int) : List (List Cell) × Int :=
  if growAllC w h sl pts ways years = 0 then (growAllL sl years.toNat pts ways, 0) else ([], growAllC w h sl pts ways years)
theorem growAllL_len {sl : List Slab} {n : Nat} {pts : List Cell} {ways : List Int} (h : ways.length = pts.length) : (growAllL sl n pts ways).length = pts.length := by simp [growAllL, h]
theorem growAllL_succ (sl : List Slab) (n : Nat) (pts : List Cell) (ways : List Int) (k : Nat) (hk : k < pts.length) (hk2 : k < ways.length) :
    (growAllL sl n pts ways).take (k + 1) = (growAllL sl n pts ways).take k ++ [growL sl n [pts[k]] pts[k] ways[k]] := by
  have hl : k < (growAllL sl n pts ways).length := by simp [growAllL]; omega
  rw [List.take_succ_eq_append_getElem hl]
  congr 2
  simp [growAllL]
theorem growL_le (sl : List Slab) : ∀ (n : Nat) (out : List Cell) (p : Cell) (t : Int), (growL sl n out p t).length ≤ out.length + n
  | 0, out, _, _ => Nat.le_refl _
  | n + 1, out, p, t => by
    rw [growL]
    split
    · omega
    · split
      · omega
      · have := growL_le sl n (out ++ [aheadC p (turnAt sl p t)]) (aheadC p (turnAt sl p t)) (turnAt sl p t)
        rw [List.length_append, List.length_cons, List.length_nil] at this
        omega
theorem growAll_small (w h : Int) (sl : List Slab) (pts : List Cell) (ways : List Int) (years : Int) : (growAll w h sl pts ways years).1.length ≤ 8 ∧ tot (growAll w h sl pts ways years).1 ≤ 8 * 61 := by
  unfold growAll
  split
  · rename_i hc
    unfold growAllC at hc
    split at hc
    · rename_i h1
      obtain ⟨-, ⟨y0, y1⟩, -⟩ := growC_ok h1
      split at hc
      · rename_i h2
        split at hc
        · omega
        · rename_i h3
          have hl := growAllL_len (sl := sl) (n := years.toNat) h2
          refine ⟨by rw [hl]; omega, ?_⟩
          have hb : ∀ xs ∈ growAllL sl years.toNat pts ways, xs.length ≤ 61 := by
            intro xs hx
            obtain ⟨i, hi, rfl⟩ := List.getElem_of_mem hx
            simp only [growAllL, List.getElem_zipWith]
            refine Nat.le_trans (growL_le _ _ _ _ _) ?_
            simp
            omega
          have : ∀ xss : List (List Cell), (∀ xs ∈ xss, xs.length ≤ 61) → tot xss ≤ xss.length * 61 := by
            intro xss
            induction xss with
            | nil => intro _; simp [tot]
            | cons x xss ih =>
              intro h
              have h1 := ih (fun xs hx => h xs (by simp [hx]))
              have h2 := h x (by simp)
              have h3 : tot (x :: xss) = x.length + tot xss := by simp [tot]
              rw [h3, List.length_cons]
              omega
          refine Nat.le_trans (this _ hb) ?_
          rw [hl]
          omega
      · omega
    · exact absurd hc (by assumption)
  · simp [tot]
/-- A row to be set behind others. -/
theorem RR.app {w w2 : World} {B C : Nat} {v : Value} {xss : List (List Cell)} {d : Sd} {us : List Cell} (hR : RR w B v xss) (hb : Below w.heap.size w w2) (hO : Own w2 C 36 Cell.c 2 d.v us) (hC : w.heap.size ≤ C) (hB : B ≤ w.heap.size) (o : Obj) :
    ∃ ds : List Sd, ds.length = xss.length ∧ Own (w2.alloc o) B 47 sdc 1 v ds ∧ ∀ v' w', Own w' B 47 sdc 1 v' (ds ++ [d]) → (w2.alloc o).grownBy w' v.ownBlock → (v'.ownBlock = v.ownBlock ∨ v'.ownBlock = some (w2.alloc o).heap.size) → RR w' B v' (xss ++ [us]) := by
  obtain ⟨ds, h1, h2, h3, h4⟩ := hR
  refine ⟨ds, h2, (h1.ext hb).alloc o, fun v' w' hO' hG hat => ?_⟩
  refine RR.push ((h1.ext hb).alloc o) h2 (fun i e xs he hx => ?_) h4 ((hO.more (Nat.le_trans hB hC)).alloc o) (fun k hk => hO.base k hk) (fun k hk => Nat.lt_of_lt_of_le (h1.lt k hk) hC) (fun i e he k hk => ?_) hO' hG hat
  · obtain ⟨g1, g2⟩ := h3 i e xs he hx
    exact ⟨(g1.ext hb).alloc o, g2⟩
  · have hi : i < ds.length := (List.getElem?_eq_some_iff.1 he).1
    obtain ⟨x, hx⟩ : ∃ x, xss[i]? = some x := ⟨xss[i]'(by omega), List.getElem?_eq_getElem (by omega)⟩
    exact Nat.lt_of_lt_of_le ((h3 i e x he hx).1.lt k hk) hC
theorem RR.blk {w : World} {B : Nat} {v : Value} {xss : List (List Cell)} (hR : RR w B v xss) : ∀ j, v.ownBlock = some j → B ≤ j ∧ j < w.heap.size := by
  obtain ⟨ds, h1, -⟩ := hR
  exact fun j hj => ⟨h1.base j hj, h1.lt j hj⟩
/-- What a round that grows one crack leaves as it was: a box of three cells, one of two, a number. -/
abbrev GaS (B : Nat) (W0 : World) (b c d o : Nat) (w h : Int) (z : Value) (x y t : Int) (w' : World) : Prop :=
  Below B W0 w' ∧ c < w'.heap.size ∧ w'.cell? ⟨b, 0, none⟩ = some (.int .i8 w) ∧ w'.cell? ⟨b, 1, none⟩ = some (.int .i8 h) ∧ w'.cell? ⟨b, 2, none⟩ = some z ∧ w'.cell? ⟨c, 0, none⟩ = some (.int .i8 x) ∧ w'.cell? ⟨c, 1, none⟩ = some (.int .i8 y) ∧ w'.cell? ⟨d, o, none⟩ = some (.int .i64 t)
theorem GaS.keep {B : Nat} {W0 w1 w2 : World} {b c d o : Nat} {w h : Int} {z : Value} {x y t : Int} (hB : B ≤ W0.heap.size) (hb : b < B) (hd : d < B) (hS : GaS B W0 b c d o w h z x y t w1) (k : Below w1.heap.size w1 w2) : GaS B W0 b c d o w h z x y t w2 := by
  obtain ⟨g0, g1, h0, h1, h2, h3, h4, h5⟩ := hS
  have hs := Nat.le_trans hB g0.size
  have q : ∀ e f, e < w1.heap.size → w2.cell? ⟨e, f, none⟩ = w1.cell? ⟨e, f, none⟩ := fun e f he => k.cell (p := ⟨e, f, none⟩) he
  have hb1 : b < w1.heap.size := by omega
  have hd1 : d < w1.heap.size := by omega
  exact ⟨g0.trans (k.mono hs), Nat.lt_of_lt_of_le g1 k.size, (q _ _ hb1).trans h0, (q _ _ hb1).trans h1, (q _ _ hb1).trans h2, (q _ _ g1).trans h3, (q _ _ g1).trans h4, (q _ _ hd1).trans h5⟩
theorem GaS.keepG {B : Nat} {W0 w1 w2 : World} {b c d o : Nat} {w h : Int} {z : Value} {x y t : Int} {r : Option Nat} (hB : B ≤ W0.heap.size) (hb : b < B) (hd : d < B) (hS : GaS B W0 b c d o w h z x y t w1) (hG : w1.grownBy w2 r) (hr : ∀ k, r = some k → B ≤ k ∧ k < c) : GaS B W0 b c d o w h z x y t w2 := by
  obtain ⟨g0, g1, h0, h1, h2, h3, h4, h5⟩ := hS
  have hs := Nat.le_trans hB g0.size
  have q : ∀ e f, e < w1.heap.size → (∀ k, r = some k → k ≠ e) → w2.cell? ⟨e, f, none⟩ = w1.cell? ⟨e, f, none⟩ := fun e f he hne => World.cell?_of_block (w := w1) (hG.block e he (fun e2 => hne e e2.symm rfl))
  have nb : ∀ k, r = some k → k ≠ b := fun k hk => by have := (hr k hk).1; omega
  have nd : ∀ k, r = some k → k ≠ d := fun k hk => by have := (hr k hk).1; omega
  have nc : ∀ k, r = some k → k ≠ c := fun k hk => by have := (hr k hk).2; omega
  exact ⟨g0.grown hG hs (fun k hk => (hr k hk).1), Nat.lt_of_lt_of_le g1 hG.size, (q _ _ (by omega) nb).trans h0, (q _ _ (by omega) nb).trans h1, (q _ _ (by omega) nb).trans h2, (q _ _ g1 nc).trans h3, (q _ _ g1 nc).trans h4, (q _ _ (by omega) nd).trans h5⟩
set_option maxHeartbeats 2000000 in
theorem implGrowAll_calls (w h : Int) (z : Value) (sl : List Slab) (pts : List Cell) (hp : ∀ x ∈ pts, x.ok) (v : Value) (ways : List Int) (u : Value) (years : Int) (W : World) (hq : SqIn W w h z sl) (hs : Sl W W.heap.size Cell.c 2 v pts) (ht : Sl W W.heap.size i64c 1 u ways) :
    Calls Try.prog 36 #[sqv w h z, v, u, .int .i64 years] W (RetRR W (growAll w h sl pts ways years)) := by
  obtain ⟨A, cap, hz, -, -, -⟩ := hq.sl.slab
  subst hz
  obtain ⟨A1, cap1, rfl, -, -, hcellp⟩ := id hs.cell
  obtain ⟨A2, cap2, rfl, -, -, hcellt⟩ := id ht.i64
  have HQ := Lib.hid hq
  have CP := Lib.hid hcellp
  have CT := Lib.hid hcellt
  have HB := Lib.hid ((Below.refl W.heap.size W).alloc (Nat.le_refl _) (.cells #[.int .i8 w, .int .i8 h, .slice A sl.length cap] 34))
  have K0 := Lib.hid (Bk.new W 34 #[.int .i8 w, .int .i8 h, .slice A sl.length cap] W.heap.size rfl)
  have qc := Lib.hid (growCode_calls w h _ sl pts hp _ ways _ years _ (hq.ext HB.out) (hs.ext HB.out) (ht.ext HB.out))
  obtain ⟨R, hR0⟩ : ∃ R, R = growAll w h sl pts ways years := ⟨_, rfl⟩
  rw [← hR0]
  have hR := Lib.hid hR0
  have k0 := K0.out.cell 0 _ rfl
  have k1 := K0.out.cell 1 _ rfl
  have k2 := K0.out.cell 2 _ rfl
  clear hq hs ht hR0 hcellp hcellt
  unfold sqv at *
  go_enter Try.func36, Try.ntmps36
  go_wp2_with fail
  refine qc.out.mono ?_
  rintro e w1 ⟨rfl, hb1⟩
  have HB1 := Lib.hid (ext_trans HB.out hb1)
  have K01 := Lib.hid (K0.out.ext hb1)
  clear hb1 k0 k1 k2
  by_cases hc : growC w h sl pts ways years = 0
  · obtain ⟨hc2, ⟨y0, y1⟩, hway⟩ := growC_ok hc
    obtain ⟨hv, hpts⟩ := cornC_ok hc2
    obtain ⟨⟨w0, w1'⟩, ⟨h0, h1⟩, hl⟩ := sqOk_edges hv
    by_cases hlen : ways.length = pts.length
    · by_cases h8 : 8 < pts.length
      · have hE := Lib.hid (show growAll w h sl pts ways years = ([], 3) from by simp [growAll, growAllC, hc, hlen, h8])
        have hbn : ((ways.length : Int) != (pts.length : Int)) = false := by simp [hlen]
        have hd8 : decide ((8 : Int) < (pts.length : Int)) = true := by rw [decide_eq_true_eq]; omega
        rw [hc]
        clear hc hlen h8 hc2 hv hpts hl hway y0 y1
        go_wp2_with fail
        go_ret2
        rw [hR.out, hE.out]
        exact RetRR.mk (v := .slice none 0 0) rfl (RR.nil_ _ _) HB1.out
      · obtain ⟨ny, hny⟩ : ∃ ny : Nat, years = (ny : Int) := ⟨years.toNat, (Int.toNat_of_nonneg y0).symm⟩
        subst hny
        have hE := Lib.hid (show growAll w h sl pts ways (ny : Int) = (growAllL sl ny pts ways, 0) from by simp [growAll, growAllC, hc, hlen, h8])
        have hbn : ((ways.length : Int) != (pts.length : Int)) = false := by simp [hlen]
        have hd8 : decide ((8 : Int) < (pts.length : Int)) = false := by rw [decide_eq_false_iff_not]; omega
        have qg := Lib.hid (fun k (hk : k < pts.length) (hk2 : k < ways.length) W' (hb : Below W.heap.size W W') => grow_calls w h _ sl hl ⟨w1', h1⟩ pts[k] (hpts _ (List.getElem_mem hk)).1 (hpts _ (List.getElem_mem hk)).2 ways[k] (hway _ (List.getElem_mem hk2)) ny (by omega) W' (HQ.out.ext hb))
        have HLN := Lib.hid hlen
        have H8 := Lib.hid h8
        rw [hc]
        unfold sqv Cell.v at qg
        clear hc hlen h8 hc2 hv hpts hl hway
        have K02 := Lib.hid (K01.out.alloc (.cells #[] 47))
        have HB2 := Lib.hid (HB1.out.alloc HB1.out.size (.cells #[] 47))
        have HR0 := Lib.hid (RR.empty w1 (W.heap.size + 1) w1.heap.size rfl K01.out.lt)
        go_wp2_with fail
        go_loopw [11, 12, 13, 36] (fun r _ _ c wr => ∃ k : Nat, k ≤ pts.length ∧ c = .int .i64 (k : Int) ∧ RR wr (W.heap.size + 1) r ((growAllL sl ny pts ways).take k) ∧ Bk wr W.heap.size 34 #[.int .i8 w, .int .i8 h, .slice A sl.length cap] ∧ Below W.heap.size W wr) (fun _ _ _ c _ => pts.length - (intOf c).toNat)
        case atStart => exact ⟨0, by omega, rfl, HR0.out, K02.out, HB2.out⟩
        case round =>
          obtain ⟨k, hk, rfl, hRr, hKr, hb⟩ := hrel
          have HRr := Lib.hid hRr
          have HKr := Lib.hid hKr
          have HBr := Lib.hid hb
          clear hRr hKr hb
          have hp8 : pts.length ≤ 8 := by have := H8.out; omega
          by_cases hlt : k < pts.length
          · have hlt2 : k < ways.length := by have := HLN.out; omega
            obtain ⟨b1, o1, rfl, hbb1, c0, c1⟩ := CP.out k hlt
            obtain ⟨b2, o2, rfl, hbb2, t0⟩ := CT.out k hlt2
            have hst := Lib.hid (growAllL_succ sl ny pts ways k hlt hlt2)
            have qk := Lib.hid (qg.out k hlt hlt2)
            have c0 := (HBr.out.cell (p := ⟨b1, _, none⟩) hbb1).trans c0
            have c1 := (HBr.out.cell (p := ⟨b1, _, none⟩) hbb1).trans c1
            generalize pts[k] = p at *
            generalize ways[k] = t at *
            generalize growL sl ny [p] p t = us at *
            have hll := Lib.hid (show ((growAllL sl ny pts ways).take k).length ≤ 8 from by rw [List.length_take]; omega)
            generalize (growAllL sl ny pts ways).take k = xss at *
            have KV := Lib.hid (Bk.new wr 36 #[.int .i8 p.x, .int .i8 p.y] wr.heap.size rfl)
            have HBa := Lib.hid (HBr.out.alloc HBr.out.size (.cells #[.int .i8 p.x, .int .i8 p.y] 36))
            have HXa := Lib.hid ((Below.refl wr.heap.size wr).alloc (Nat.le_refl _) (.cells #[.int .i8 p.x, .int .i8 p.y] 36))
            have HKa := Lib.hid (HKr.out.alloc (.cells #[.int .i8 p.x, .int .i8 p.y] 36))
            go_upto_region 12 with (fail)
            generalize wr.alloc (.cells #[.int .i8 p.x, .int .i8 p.y] 36) = wa at *
            have v0 := KV.out.cell 0 _ rfl
            have v1 := KV.out.cell 1 _ rfl
            have k0 := HKa.out.cell 0 _ rfl
            have k1 := HKa.out.cell 1 _ rfl
            have k2 := HKa.out.cell 2 _ rfl
            have t0 := (HBa.out.cell (p := ⟨b2, _, none⟩) hbb2).trans t0
            have hk2i : (k : Int) < (ways.length : Int) := by omega
            have hk0i : (0 : Int) ≤ (k : Int) := by omega
            have hvl := Lib.hid (HRr.out.blk)
            have hBle : W.heap.size + 1 ≤ wa.heap.size := HKa.out.lt
            have hbB : W.heap.size < W.heap.size + 1 := Nat.lt_succ_self _
            have hdB : b2 < W.heap.size + 1 := by omega
            have hS : GaS (W.heap.size + 1) wa W.heap.size wr.heap.size b2 (o2 + k) w h (.slice A sl.length cap) p.x p.y t wa := ⟨Below.refl _ _, KV.out.lt, k0, k1, k2, v0, v1, t0⟩
            clear c0 c1 k0 k1 k2 v0 v1 t0
            refine wp_region_held_drew (S := (GaS (W.heap.size + 1) wa W.heap.size wr.heap.size b2 (o2 + k) w h (.slice A sl.length cap) p.x p.y t)) (by kernel_rfl) ?r29_hS0 (fun hHeld => ?r29_rest)
            case r29_hS0 => (try dsimp only); first | assumption | exact GaS.keep hBle hbB hdB (by assumption) ((Below.refl _ _).drew) | exact GaS.keep hBle hbB hdB (by assumption) (by assumption) | exact GaS.keep hBle hbB hdB (by assumption) ((Below.refl _ _).alloc (Nat.le_refl _) _) | exact GaS.keepG hBle hbB hdB (by assumption) hG4 hvl.out
            refine wpAnyH_take (i := 0) (v := ?r29_vv0) (by (simp only [List.getElem?_toArray, List.getElem?_cons_succ, List.getElem?_cons_zero]; rfl)) (by kernel_rfl) (by kernel_rfl) (by kernel_rfl) (by exact fun _ _ _ h => h) (Or.inl ⟨by rfl, ?r29_hy0⟩) (by assumption) ?r29_rest0
            case r29_hy0 => intro w hSw; (try dsimp only at hSw); (go_simp <;> (with_reducible rfl))
            try simp only [Act.put, List.setIfInBounds_toArray, List.set_cons_zero, List.set_cons_succ]
            refine wpAnyH_take (i := 1) (v := ?r29_vv1) (by (simp only [List.getElem?_toArray, List.getElem?_cons_succ, List.getElem?_cons_zero]; rfl)) (by kernel_rfl) (by kernel_rfl) (by kernel_rfl) (by exact fun _ _ _ h => h) (Or.inl ⟨by rfl, ?r29_hy1⟩) (by assumption) ?r29_rest1
            case r29_hy1 => intro w hSw; (try dsimp only at hSw); (go_simp <;> (with_reducible rfl))
            try simp only [Act.put, List.setIfInBounds_toArray, List.set_cons_zero, List.set_cons_succ]
            refine wpAnyH_take (i := 2) (v := ?r29_vv2) (by (simp only [List.getElem?_toArray, List.getElem?_cons_succ, List.getElem?_cons_zero]; rfl)) (by kernel_rfl) (by kernel_rfl) (by kernel_rfl) (by exact fun _ _ _ h => h) (Or.inl ⟨by rfl, ?r29_hy2⟩) (by assumption) ?r29_rest2
            case r29_hy2 => intro w hSw; (try dsimp only at hSw); (go_simp <;> (with_reducible rfl))
            try simp only [Act.put, List.setIfInBounds_toArray, List.set_cons_zero, List.set_cons_succ]
            refine wpAnyH_take (i := 3) (v := ?r29_vv3) (by (simp only [List.getElem?_toArray, List.getElem?_cons_succ, List.getElem?_cons_zero]; rfl)) (by kernel_rfl) (by kernel_rfl) (by kernel_rfl) (by exact fun _ _ _ h => h) (Or.inl ⟨by rfl, ?r29_hy3⟩) (by assumption) ?r29_rest3
            case r29_hy3 => intro w hSw; (try dsimp only at hSw); (go_simp <;> (with_reducible rfl))
            try simp only [Act.put, List.setIfInBounds_toArray, List.set_cons_zero, List.set_cons_succ]
            refine wpAnyH_take (i := 4) (v := ?r29_vv4) (by (simp only [List.getElem?_toArray, List.getElem?_cons_succ, List.getElem?_cons_zero]; rfl)) (by kernel_rfl) (by kernel_rfl) (by kernel_rfl) (by exact fun _ _ _ h => h) (Or.inl ⟨by rfl, ?r29_hy4⟩) (by assumption) ?r29_rest4
            case r29_hy4 => intro w hSw; (try dsimp only at hSw); (go_simp <;> (with_reducible rfl))
            try simp only [Act.put, List.setIfInBounds_toArray, List.set_cons_zero, List.set_cons_succ]
            refine wpAnyH_take (i := 5) (v := ?r29_vv5) (by (simp only [List.getElem?_toArray, List.getElem?_cons_succ, List.getElem?_cons_zero]; rfl)) (by kernel_rfl) (by kernel_rfl) (by kernel_rfl) (by exact fun _ _ _ h => h) (Or.inl ⟨by rfl, ?r29_hy5⟩) (by assumption) ?r29_rest5
            case r29_hy5 => intro w hSw; (try dsimp only at hSw); (go_simp <;> (with_reducible rfl))
            try simp only [Act.put, List.setIfInBounds_toArray, List.set_cons_zero, List.set_cons_succ]
            refine wpAnyH_take (i := 6) (v := ?r29_vv6) (by (simp only [List.getElem?_toArray, List.getElem?_cons_succ, List.getElem?_cons_zero]; rfl)) (by kernel_rfl) (by kernel_rfl) (by kernel_rfl) (by exact fun _ _ _ h => h) (Or.inl ⟨by rfl, ?r29_hy6⟩) (by assumption) ?r29_rest6
            case r29_hy6 => intro w hSw; (try dsimp only at hSw); (go_simp <;> (with_reducible rfl))
            try simp only [Act.put, List.setIfInBounds_toArray, List.set_cons_zero, List.set_cons_succ]
            refine wpAnyH_take (i := 7) (v := ?r29_vv7) (by (simp only [List.getElem?_toArray, List.getElem?_cons_succ, List.getElem?_cons_zero]; rfl)) (by kernel_rfl) (by kernel_rfl) (by kernel_rfl) (by exact fun _ _ _ h => h) (Or.inl ⟨by rfl, ?r29_hy7⟩) (by assumption) ?r29_rest7
            case r29_hy7 => intro w hSw; (try dsimp only at hSw); (go_simp <;> (with_reducible rfl))
            try simp only [Act.put, List.setIfInBounds_toArray, List.set_cons_zero, List.set_cons_succ]
            refine wpAnyH_ready (rs := [8]) (by kernel_rfl) (by simp) ?_
            refine AllReadyH.cons (by (simp only [List.getElem?_toArray, List.getElem?_cons_succ, List.getElem?_cons_zero]; rfl)) (fun K hK => ?_) AllReadyH.nil
            go_simp
            (go_at_call 76; refine (qk.out _ (HBa.out.trans ((show Below (W.heap.size + 1) wa _ from And.left (b := _) (by assumption)).mono (Nat.le_succ _)))).mono ?_; rintro e w2 ⟨g, c, rfl, hO2, hb2⟩; have hX2 := Lib.hid (show Below wr.heap.size wr w2 from by first | exact HXa.out.trans (((Below.refl _ wa).drew.trans hb2).mono HXa.out.size) | exact HXa.out.trans (hb2.mono HXa.out.size)); obtain ⟨ds, hdl, hOd, hpush⟩ := RR.app (d := ⟨some ⟨g, 0, none⟩, us.length, c⟩) HRr.out hX2.out hO2 (by have := HXa.out.size; exact this) HKr.out.lt (.cells #[.slice (some ⟨g, 0, none⟩) us.length c] 47); have hOd := Lib.hid hOd; have hpush := Lib.hid hpush; have hdl := Lib.hid hdl)
            try go_wp2_with fail
            refine hK.out _ _ ?r29_hS8 (fun hHeld => ?r29_r8)
            case r29_hS8 => (try dsimp only); first | assumption | exact GaS.keep hBle hbB hdB (by assumption) ((Below.refl _ _).drew) | exact GaS.keep hBle hbB hdB (by assumption) (by assumption) | exact GaS.keep hBle hbB hdB (by assumption) ((Below.refl _ _).alloc (Nat.le_refl _) _) | exact GaS.keepG hBle hbB hdB (by assumption) hG4 hvl.out
            clear hK K
            try simp only [Act.put, List.setIfInBounds_toArray, List.set_cons_zero, List.set_cons_succ]
            refine wpAnyH_ready (rs := [9]) (by kernel_rfl) (by simp) ?_
            refine AllReadyH.cons (by (simp only [List.getElem?_toArray, List.getElem?_cons_succ, List.getElem?_cons_zero]; rfl)) (fun K hK => ?_) AllReadyH.nil
            go_simp
            skip
            try go_wp2_with fail
            refine hK.out _ _ ?r29_hS9 (fun hHeld => ?r29_r9)
            case r29_hS9 => (try dsimp only); first | assumption | exact GaS.keep hBle hbB hdB (by assumption) ((Below.refl _ _).drew) | exact GaS.keep hBle hbB hdB (by assumption) (by assumption) | exact GaS.keep hBle hbB hdB (by assumption) ((Below.refl _ _).alloc (Nat.le_refl _) _) | exact GaS.keepG hBle hbB hdB (by assumption) hG4 hvl.out
            clear hK K
            try simp only [Act.put, List.setIfInBounds_toArray, List.set_cons_zero, List.set_cons_succ]
            refine wpAnyH_ready (rs := [10]) (by kernel_rfl) (by simp) ?_
            refine AllReadyH.cons (by (simp only [List.getElem?_toArray, List.getElem?_cons_succ, List.getElem?_cons_zero]; rfl)) (fun K hK => ?_) AllReadyH.nil
            (refine step_app appCC rfl _ _ rfl (W.heap.size + 1) ds [⟨some ⟨g, 0, none⟩, us.length, c⟩] _ _ rfl rfl hOd.out (bk_sd (Bk.new _ _ _ _ rfl)) (by have h1 := hll.out; have h2 := hdl.out; simp; omega) (by have h1 := hll.out; have h2 := hdl.out; simp; omega) (by have h1 := HKr.out.lt; have h2 := hX2.out.size; simp; omega) ?_; intro v4 w4 hO4 hG4 hat)
            refine hK.out _ _ ?r29_hS10 (fun hHeld => ?r29_r10)
            case r29_hS10 => (try dsimp only); first | assumption | exact GaS.keep hBle hbB hdB (by assumption) ((Below.refl _ _).drew) | exact GaS.keep hBle hbB hdB (by assumption) (by assumption) | exact GaS.keep hBle hbB hdB (by assumption) ((Below.refl _ _).alloc (Nat.le_refl _) _) | exact GaS.keepG hBle hbB hdB (by assumption) hG4 hvl.out
            clear hK K
            try simp only [Act.put, List.setIfInBounds_toArray, List.set_cons_zero, List.set_cons_succ]
            refine wpAnyH_take (i := 11) (v := ?r29_vv11) (by (simp only [List.getElem?_toArray, List.getElem?_cons_succ, List.getElem?_cons_zero]; rfl)) (by kernel_rfl) (by kernel_rfl) (by kernel_rfl) (by exact fun _ _ _ h => h) (Or.inl ⟨by rfl, ?r29_hy11⟩) (by assumption) ?r29_rest11
            case r29_hy11 => intro w hSw; (try dsimp only at hSw); (go_simp <;> (with_reducible rfl))
            try simp only [Act.put, List.setIfInBounds_toArray, List.set_cons_zero, List.set_cons_succ]
            refine wpAnyH_done (by kernel_rfl) ?_ _
            have h9 := Lib.hid (show GaS (W.heap.size + 1) wa W.heap.size wr.heap.size b2 (o2 + k) w h (.slice A sl.length cap) p.x p.y t w4 from by assumption)
            have hR4 := Lib.hid (hpush.out v4 w4 hO4 hG4 hat)
            have hB4 := Lib.hid (HBa.out.trans (h9.out.1.mono (Nat.le_succ _)))
            have hK4 := Lib.hid (show Bk w4 W.heap.size _ _ from HKa.out.keep (Nat.lt_succ_self _) h9.out.1)
            clear hO2 hb2 hS
            repeat clear hHeld
            rw [← hst.out] at hR4
            clear hO4 hG4 hat
            go_wp2_with fail
            go_roundw
            case rel => exact ⟨k + 1, by omega, by go_num, hR4.out, hK4.out, hB4.out⟩
            case measure => first | (simp [intOf]; done) | (simp [intOf]; omega)
          · obtain rfl : k = pts.length := by omega
            have hT := Lib.hid (show (growAllL sl ny pts ways).take pts.length = growAllL sl ny pts ways from List.take_of_length_le (by rw [growAllL_len HLN.out]; exact Nat.le_refl _))
            go_wp2_with fail
            go_ret2
            rw [hR.out, hE.out]
            exact RetRR.mk rfl (by rw [← hT.out]; exact HRr.out.more (by omega)) HBr.out
    · have hE := Lib.hid (show growAll w h sl pts ways years = ([], 2) from by simp [growAll, growAllC, hc, hlen])
      have hbn : ((ways.length : Int) != (pts.length : Int)) = true := by rw [bne_iff_ne]; omega
      rw [hc]
      clear hc hlen hc2 hv hpts hl hway y0 y1
      go_wp2_with fail
      go_ret2
      rw [hR.out, hE.out]
      exact RetRR.mk (v := .slice none 0 0) rfl (RR.nil_ _ _) HB1.out
  · have hE := Lib.hid (show growAll w h sl pts ways years = ([], growC w h sl pts ways years) from by simp [growAll, growAllC, hc])
    have hcb2 : (growC w h sl pts ways years != 0) = true := by simpa using hc
    generalize growC w h sl pts ways years = C at *
    clear hc
    go_wp2_with fail
    go_ret2
    rw [hR.out, hE.out]
    exact RetRR.mk (v := .slice none 0 0) rfl (RR.nil_ _ _) HB1.out
end Go.Proofs.Ytbmkhhhlnollmaa
