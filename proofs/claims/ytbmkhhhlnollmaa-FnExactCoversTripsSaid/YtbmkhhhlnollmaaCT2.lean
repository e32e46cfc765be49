/-
CoversTrips of both programs. Conditions: slices can be read.
-/
import Derived.Test.YtbmkhhhlnollmaaCT1
set_option linter.unusedVariables false
set_option linter.unusedSimpArgs false
set_option maxRecDepth 100000
namespace Go.Proofs.Ytbmkhhhlnollmaa
open Go.RowKit
def covC (w h : Int) (sl : List Slab) (lv : List Int) (limit : Int) (xs : List Int) : Int := tripC w h sl lv (inB limit 0 200 && xs.all (idxB sl.length))
def coversTrips (w h : Int) (sl : List Slab) (lv : List Int) (limit : Int) (xs : List Int) : Bool × Int := if covC w h sl lv limit xs = 0 then (coversB (tripsL lv limit (prsL sl)) xs, 0) else (false, covC w h sl lv limit xs)
theorem coversTrips_ok {w h : Int} {sl : List Slab} {lv : List Int} {limit : Int} {xs : List Int} (hc : covC w h sl lv limit xs = 0) : coversTrips w h sl lv limit xs = (coversB (tripsL lv limit (prsL sl)) xs, 0) := if_pos hc
theorem coversTrips_no {w h : Int} {sl : List Slab} {lv : List Int} {limit : Int} {xs : List Int} (hc : ¬ covC w h sl lv limit xs = 0) : coversTrips w h sl lv limit xs = (false, covC w h sl lv limit xs) := if_neg hc
theorem covC_or (w h : Int) (sl : List Slab) (lv : List Int) (limit : Int) (xs : List Int) : orI (tripC w h sl lv (inB limit 0 200)) (idxC w h sl xs) = covC w h sl lv limit xs := by
  unfold covC tripC
  cases hl : levB w h sl lv
  · simp [orI]
  · obtain ⟨hv, -, -⟩ := levB_ok hl
    unfold idxC
    rw [hv]
    cases inB limit 0 200 <;> cases xs.all (idxB sl.length) <;> simp [orI]
theorem all_step {α : Type} (F : Bool) (p : α → Bool) (xs : List α) (k : Nat) (hk : k < xs.length) : (F && (xs.take (k + 1)).all p) = ((F && (xs.take k).all p) && p xs[k]) := by
  rw [List.take_succ_eq_append_getElem hk, List.all_append]
  simp [Bool.and_assoc]
def RetBI (W : World) (r : Bool × Int) (e : Ending) (w' : World) : Prop := e = .returned (.tuple #[.bool r.1, .int .i64 r.2]) ∧ Below W.heap.size W w'
set_option maxHeartbeats 2000000 in
theorem specCoversTrips_calls (w h : Int) (z : Value) (sl : List Slab) (lv : List Int) (u : Value) (limit : Int) (xs : List Int) (y : Value) (W : World) (hq : SqIn W w h z sl) (ht : Sl W W.heap.size i64c 1 u lv) (hx : Sl W W.heap.size i64c 1 y xs) :
    Calls Try.prog 53 #[sqv w h z, u, .int .i64 limit, y] W (RetBI W (coversTrips w h sl lv limit xs)) := by
  obtain ⟨A, cap, hz, -, -, -⟩ := hq.sl.slab
  subst hz
  obtain ⟨A2, cap2, rfl, -, -, -⟩ := ht.i64
  obtain ⟨A3, cap3, rfl, hl3, hm3, hcell⟩ := hx.i64
  have HQ := Lib.hid hq
  have HT := Lib.hid ht
  have HX := Lib.hid hx
  have HB := Lib.hid ((Below.refl W.heap.size W).alloc (Nat.le_refl _) (.cells #[.int .i8 w, .int .i8 h, .slice A sl.length cap] 34))
  have K0 := Lib.hid (Bk.new W 34 #[.int .i8 w, .int .i8 h, .slice A sl.length cap] W.heap.size rfl)
  have HA := Lib.hid (show Sq.at_ (W.alloc (.cells #[.int .i8 w, .int .i8 h, .slice A sl.length cap] 34)) W.heap.size 0 w h (.slice A sl.length cap) from ⟨K0.out.cell 0 _ rfl, K0.out.cell 1 _ rfl, K0.out.cell 2 _ rfl, K0.out.lt⟩)
  have qa := Lib.hid (fun fine => sAsked_calls W.heap.size 0 w h _ sl lv _ fine _ (hq.ext HB.out) HA.out (ht.ext HB.out))
  have qi := Lib.hid (fun i => sIndex_calls W.heap.size 0 w h _ sl i _ (hq.ext HB.out) HA.out)
  have hst := Lib.hid (show ∀ k (hk : k < xs.length), (inB limit 0 200 && (xs.take (k + 1)).all (idxB sl.length)) = ((inB limit 0 200 && (xs.take k).all (idxB sl.length)) && idxB sl.length xs[k]) from fun k hk => all_step _ _ xs k hk)
  have hfin := Lib.hid (show (inB limit 0 200 && (xs.take xs.length).all (idxB sl.length)) = (inB limit 0 200 && xs.all (idxB sl.length)) from by rw [List.take_length])
  have hst0 := Lib.hid (show (inB limit 0 200 && (xs.take 0).all (idxB sl.length)) = inB limit 0 200 from by simp)
  have qlim := Lib.hid (fun W => sLimit_calls limit W)
  have hcc := Lib.hid (show covC w h sl lv limit xs = tripC w h sl lv (inB limit 0 200 && xs.all (idxB sl.length)) from rfl)
  clear hq ht hx
  generalize inB limit 0 200 = F at *
  unfold sqv
  go_enter Try.func53, Try.ntmps53
  go_wp2_with fail
  have hcW := fun k (hk : k < xs.length) => hcell k hk
  refine (qlim.out _).mono ?_
  rintro e w1 ⟨rfl, rfl⟩
  go_wp2_with fail
  generalize W.alloc (.cells #[.int .i8 w, .int .i8 h, .slice A sl.length cap] 34) = W1 at *
  have HC := Lib.hid hcell
  clear hcell hcW
  go_loop [10, 11] (fun f c => ∃ k : Nat, k ≤ xs.length ∧ c = .int .i64 (k : Int) ∧ f = .bool (F && (xs.take k).all (idxB sl.length))) (fun _ c => xs.length - (intOf c).toNat)
  case atStart => exact ⟨0, by omega, rfl, by rw [hst0.out]⟩
  case round =>
    obtain ⟨k, hk, rfl, rfl⟩ := hrel
    by_cases hlt : k < xs.length
    · obtain ⟨b1, o1, rfl, hbb, c0⟩ := HC.out k hlt
      have c0 := (HB.out.cell (p := ⟨b1, _, none⟩) hbb).trans c0
      have hs1 := Lib.hid (hst.out k hlt)
      have qk := Lib.hid (qi.out xs[k])
      generalize xs[k] = x at *
      generalize idxB sl.length x = E at *
      generalize (F && (xs.take k).all (idxB sl.length)) = D at *
      cases D
      · have hs2 := Lib.hid (hs1.out.trans (Bool.false_and _))
        go_wp2_with fail
        go_round
        case rel => exact ⟨k + 1, by omega, by go_num, by rw [hs2.out]⟩
        case measure => first | (simp [intOf]; done) | (simp [intOf]; omega)
      · have hs2 := Lib.hid (hs1.out.trans (Bool.true_and _))
        go_wp2_with fail
        refine qk.out.mono ?_
        rintro e w2 ⟨rfl, rfl⟩
        go_wp2_with fail
        go_round
        case rel => exact ⟨k + 1, by omega, by go_num, by rw [hs2.out]⟩
        case measure => first | (simp [intOf]; done) | (simp [intOf]; omega)
    · obtain rfl : k = xs.length := by omega
      rw [hfin.out]
      have qa2 := Lib.hid (qa.out (F && xs.all (idxB sl.length)))
      rw [← hcc.out] at qa2
      generalize (F && xs.all (idxB sl.length)) = D at *
      by_cases hc : covC w h sl lv limit xs = 0
      · have hE := Lib.hid (coversTrips_ok hc)
        obtain ⟨hlb, -⟩ := tripC_ok hc
        obtain ⟨hv, hll, hsm⟩ := levB_ok hlb
        rw [hc] at qa2
        have HV := Lib.hid (And.intro hv (And.intro hsm hll))
        clear hc hv hll hsm hlb
        go_wp2_with fail
        refine qa2.out.mono ?_
        rintro e w2 ⟨rfl, hb2⟩
        have HB2 := Lib.hid (ext_trans HB.out hb2)
        have qt := Lib.hid (sTrips_calls W.heap.size 0 w h _ sl lv _ limit HV.out.1 HV.out.2.1 HV.out.2.2 w2 (HQ.out.ext HB2.out) (HA.out.ext hb2) (HT.out.ext HB2.out))
        clear hb2
        go_wp2_with fail
        refine qt.out.mono ?_
        rintro e w3 ⟨v3, rfl, hO3, hb3⟩
        have HB3 := Lib.hid (ext_trans HB2.out hb3)
        have qc := Lib.hid (sCovers_calls _ v3 xs _ w3 (hO3.sl Pair.c_len) (HX.out.ext HB3.out))
        clear hO3 hb3
        go_wp2_with fail
        refine qc.out.mono ?_
        rintro e w4 ⟨rfl, rfl⟩
        go_wp2_with fail
        go_ret2
        rw [hE.out]
        exact ⟨rfl, HB3.out⟩
      · have hE := Lib.hid (coversTrips_no hc)
        have hcb : (covC w h sl lv limit xs == 0) = false := by simpa using hc
        have hcb2 : (covC w h sl lv limit xs != 0) = true := by simpa using hc
        generalize covC w h sl lv limit xs = C at *
        clear hc
        go_wp2_with fail
        refine qa2.out.mono ?_
        rintro e w2 ⟨rfl, hb2⟩
        have HB2 := Lib.hid (ext_trans HB.out hb2)
        clear hb2
        go_wp2_with fail
        go_ret2
        rw [hE.out]
        exact ⟨rfl, HB2.out⟩
abbrev CvS (W0 : World) (b : Nat) (w h : Int) (z : Value) (w' : World) : Prop :=
  Below W0.heap.size W0 w' ∧ w'.cell? ⟨b, 0, none⟩ = some (.int .i8 w) ∧ w'.cell? ⟨b, 1, none⟩ = some (.int .i8 h) ∧ w'.cell? ⟨b, 2, none⟩ = some z
theorem CvS.keep {W0 w1 w2 : World} {b : Nat} {w h : Int} {z : Value} (hb : b < W0.heap.size) (hS : CvS W0 b w h z w1) (k : Below w1.heap.size w1 w2) : CvS W0 b w h z w2 := by
  obtain ⟨h0, h1, h2, h3⟩ := hS
  have q : ∀ o, w2.cell? ⟨b, o, none⟩ = w1.cell? ⟨b, o, none⟩ := fun o => k.cell (p := ⟨b, o, none⟩) (Nat.lt_of_lt_of_le hb h0.size)
  exact ⟨ext_trans h0 k, (q _).trans h1, (q _).trans h2, (q _).trans h3⟩
set_option maxHeartbeats 2000000 in
theorem implCoversTrips_calls (w h : Int) (z : Value) (sl : List Slab) (lv : List Int) (u : Value) (limit : Int) (xs : List Int) (y : Value) (W : World) (hq : SqIn W w h z sl) (ht : Sl W W.heap.size i64c 1 u lv) (hx : Sl W W.heap.size i64c 1 y xs) :
    Calls Try.prog 54 #[sqv w h z, u, .int .i64 limit, y] W (RetBI W (coversTrips w h sl lv limit xs)) := by
  obtain ⟨A, cap, hz, -, -, -⟩ := hq.sl.slab
  subst hz
  obtain ⟨A2, cap2, rfl, -, -, -⟩ := ht.i64
  obtain ⟨A3, cap3, rfl, -, -, -⟩ := hx.i64
  have HQ := Lib.hid hq
  have HT := Lib.hid ht
  have HX := Lib.hid hx
  have HB := Lib.hid ((Below.refl W.heap.size W).alloc (Nat.le_refl _) (.cells #[.int .i8 w, .int .i8 h, .slice A sl.length cap] 34))
  have K0 := Lib.hid (Bk.new W 34 #[.int .i8 w, .int .i8 h, .slice A sl.length cap] W.heap.size rfl)
  have qa := Lib.hid (show ∀ W', SqIn W' w h (.slice A sl.length cap) sl → Sl W' W'.heap.size i64c 1 (.slice A2 lv.length cap2) lv → Calls Try.prog 87 #[.agg #[.int .i8 w, .int .i8 h, .slice A sl.length cap], .slice A2 lv.length cap2, .int .i64 limit] W' (fun e w' => e = .returned (.int .i64 (tripC w h sl lv (inB limit 0 200))) ∧ Below W'.heap.size W' w') from fun W' h1 h2 => tripCode_calls w h _ sl lv _ limit W' h1 h2)
  have qi := Lib.hid (show ∀ W', SqIn W' w h (.slice A sl.length cap) sl → Sl W' W'.heap.size i64c 1 (.slice A3 xs.length cap3) xs → Calls Try.prog 101 #[.agg #[.int .i8 w, .int .i8 h, .slice A sl.length cap], .slice A3 xs.length cap3] W' (fun e w' => e = .returned (.int .i64 (idxC w h sl xs)) ∧ Below W'.heap.size W' w') from fun W' h1 h2 => indexCode_calls w h _ sl xs _ W' h1 h2)
  have hor := Lib.hid (covC_or w h sl lv limit xs)
  have HQ1 := Lib.hid (hq.ext HB.out)
  have HT1 := Lib.hid (ht.ext HB.out)
  have HX1 := Lib.hid (hx.ext HB.out)
  clear hq ht hx
  generalize tripC w h sl lv (inB limit 0 200) = n at *
  generalize idxC w h sl xs = m at *
  unfold sqv
  go_enter Try.func54, Try.ntmps54
  go_wp2_with fail
  have hlt := K0.out.lt
  generalize W.alloc (.cells #[.int .i8 w, .int .i8 h, .slice A sl.length cap] 34) = W1 at *
  have hS : CvS W1 W.heap.size w h (.slice A sl.length cap) W1 := ⟨Below.refl _ _, K0.out.cell 0 _ rfl, K0.out.cell 1 _ rfl, K0.out.cell 2 _ rfl⟩
  refine wp_region_held_drew (S := (CvS W1 W.heap.size w h (.slice A sl.length cap))) (by kernel_rfl) ?r22_hS0 (fun hHeld => ?r22_rest)
  case r22_hS0 => (try dsimp only); first | assumption | exact CvS.keep hlt (by assumption) ((Below.refl _ _).drew) | exact CvS.keep hlt (by assumption) (by assumption) | exact CvS.keep hlt (by assumption) ((Below.refl _ _).alloc (Nat.le_refl _) _)
  refine wpAnyH_take (i := 0) (v := ?r22_vv0) (by (simp only [List.getElem?_toArray, List.getElem?_cons_succ, List.getElem?_cons_zero]; rfl)) (by kernel_rfl) (by kernel_rfl) (by kernel_rfl) (by exact fun _ _ _ h => h) (Or.inl ⟨by rfl, ?r22_hy0⟩) (by assumption) ?r22_rest0
  case r22_hy0 => intro w hSw; (try dsimp only at hSw); (go_simp <;> (with_reducible rfl))
  try simp only [Act.put, List.setIfInBounds_toArray, List.set_cons_zero, List.set_cons_succ]
  refine wpAnyH_take (i := 1) (v := ?r22_vv1) (by (simp only [List.getElem?_toArray, List.getElem?_cons_succ, List.getElem?_cons_zero]; rfl)) (by kernel_rfl) (by kernel_rfl) (by kernel_rfl) (by exact fun _ _ _ h => h) (Or.inl ⟨by rfl, ?r22_hy1⟩) (by assumption) ?r22_rest1
  case r22_hy1 => intro w hSw; (try dsimp only at hSw); (go_simp <;> (with_reducible rfl))
  try simp only [Act.put, List.setIfInBounds_toArray, List.set_cons_zero, List.set_cons_succ]
  refine wpAnyH_take (i := 2) (v := ?r22_vv2) (by (simp only [List.getElem?_toArray, List.getElem?_cons_succ, List.getElem?_cons_zero]; rfl)) (by kernel_rfl) (by kernel_rfl) (by kernel_rfl) (by exact fun _ _ _ h => h) (Or.inl ⟨by rfl, ?r22_hy2⟩) (by assumption) ?r22_rest2
  case r22_hy2 => intro w hSw; (try dsimp only at hSw); (go_simp <;> (with_reducible rfl))
  try simp only [Act.put, List.setIfInBounds_toArray, List.set_cons_zero, List.set_cons_succ]
  refine wpAnyH_take (i := 4) (v := ?r22_vv4) (by (simp only [List.getElem?_toArray, List.getElem?_cons_succ, List.getElem?_cons_zero]; rfl)) (by kernel_rfl) (by kernel_rfl) (by kernel_rfl) (by exact fun _ _ _ h => h) (Or.inl ⟨by rfl, ?r22_hy4⟩) (by assumption) ?r22_rest4
  case r22_hy4 => intro w hSw; (try dsimp only at hSw); (go_simp <;> (with_reducible rfl))
  try simp only [Act.put, List.setIfInBounds_toArray, List.set_cons_zero, List.set_cons_succ]
  refine wpAnyH_take (i := 5) (v := ?r22_vv5) (by (simp only [List.getElem?_toArray, List.getElem?_cons_succ, List.getElem?_cons_zero]; rfl)) (by kernel_rfl) (by kernel_rfl) (by kernel_rfl) (by exact fun _ _ _ h => h) (Or.inl ⟨by rfl, ?r22_hy5⟩) (by assumption) ?r22_rest5
  case r22_hy5 => intro w hSw; (try dsimp only at hSw); (go_simp <;> (with_reducible rfl))
  try simp only [Act.put, List.setIfInBounds_toArray, List.set_cons_zero, List.set_cons_succ]
  refine wpAnyH_ready (rs := [3]) (by kernel_rfl) (by simp) ?_
  refine AllReadyH.cons (by (simp only [List.getElem?_toArray, List.getElem?_cons_succ, List.getElem?_cons_zero]; rfl)) (fun K hK => ?_) AllReadyH.nil
  go_simp
  (go_at_call 87; with_reducible refine (qa.out _ (HQ1.out.ext (And.left (b := _) (by assumption))) (HT1.out.ext (And.left (b := _) (by assumption)))).mono ?_; rintro e w10 ⟨rfl, hb10⟩)
  try go_wp2_with fail
  refine hK.out _ _ ?r22_hS3 (fun hHeld => ?r22_r3)
  case r22_hS3 => (try dsimp only); first | assumption | exact CvS.keep hlt (by assumption) ((Below.refl _ _).drew) | exact CvS.keep hlt (by assumption) (by assumption) | exact CvS.keep hlt (by assumption) ((Below.refl _ _).alloc (Nat.le_refl _) _)
  clear hK K
  try simp only [Act.put, List.setIfInBounds_toArray, List.set_cons_zero, List.set_cons_succ]
  refine wpAnyH_ready (rs := [6]) (by kernel_rfl) (by simp) ?_
  refine AllReadyH.cons (by (simp only [List.getElem?_toArray, List.getElem?_cons_succ, List.getElem?_cons_zero]; rfl)) (fun K hK => ?_) AllReadyH.nil
  go_simp
  (go_at_call 101; with_reducible refine (qi.out _ (HQ1.out.ext (And.left (b := _) (by assumption))) (HX1.out.ext (And.left (b := _) (by assumption)))).mono ?_; rintro e w11 ⟨rfl, hb11⟩)
  try go_wp2_with fail
  refine hK.out _ _ ?r22_hS6 (fun hHeld => ?r22_r6)
  case r22_hS6 => (try dsimp only); first | assumption | exact CvS.keep hlt (by assumption) ((Below.refl _ _).drew) | exact CvS.keep hlt (by assumption) (by assumption) | exact CvS.keep hlt (by assumption) ((Below.refl _ _).alloc (Nat.le_refl _) _)
  clear hK K
  try simp only [Act.put, List.setIfInBounds_toArray, List.set_cons_zero, List.set_cons_succ]
  refine wpAnyH_ready (rs := [7]) (by kernel_rfl) (by simp) ?_
  refine AllReadyH.cons (by (simp only [List.getElem?_toArray, List.getElem?_cons_succ, List.getElem?_cons_zero]; rfl)) (fun K hK => ?_) AllReadyH.nil
  go_simp
  skip
  try go_wp2_with fail
  refine hK.out _ _ ?r22_hS7 (fun hHeld => ?r22_r7)
  case r22_hS7 => (try dsimp only); first | assumption | exact CvS.keep hlt (by assumption) ((Below.refl _ _).drew) | exact CvS.keep hlt (by assumption) (by assumption) | exact CvS.keep hlt (by assumption) ((Below.refl _ _).alloc (Nat.le_refl _) _)
  clear hK K
  try simp only [Act.put, List.setIfInBounds_toArray, List.set_cons_zero, List.set_cons_succ]
  refine wpAnyH_ready (rs := [8]) (by kernel_rfl) (by simp) ?_
  refine AllReadyH.cons (by (simp only [List.getElem?_toArray, List.getElem?_cons_succ, List.getElem?_cons_zero]; rfl)) (fun K hK => ?_) AllReadyH.nil
  go_simp
  (go_at_call 100; refine (firstOf2_calls n m _ _ (by repeat (first | exact sl2i _ n m _ rfl _ | refine Sl.ext ?_ ((Below.refl _ _).drew)))).mono ?_; rintro e w12 ⟨rfl, rfl⟩)
  try go_wp2_with fail
  refine hK.out _ _ ?r22_hS8 (fun hHeld => ?r22_r8)
  case r22_hS8 => (try dsimp only); first | assumption | exact CvS.keep hlt (by assumption) ((Below.refl _ _).drew) | exact CvS.keep hlt (by assumption) (by assumption) | exact CvS.keep hlt (by assumption) ((Below.refl _ _).alloc (Nat.le_refl _) _)
  clear hK K
  try simp only [Act.put, List.setIfInBounds_toArray, List.set_cons_zero, List.set_cons_succ]
  refine wpAnyH_take (i := 9) (v := ?r22_vv9) (by (simp only [List.getElem?_toArray, List.getElem?_cons_succ, List.getElem?_cons_zero]; rfl)) (by kernel_rfl) (by kernel_rfl) (by kernel_rfl) (by exact fun _ _ _ h => h) (Or.inl ⟨by rfl, ?r22_hy9⟩) (by assumption) ?r22_rest9
  case r22_hy9 => intro w hSw; (try dsimp only at hSw); (go_simp <;> (with_reducible rfl))
  try simp only [Act.put, List.setIfInBounds_toArray, List.set_cons_zero, List.set_cons_succ]
  refine wpAnyH_done (by kernel_rfl) ?_ _
  have h9 := Lib.hid (show CvS W1 W.heap.size w h (.slice A sl.length cap) (w11.alloc (.cells #[.int .i64 n, .int .i64 m] 2)) from by assumption)
  have HB2 := Lib.hid (ext_trans HB.out h9.out.1)
  have K02 := Lib.hid h9.out.2
  clear h9 hS hb10 hb11
  repeat clear hHeld
  rw [hor.out]
  by_cases hc : covC w h sl lv limit xs = 0
  · have hE := Lib.hid (coversTrips_ok hc)
    obtain ⟨hlb, -⟩ := tripC_ok hc
    obtain ⟨hv, hll, hsm⟩ := levB_ok hlb
    have hpl := Lib.hid (prsL_len60 (sqOk_len hv))
    have HIX := Lib.hid (prsL_idx hll)
    have HV := Lib.hid (And.intro (sqOk_small hv) (And.intro hsm (sqOk_len hv)))
    rw [hc]
    clear hc hv hll hsm hlb hor
    obtain ⟨k0, k1, k2⟩ := K02.out
    generalize hps : prsL sl = ps at *
    go_wp2_with fail
    refine (show Calls Try.prog 89 #[.agg #[.int .i8 w, .int .i8 h, .slice A sl.length cap]] _ (RetRow _ 120 Pair.c 2 ps) from hps ▸ pairs_calls w h _ sl HV.out.1 HV.out.2.2 _ (HQ.out.ext HB2.out)).mono ?_
    rintro e w2 ⟨v2, rfl, hO2, hb2⟩
    have HB3 := Lib.hid (ext_trans HB2.out hb2)
    have qt := Lib.hid (trips_calls ps v2 lv _ limit w2 (hO2.sl Pair.c_len) (by have := hpl.out; omega) (HT.out.ext HB3.out) HIX.out HV.out.2.1)
    clear hO2 hb2 k0 k1 k2 hps
    go_wp2_with fail
    refine qt.out.mono ?_
    rintro e w3 ⟨v3, rfl, hO3, hb3⟩
    have HB4 := Lib.hid (ext_trans HB3.out hb3)
    have qc := Lib.hid (coversAll_calls _ v3 xs _ w3 (hO3.sl Pair.c_len) (HX.out.ext HB4.out))
    clear hO3 hb3
    go_wp2_with fail
    refine qc.out.mono ?_
    rintro e w4 ⟨rfl, hb4⟩
    have HB5 := Lib.hid (ext_trans HB4.out hb4)
    clear hb4
    go_wp2_with fail
    go_ret2
    rw [hE.out]
    exact ⟨rfl, HB5.out⟩
  · have hE := Lib.hid (coversTrips_no hc)
    have hcb : (covC w h sl lv limit xs == 0) = false := by simpa using hc
    have hcb2 : (covC w h sl lv limit xs != 0) = true := by simpa using hc
    generalize covC w h sl lv limit xs = C at *
    clear hc
    go_wp2_with fail
    go_ret2
    rw [hE.out]
    exact ⟨rfl, HB2.out⟩
end Go.Proofs.Ytbmkhhhlnollmaa
