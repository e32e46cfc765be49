/-
What makes a crack: neighbours with a joint between them. Of both programs. Conditions: numbers are of their kinds; slices can be read.
-/
import Derived.Test.YtbmkhhhlnollmaaGR4
set_option linter.unusedVariables false
set_option linter.unusedSimpArgs false
set_option maxRecDepth 100000
namespace Go.Proofs.Ytbmkhhhlnollmaa
open Go.RowKit
theorem sides_far (sl : List Slab) (a b : Cell) (h0 : aheadC a 0 ≠ b) (h1 : aheadC a 1 ≠ b) (h2 : aheadC a 2 ≠ b) (h3 : aheadC a 3 ≠ b) : (sidesAt sl a b).2.2 = false := by
  obtain ⟨ax, ay⟩ := a
  obtain ⟨bx, bY⟩ := b
  simp [aheadC] at h0 h1 h2 h3
  unfold sidesAt sides2
  repeat' split
  all_goals first | rfl | (exfalso; simp only at *; omega)
def crkN (sl : List Slab) (xs : List Cell) (n : Nat) : Bool := (List.range n).all fun i => (sidesAt sl (xs.getD i ⟨0, 0⟩) (xs.getD (i + 1) ⟨0, 0⟩)).2.2
def crkB (sl : List Slab) (xs : List Cell) : Bool := crkN sl xs (xs.length - 1)
theorem crkN_succ (sl : List Slab) (xs : List Cell) (n : Nat) (hn : n + 1 < xs.length) : crkN sl xs (n + 1) = (crkN sl xs n && (sidesAt sl xs[n] xs[n + 1]).2.2) := by
  unfold crkN
  rw [List.range_succ, List.all_append]
  simp [List.getD_eq_getElem?_getD, hn, show n < xs.length by omega]
theorem crkN_false (sl : List Slab) (xs : List Cell) (n m : Nat) (hnm : n ≤ m) (h : crkN sl xs n = false) : crkN sl xs m = false := by
  unfold crkN at *
  rw [List.all_eq_false] at *
  obtain ⟨i, hi, hx⟩ := h
  exact ⟨i, List.mem_range.2 (Nat.lt_of_lt_of_le (List.mem_range.1 hi) hnm), hx⟩
abbrev CkS (W0 : World) (b i j : Nat) (p q : Cell) (w' : World) : Prop :=
  Below W0.heap.size W0 w' ∧ w'.cell? ⟨b, i, none⟩ = some (.int .i8 p.x) ∧ w'.cell? ⟨b, i + 1, none⟩ = some (.int .i8 p.y) ∧ w'.cell? ⟨b, j, none⟩ = some (.int .i8 q.x) ∧ w'.cell? ⟨b, j + 1, none⟩ = some (.int .i8 q.y)
theorem CkS.keep {W0 w1 w2 : World} {b i j : Nat} {p q : Cell} (hb : b < W0.heap.size) (hS : CkS W0 b i j p q w1) (k : Below w1.heap.size w1 w2) : CkS W0 b i j p q w2 := by
  obtain ⟨h0, h1, h2, h3, h4⟩ := hS
  have r : ∀ o, w2.cell? ⟨b, o, none⟩ = w1.cell? ⟨b, o, none⟩ := fun o => k.cell (p := ⟨b, o, none⟩) (Nat.lt_of_lt_of_le hb h0.size)
  exact ⟨ext_trans h0 k, (r _).trans h1, (r _).trans h2, (r _).trans h3, (r _).trans h4⟩
abbrev CqS (W0 : World) (b i j : Nat) (p q : Cell) (d : Nat) (w h : Int) (z : Value) (w' : World) : Prop :=
  CkS W0 b i j p q w' ∧ w'.cell? ⟨d, 0, none⟩ = some (.int .i8 w) ∧ w'.cell? ⟨d, 1, none⟩ = some (.int .i8 h) ∧ w'.cell? ⟨d, 2, none⟩ = some z
theorem CqS.keep {W0 w1 w2 : World} {b i j d : Nat} {p q : Cell} {w h : Int} {z : Value} (hb : b < W0.heap.size) (hd : d < W0.heap.size) (hS : CqS W0 b i j p q d w h z w1) (k : Below w1.heap.size w1 w2) : CqS W0 b i j p q d w h z w2 := by
  obtain ⟨h0, h1, h2, h3⟩ := hS
  have r : ∀ o, w2.cell? ⟨d, o, none⟩ = w1.cell? ⟨d, o, none⟩ := fun o => k.cell (p := ⟨d, o, none⟩) (Nat.lt_of_lt_of_le hd h0.1.size)
  exact ⟨h0.keep hb k, (r _).trans h1, (r _).trans h2, (r _).trans h3⟩
set_option maxHeartbeats 1000000 in
theorem isCrack_calls (w h : Int) (z : Value) (sl : List Slab) (xs : List Cell) (hx : ∀ x ∈ xs, x.ok) (v : Value) (W : World) (hq : SqIn W w h z sl) (hs : Sl W W.heap.size Cell.c 2 v xs) :
    Calls Try.prog 68 #[sqv w h z, v] W fun e w' => e = .returned (.bool (crkB sl xs)) ∧ Below W.heap.size W w' := by
  obtain ⟨A, cap, hz, -, -, -⟩ := hq.sl.slab
  subst hz
  have hB := (Below.refl W.heap.size W).alloc (Nat.le_refl _) (.cells #[.int .i8 w, .int .i8 h, .slice A sl.length cap] 34)
  have HB := Lib.hid hB
  have HQ := Lib.hid (hq.ext hB)
  have K := Lib.hid (Bk.new W 34 #[.int .i8 w, .int .i8 h, .slice A sl.length cap] W.heap.size rfl)
  obtain ⟨A2, cap2, rfl, hl2, hm2, hcell⟩ := (hs.ext hB).cell
  have HX := Lib.hid hx
  clear hB hs hq hx
  unfold sqv
  go_enter Try.func68, Try.ntmps68
  go_wp2_with fail
  generalize W.alloc (.cells #[.int .i8 w, .int .i8 h, .slice A sl.length cap] 34) = W1 at *
  go_loopw [5] (fun i wr => ∃ k : Nat, k ≤ xs.length - 1 ∧ i = .int .i64 ((k : Int) + 1) ∧ crkN sl xs k = true ∧ Below W1.heap.size W1 wr) (fun i _ => xs.length - (intOf i).toNat)
  case atStart => exact ⟨0, by omega, rfl, rfl, Below.refl _ _⟩
  case round =>
    obtain ⟨k, hk, rfl, hall, hb⟩ := hrel
    obtain ⟨wo, rfl⟩ : ∃ wo : World, wo = wr := ⟨_, rfl⟩
    have HA := Lib.hid hall
    have HBo := Lib.hid (HB.out.trans (hb.mono HB.out.size))
    have H1 := Lib.hid hb
    have kk := K.out.ext hb
    clear hall
    by_cases hlt : k + 1 < xs.length
    · obtain ⟨b, o, rfl, hbb, h0, h1⟩ := hcell k (by omega)
      obtain ⟨b2, o2, he, hbb2, g0, g1⟩ := hcell (k + 1) hlt
      obtain ⟨rfl, rfl⟩ : b = b2 ∧ o = o2 := by injection he with he; injection he with e1 e2; exact ⟨e1, e2⟩
      have h0 := (hb.cell (p := ⟨b, _, none⟩) hbb).trans h0
      have h1 := (hb.cell (p := ⟨b, _, none⟩) hbb).trans h1
      have g0 := (hb.cell (p := ⟨b, _, none⟩) hbb).trans g0
      have g1 := (hb.cell (p := ⟨b, _, none⟩) hbb).trans g1
      have hk8 : (0 : Int) ≤ (k : Int) := by omega
      have wk := wrapIn (k : Int) (by omega) (by omega)
      have hk9 : (k : Int) < (xs.length : Int) := by omega
      have hk10 : (0 : Int) ≤ (k : Int) + 1 := by omega
      have hk11 : (k : Int) + 1 < (xs.length : Int) := by omega
      have hbo := Lib.hid (Nat.lt_of_lt_of_le hbb hb.size)
      have hd1 := kk.lt
      have hst := Lib.hid (crkN_succ sl xs k hlt)
      have HQo := Lib.hid (HQ.out.ext hb)
      have qj := Lib.hid (show ∀ W', Below wo.heap.size wo W' → Calls Try.prog 116 #[.agg #[.int .i8 w, .int .i8 h, .slice A sl.length cap], .agg #[.int .i8 xs[k].x, .int .i8 xs[k].y], .agg #[.int .i8 xs[k + 1].x, .int .i8 xs[k + 1].y]] W' (fun e w' => e = .returned (.bool (sidesAt sl xs[k] xs[k + 1]).2.2) ∧ Below W'.heap.size W' w') from fun W' hW' => isJoint_calls w h _ sl xs[k] xs[k + 1] (HX.out _ (List.getElem_mem _)) (HX.out _ (List.getElem_mem _)) W' (HQo.out.ext hW'))
      generalize xs[k] = p at *
      generalize xs[k + 1] = q at *
      have hS : CqS wo b (o + k * 2) (o + (k + 1) * 2) p q W.heap.size w h (.slice A sl.length cap) wo := ⟨⟨Below.refl _ _, h0, h1, g0, g1⟩, kk.cell 0 _ rfl, kk.cell 1 _ rfl, kk.cell 2 _ rfl⟩
      have hbo2 := hbo.out
      clear hcell hb h0 h1 g0 g1 kk he hbb hbb2
      generalize (sidesAt sl p q).2.2 = E at *
      cases E
      · have hE := Lib.hid (show crkB sl xs = false from crkN_false sl xs (k + 1) _ (by omega) (by rw [hst.out]; simp))
        clear hst
        go_wp2_with fail
        refine wp_region_held_drew (S := (CqS wo b (o + k * 2) (o + (k + 1) * 2) p q W.heap.size w h (.slice A sl.length cap))) (by kernel_rfl) ?r32_hS0 (fun hHeld => ?r32_rest)
        case r32_hS0 => (try dsimp only); first | assumption | exact CqS.keep hbo2 hd1 (by assumption) ((Below.refl _ _).drew) | exact CqS.keep hbo2 hd1 (by assumption) (by assumption)
        refine wpAnyH_take (i := 0) (v := ?r32_vv0) (by (simp only [List.getElem?_toArray, List.getElem?_cons_succ, List.getElem?_cons_zero]; rfl)) (by kernel_rfl) (by kernel_rfl) (by kernel_rfl) (by exact fun _ _ _ h => h) (Or.inl ⟨by rfl, ?r32_hy0⟩) (by assumption) ?r32_rest0
        case r32_hy0 => intro w hSw; (try dsimp only at hSw); (go_simp <;> (with_reducible rfl))
        try simp only [Act.put, List.setIfInBounds_toArray, List.set_cons_zero, List.set_cons_succ]
        refine wpAnyH_take (i := 1) (v := ?r32_vv1) (by (simp only [List.getElem?_toArray, List.getElem?_cons_succ, List.getElem?_cons_zero]; rfl)) (by kernel_rfl) (by kernel_rfl) (by kernel_rfl) (by exact fun _ _ _ h => h) (Or.inl ⟨by rfl, ?r32_hy1⟩) (by assumption) ?r32_rest1
        case r32_hy1 => intro w hSw; (try dsimp only at hSw); (go_simp <;> (with_reducible rfl))
        try simp only [Act.put, List.setIfInBounds_toArray, List.set_cons_zero, List.set_cons_succ]
        refine wpAnyH_take (i := 2) (v := ?r32_vv2) (by (simp only [List.getElem?_toArray, List.getElem?_cons_succ, List.getElem?_cons_zero]; rfl)) (by kernel_rfl) (by kernel_rfl) (by kernel_rfl) (by exact fun _ _ _ h => h) (Or.inl ⟨by rfl, ?r32_hy2⟩) (by assumption) ?r32_rest2
        case r32_hy2 => intro w hSw; (try dsimp only at hSw); (go_simp <;> (with_reducible rfl))
        try simp only [Act.put, List.setIfInBounds_toArray, List.set_cons_zero, List.set_cons_succ]
        refine wpAnyH_take (i := 3) (v := ?r32_vv3) (by (simp only [List.getElem?_toArray, List.getElem?_cons_succ, List.getElem?_cons_zero]; rfl)) (by kernel_rfl) (by kernel_rfl) (by kernel_rfl) (by exact fun _ _ _ h => h) (Or.inl ⟨by rfl, ?r32_hy3⟩) (by assumption) ?r32_rest3
        case r32_hy3 => intro w hSw; (try dsimp only at hSw); (go_simp <;> (with_reducible rfl))
        try simp only [Act.put, List.setIfInBounds_toArray, List.set_cons_zero, List.set_cons_succ]
        refine wpAnyH_take (i := 4) (v := ?r32_vv4) (by (simp only [List.getElem?_toArray, List.getElem?_cons_succ, List.getElem?_cons_zero]; rfl)) (by kernel_rfl) (by kernel_rfl) (by kernel_rfl) (by exact fun _ _ _ h => h) (Or.inl ⟨by rfl, ?r32_hy4⟩) (by assumption) ?r32_rest4
        case r32_hy4 => intro w hSw; (try dsimp only at hSw); (go_simp <;> (with_reducible rfl))
        try simp only [Act.put, List.setIfInBounds_toArray, List.set_cons_zero, List.set_cons_succ]
        refine wpAnyH_take (i := 5) (v := ?r32_vv5) (by (simp only [List.getElem?_toArray, List.getElem?_cons_succ, List.getElem?_cons_zero]; rfl)) (by kernel_rfl) (by kernel_rfl) (by kernel_rfl) (by exact fun _ _ _ h => h) (Or.inl ⟨by rfl, ?r32_hy5⟩) (by assumption) ?r32_rest5
        case r32_hy5 => intro w hSw; (try dsimp only at hSw); (go_simp <;> (with_reducible rfl))
        try simp only [Act.put, List.setIfInBounds_toArray, List.set_cons_zero, List.set_cons_succ]
        refine wpAnyH_take (i := 6) (v := ?r32_vv6) (by (simp only [List.getElem?_toArray, List.getElem?_cons_succ, List.getElem?_cons_zero]; rfl)) (by kernel_rfl) (by kernel_rfl) (by kernel_rfl) (by exact fun _ _ _ h => h) (Or.inl ⟨by rfl, ?r32_hy6⟩) (by assumption) ?r32_rest6
        case r32_hy6 => intro w hSw; (try dsimp only at hSw); (go_simp <;> (with_reducible rfl))
        try simp only [Act.put, List.setIfInBounds_toArray, List.set_cons_zero, List.set_cons_succ]
        refine wpAnyH_take (i := 7) (v := ?r32_vv7) (by (simp only [List.getElem?_toArray, List.getElem?_cons_succ, List.getElem?_cons_zero]; rfl)) (by kernel_rfl) (by kernel_rfl) (by kernel_rfl) (by exact fun _ _ _ h => h) (Or.inl ⟨by rfl, ?r32_hy7⟩) (by assumption) ?r32_rest7
        case r32_hy7 => intro w hSw; (try dsimp only at hSw); (go_simp <;> (with_reducible rfl))
        try simp only [Act.put, List.setIfInBounds_toArray, List.set_cons_zero, List.set_cons_succ]
        refine wpAnyH_take (i := 8) (v := ?r32_vv8) (by (simp only [List.getElem?_toArray, List.getElem?_cons_succ, List.getElem?_cons_zero]; rfl)) (by kernel_rfl) (by kernel_rfl) (by kernel_rfl) (by exact fun _ _ _ h => h) (Or.inl ⟨by rfl, ?r32_hy8⟩) (by assumption) ?r32_rest8
        case r32_hy8 => intro w hSw; (try dsimp only at hSw); (go_simp <;> (with_reducible rfl))
        try simp only [Act.put, List.setIfInBounds_toArray, List.set_cons_zero, List.set_cons_succ]
        refine wpAnyH_take (i := 9) (v := ?r32_vv9) (by (simp only [List.getElem?_toArray, List.getElem?_cons_succ, List.getElem?_cons_zero]; rfl)) (by kernel_rfl) (by kernel_rfl) (by kernel_rfl) (by exact fun _ _ _ h => h) (Or.inl ⟨by rfl, ?r32_hy9⟩) (by assumption) ?r32_rest9
        case r32_hy9 => intro w hSw; (try dsimp only at hSw); (go_simp <;> (with_reducible rfl))
        try simp only [Act.put, List.setIfInBounds_toArray, List.set_cons_zero, List.set_cons_succ]
        refine wpAnyH_ready (rs := [10]) (by kernel_rfl) (by simp) ?_
        refine AllReadyH.cons (by (simp only [List.getElem?_toArray, List.getElem?_cons_succ, List.getElem?_cons_zero]; rfl)) (fun K hK => ?_) AllReadyH.nil
        go_simp
        (go_at_call 116; with_reducible refine (qj.out _ (And.left (b := _) (And.left (b := _) (by assumption)))).mono ?_; rintro e w9 ⟨rfl, hb9⟩)
        try go_wp2_with fail
        refine hK.out _ _ ?r32_hS10 (fun hHeld => ?r32_r10)
        case r32_hS10 => (try dsimp only); first | assumption | exact CqS.keep hbo2 hd1 (by assumption) ((Below.refl _ _).drew) | exact CqS.keep hbo2 hd1 (by assumption) (by assumption)
        clear hK K
        try simp only [Act.put, List.setIfInBounds_toArray, List.set_cons_zero, List.set_cons_succ]
        refine wpAnyH_take (i := 11) (v := ?r32_vv11) (by (simp only [List.getElem?_toArray, List.getElem?_cons_succ, List.getElem?_cons_zero]; rfl)) (by kernel_rfl) (by kernel_rfl) (by kernel_rfl) (by exact fun _ _ _ h => h) (Or.inl ⟨by rfl, ?r32_hy11⟩) (by assumption) ?r32_rest11
        case r32_hy11 => intro w hSw; (try dsimp only at hSw); (go_simp <;> (with_reducible rfl))
        try simp only [Act.put, List.setIfInBounds_toArray, List.set_cons_zero, List.set_cons_succ]
        refine wpAnyH_done (by kernel_rfl) ?_ _
        have HB9 := Lib.hid (show Below wo.heap.size wo _ from And.left (b := _) (And.left (b := _) (by assumption)))
        repeat clear hHeld
        go_wp2_with fail
        go_ret
        exact ⟨ret_bool hE.out.symm, ext_trans HBo.out HB9.out⟩
      · have hE := Lib.hid (show crkN sl xs (k + 1) = true from by rw [hst.out, HA.out]; rfl)
        clear hst
        go_wp2_with fail
        refine wp_region_held_drew (S := (CqS wo b (o + k * 2) (o + (k + 1) * 2) p q W.heap.size w h (.slice A sl.length cap))) (by kernel_rfl) ?r33_hS0 (fun hHeld => ?r33_rest)
        case r33_hS0 => (try dsimp only); first | assumption | exact CqS.keep hbo2 hd1 (by assumption) ((Below.refl _ _).drew) | exact CqS.keep hbo2 hd1 (by assumption) (by assumption)
        refine wpAnyH_take (i := 0) (v := ?r33_vv0) (by (simp only [List.getElem?_toArray, List.getElem?_cons_succ, List.getElem?_cons_zero]; rfl)) (by kernel_rfl) (by kernel_rfl) (by kernel_rfl) (by exact fun _ _ _ h => h) (Or.inl ⟨by rfl, ?r33_hy0⟩) (by assumption) ?r33_rest0
        case r33_hy0 => intro w hSw; (try dsimp only at hSw); (go_simp <;> (with_reducible rfl))
        try simp only [Act.put, List.setIfInBounds_toArray, List.set_cons_zero, List.set_cons_succ]
        refine wpAnyH_take (i := 1) (v := ?r33_vv1) (by (simp only [List.getElem?_toArray, List.getElem?_cons_succ, List.getElem?_cons_zero]; rfl)) (by kernel_rfl) (by kernel_rfl) (by kernel_rfl) (by exact fun _ _ _ h => h) (Or.inl ⟨by rfl, ?r33_hy1⟩) (by assumption) ?r33_rest1
        case r33_hy1 => intro w hSw; (try dsimp only at hSw); (go_simp <;> (with_reducible rfl))
        try simp only [Act.put, List.setIfInBounds_toArray, List.set_cons_zero, List.set_cons_succ]
        refine wpAnyH_take (i := 2) (v := ?r33_vv2) (by (simp only [List.getElem?_toArray, List.getElem?_cons_succ, List.getElem?_cons_zero]; rfl)) (by kernel_rfl) (by kernel_rfl) (by kernel_rfl) (by exact fun _ _ _ h => h) (Or.inl ⟨by rfl, ?r33_hy2⟩) (by assumption) ?r33_rest2
        case r33_hy2 => intro w hSw; (try dsimp only at hSw); (go_simp <;> (with_reducible rfl))
        try simp only [Act.put, List.setIfInBounds_toArray, List.set_cons_zero, List.set_cons_succ]
        refine wpAnyH_take (i := 3) (v := ?r33_vv3) (by (simp only [List.getElem?_toArray, List.getElem?_cons_succ, List.getElem?_cons_zero]; rfl)) (by kernel_rfl) (by kernel_rfl) (by kernel_rfl) (by exact fun _ _ _ h => h) (Or.inl ⟨by rfl, ?r33_hy3⟩) (by assumption) ?r33_rest3
        case r33_hy3 => intro w hSw; (try dsimp only at hSw); (go_simp <;> (with_reducible rfl))
        try simp only [Act.put, List.setIfInBounds_toArray, List.set_cons_zero, List.set_cons_succ]
        refine wpAnyH_take (i := 4) (v := ?r33_vv4) (by (simp only [List.getElem?_toArray, List.getElem?_cons_succ, List.getElem?_cons_zero]; rfl)) (by kernel_rfl) (by kernel_rfl) (by kernel_rfl) (by exact fun _ _ _ h => h) (Or.inl ⟨by rfl, ?r33_hy4⟩) (by assumption) ?r33_rest4
        case r33_hy4 => intro w hSw; (try dsimp only at hSw); (go_simp <;> (with_reducible rfl))
        try simp only [Act.put, List.setIfInBounds_toArray, List.set_cons_zero, List.set_cons_succ]
        refine wpAnyH_take (i := 5) (v := ?r33_vv5) (by (simp only [List.getElem?_toArray, List.getElem?_cons_succ, List.getElem?_cons_zero]; rfl)) (by kernel_rfl) (by kernel_rfl) (by kernel_rfl) (by exact fun _ _ _ h => h) (Or.inl ⟨by rfl, ?r33_hy5⟩) (by assumption) ?r33_rest5
        case r33_hy5 => intro w hSw; (try dsimp only at hSw); (go_simp <;> (with_reducible rfl))
        try simp only [Act.put, List.setIfInBounds_toArray, List.set_cons_zero, List.set_cons_succ]
        refine wpAnyH_take (i := 6) (v := ?r33_vv6) (by (simp only [List.getElem?_toArray, List.getElem?_cons_succ, List.getElem?_cons_zero]; rfl)) (by kernel_rfl) (by kernel_rfl) (by kernel_rfl) (by exact fun _ _ _ h => h) (Or.inl ⟨by rfl, ?r33_hy6⟩) (by assumption) ?r33_rest6
        case r33_hy6 => intro w hSw; (try dsimp only at hSw); (go_simp <;> (with_reducible rfl))
        try simp only [Act.put, List.setIfInBounds_toArray, List.set_cons_zero, List.set_cons_succ]
        refine wpAnyH_take (i := 7) (v := ?r33_vv7) (by (simp only [List.getElem?_toArray, List.getElem?_cons_succ, List.getElem?_cons_zero]; rfl)) (by kernel_rfl) (by kernel_rfl) (by kernel_rfl) (by exact fun _ _ _ h => h) (Or.inl ⟨by rfl, ?r33_hy7⟩) (by assumption) ?r33_rest7
        case r33_hy7 => intro w hSw; (try dsimp only at hSw); (go_simp <;> (with_reducible rfl))
        try simp only [Act.put, List.setIfInBounds_toArray, List.set_cons_zero, List.set_cons_succ]
        refine wpAnyH_take (i := 8) (v := ?r33_vv8) (by (simp only [List.getElem?_toArray, List.getElem?_cons_succ, List.getElem?_cons_zero]; rfl)) (by kernel_rfl) (by kernel_rfl) (by kernel_rfl) (by exact fun _ _ _ h => h) (Or.inl ⟨by rfl, ?r33_hy8⟩) (by assumption) ?r33_rest8
        case r33_hy8 => intro w hSw; (try dsimp only at hSw); (go_simp <;> (with_reducible rfl))
        try simp only [Act.put, List.setIfInBounds_toArray, List.set_cons_zero, List.set_cons_succ]
        refine wpAnyH_take (i := 9) (v := ?r33_vv9) (by (simp only [List.getElem?_toArray, List.getElem?_cons_succ, List.getElem?_cons_zero]; rfl)) (by kernel_rfl) (by kernel_rfl) (by kernel_rfl) (by exact fun _ _ _ h => h) (Or.inl ⟨by rfl, ?r33_hy9⟩) (by assumption) ?r33_rest9
        case r33_hy9 => intro w hSw; (try dsimp only at hSw); (go_simp <;> (with_reducible rfl))
        try simp only [Act.put, List.setIfInBounds_toArray, List.set_cons_zero, List.set_cons_succ]
        refine wpAnyH_ready (rs := [10]) (by kernel_rfl) (by simp) ?_
        refine AllReadyH.cons (by (simp only [List.getElem?_toArray, List.getElem?_cons_succ, List.getElem?_cons_zero]; rfl)) (fun K hK => ?_) AllReadyH.nil
        go_simp
        (go_at_call 116; with_reducible refine (qj.out _ (And.left (b := _) (And.left (b := _) (by assumption)))).mono ?_; rintro e w9 ⟨rfl, hb9⟩)
        try go_wp2_with fail
        refine hK.out _ _ ?r33_hS10 (fun hHeld => ?r33_r10)
        case r33_hS10 => (try dsimp only); first | assumption | exact CqS.keep hbo2 hd1 (by assumption) ((Below.refl _ _).drew) | exact CqS.keep hbo2 hd1 (by assumption) (by assumption)
        clear hK K
        try simp only [Act.put, List.setIfInBounds_toArray, List.set_cons_zero, List.set_cons_succ]
        refine wpAnyH_take (i := 11) (v := ?r33_vv11) (by (simp only [List.getElem?_toArray, List.getElem?_cons_succ, List.getElem?_cons_zero]; rfl)) (by kernel_rfl) (by kernel_rfl) (by kernel_rfl) (by exact fun _ _ _ h => h) (Or.inl ⟨by rfl, ?r33_hy11⟩) (by assumption) ?r33_rest11
        case r33_hy11 => intro w hSw; (try dsimp only at hSw); (go_simp <;> (with_reducible rfl))
        try simp only [Act.put, List.setIfInBounds_toArray, List.set_cons_zero, List.set_cons_succ]
        refine wpAnyH_done (by kernel_rfl) ?_ _
        have HB9 := Lib.hid (show Below wo.heap.size wo _ from And.left (b := _) (And.left (b := _) (by assumption)))
        repeat clear hHeld
        go_wp2_with fail
        go_roundw
        case rel => exact ⟨k + 1, by omega, by go_num, hE.out, ext_trans H1.out HB9.out⟩
        case measure => first | (simp [intOf]; done) | (simp [intOf]; omega)
    · have hE := Lib.hid (show crkB sl xs = true from by unfold crkB; rw [show xs.length - 1 = k by omega]; exact HA.out)
      have hnl : ¬ (k : Int) + 1 < (xs.length : Int) := by omega
      go_wp2_with fail
      go_ret
      exact ⟨ret_bool hE.out.symm, HBo.out⟩
end Go.Proofs.Ytbmkhhhlnollmaa
