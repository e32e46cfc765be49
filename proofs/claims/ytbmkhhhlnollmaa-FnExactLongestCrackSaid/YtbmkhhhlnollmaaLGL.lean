/-
The law on LongestCrack, walked: it answers true. Conditions: numbers are of their kinds, slices can be read. PRINTED by wip/mk_lgl.py.
-/
import Derived.Test.YtbmkhhhlnollmaaLC4
import Derived.Test.YtbmkhhhlnollmaaSQ13
set_option linter.unusedVariables false
set_option linter.unusedSimpArgs false
set_option maxRecDepth 100000
namespace Go.Proofs.Ytbmkhhhlnollmaa
open Go.RowKit
abbrev JxS (W0 : World) (b c : Nat) (w h : Int) (z u : Value) (w' : World) : Prop :=
  Below W0.heap.size W0 w' ∧ w'.cell? ⟨b, 0, none⟩ = some (.int .i8 w) ∧ w'.cell? ⟨b, 1, none⟩ = some (.int .i8 h) ∧ w'.cell? ⟨b, 2, none⟩ = some z ∧ w'.cell? ⟨c, 0, none⟩ = some (.int .i8 w) ∧ w'.cell? ⟨c, 1, none⟩ = some (.int .i8 h) ∧ w'.cell? ⟨c, 2, none⟩ = some u
theorem JxS.keep {W0 w1 w2 : World} {b c : Nat} {w h : Int} {z u : Value} (hb : b < W0.heap.size) (hc : c < W0.heap.size) (hS : JxS W0 b c w h z u w1) (k : Below w1.heap.size w1 w2) : JxS W0 b c w h z u w2 := by
  obtain ⟨h0, h1, h2, h3, h4, h5, h6⟩ := hS
  have q : ∀ o, w2.cell? ⟨b, o, none⟩ = w1.cell? ⟨b, o, none⟩ := fun o => k.cell (p := ⟨b, o, none⟩) (Nat.lt_of_lt_of_le hb h0.size)
  have r : ∀ o, w2.cell? ⟨c, o, none⟩ = w1.cell? ⟨c, o, none⟩ := fun o => k.cell (p := ⟨c, o, none⟩) (Nat.lt_of_lt_of_le hc h0.size)
  exact ⟨ext_trans h0 k, (q _).trans h1, (q _).trans h2, (q _).trans h3, (r _).trans h4, (r _).trans h5, (r _).trans h6⟩
set_option maxHeartbeats 4000000 in
theorem law_FnExactLongestCrack (W : World) (q : Sq) (z : Value) (hs : Sl W W.heap.size Slab.c 4 z q.sl) (hq : q.ok) (years : Int) (_u0 : -9223372036854775808 ≤ years) (_u1 : years ≤ 9223372036854775807) :
    Calls Try.prog 7 #[q.v z, .int .i64 years] W fun e w' => e = .returned (.bool true) ∧ Below W.heap.size W w' := by
  obtain ⟨A, cap, rfl, -, -, -⟩ := hs.slab
  have HSC := Lib.hid (show ∀ z W', Sl W' W'.heap.size Slab.c 4 z q.sl → Calls Try.prog 40 #[.agg #[.int .i8 q.w, .int .i8 q.h, z], .int .i64 years] W' (RetLo W' (longest q.w q.h q.sl years)) from fun z W' h1 => specLongest_calls q.w q.h z q.sl years W' ⟨hq.w0, hq.w1, hq.h0, hq.h1, hq.sl, h1⟩)
  have HIC := Lib.hid (show ∀ z W', Sl W' W'.heap.size Slab.c 4 z q.sl → Calls Try.prog 41 #[.agg #[.int .i8 q.w, .int .i8 q.h, z], .int .i64 years] W' (RetLo W' (longest q.w q.h q.sl years)) from fun z W' h1 => implLongest_calls q.w q.h z q.sl years W' ⟨hq.w0, hq.w1, hq.h0, hq.h1, hq.sl, h1⟩)
  generalize longest q.w q.h q.sl years = M at HSC HIC
  have HB := Lib.hid ((Below.refl W.heap.size W).alloc (Nat.le_refl _) (.cells #[.int .i8 q.w, .int .i8 q.h, .slice A q.sl.length cap] 25))
  have KQ := Lib.hid (Bk.new W 25 #[.int .i8 q.w, .int .i8 q.h, .slice A q.sl.length cap] W.heap.size rfl)
  have HSq := Lib.hid (hs.ext HB.out)
  clear hs hq
  unfold Sq.v
  go_enter Try.func7, Try.ntmps7
  go_wp2_with fail
  refine (szSquare_calls q.w q.h _ q.sl _ _ (by omega) (by omega) HSq.out).mono ?_
  rintro e w1 ⟨rfl, hb1⟩
  have HB := Lib.hid (ext_trans HB.out hb1)
  have KQ := Lib.hid (KQ.out.ext hb1)
  have HSq := Lib.hid (HSq.out.ext hb1)
  clear hb1
  by_cases hl : (1048576 : Int) < q.sl.length
  · rw [if_pos hl]
    go_wp2_with fail
    go_ret
    exact ⟨rfl, HB.out⟩
  rw [if_neg hl]
  have hn : q.sl.length ≤ 1048576 := by omega
  have hd0 : decide ((1048576 : Int) - (q.sl.length : Int) < 0) = false := by rw [decide_eq_false_iff_not]; omega
  have k0 := KQ.out.cell 0 _ rfl
  have k1 := KQ.out.cell 1 _ rfl
  have k2 := KQ.out.cell 2 _ rfl
  go_wp2_with fail
  refine (toSquare_calls q.w q.h _ q.sl _ HSq.out hn).mono ?_
  rintro e w2 ⟨z2, rfl, hO2, hb2⟩
  have Z2 := Lib.hid (hO2.sl Slab.c_len)
  clear k0 k1 k2 hO2
  have HB := Lib.hid (ext_trans HB.out hb2)
  have KQ := Lib.hid (KQ.out.ext hb2)
  have HSq := Lib.hid (HSq.out.ext hb2)
  clear hb2
  go_wp2_with fail
  refine (HSC.out z2 _ Z2.out).mono ?_
  rintro e w5 ⟨rfl, hb5⟩
  have hb5 := ext_alloc hb5 (.cells #[.int .i8 M.1.1.x, .int .i8 M.1.1.y] 36)
  have KM := Lib.hid (Bk.new w5 36 #[.int .i8 M.1.1.x, .int .i8 M.1.1.y] w5.heap.size rfl)
  have HB := Lib.hid (ext_trans HB.out hb5)
  have KQ := Lib.hid (KQ.out.ext hb5)
  have HSq := Lib.hid (HSq.out.ext hb5)
  clear hb5 Z2
  have k0 := KQ.out.cell 0 _ rfl
  have k1 := KQ.out.cell 1 _ rfl
  have k2 := KQ.out.cell 2 _ rfl
  go_wp2_with fail
  refine (toSquare_calls q.w q.h _ q.sl _ HSq.out hn).mono ?_
  rintro e w7 ⟨z7, rfl, hO7, hb7⟩
  obtain ⟨A7, cap7, rfl, -, -, -⟩ := (hO7.sl Slab.c_len).slab
  have Z7 := Lib.hid ((hO7.sl Slab.c_len).alloc (.cells #[.int .i8 q.w, .int .i8 q.h, .slice A7 q.sl.length cap7] 34))
  have hb7 := ext_alloc hb7 (.cells #[.int .i8 q.w, .int .i8 q.h, .slice A7 q.sl.length cap7] 34)
  have KX := Lib.hid (Bk.new w7 34 #[.int .i8 q.w, .int .i8 q.h, .slice A7 q.sl.length cap7] w7.heap.size rfl)
  clear k0 k1 k2 hO7
  have HB := Lib.hid (ext_trans HB.out hb7)
  have KQ := Lib.hid (KQ.out.ext hb7)
  have HSq := Lib.hid (HSq.out.ext hb7)
  have KM := Lib.hid (KM.out.ext hb7)
  clear hb7
  generalize hX5 : w5.heap.size = X5 at *
  clear hX5
  have k0 := KX.out.cell 0 _ rfl
  have k1 := KX.out.cell 1 _ rfl
  have k2 := KX.out.cell 2 _ rfl
  go_wp2_with fail
  refine (HIC.out _ _ Z7.out).mono ?_
  rintro e w11 ⟨rfl, hb11⟩
  have hb11 := ext_alloc hb11 (.cells #[.int .i8 M.1.1.x, .int .i8 M.1.1.y] 36)
  have KN := Lib.hid (Bk.new w11 36 #[.int .i8 M.1.1.x, .int .i8 M.1.1.y] w11.heap.size rfl)
  clear k0 k1 k2
  have HB := Lib.hid (ext_trans HB.out hb11)
  have KQ := Lib.hid (KQ.out.ext hb11)
  have HSq := Lib.hid (HSq.out.ext hb11)
  have KM := Lib.hid (KM.out.ext hb11)
  have Z7 := Lib.hid (Z7.out.ext hb11)
  have KX := Lib.hid (KX.out.ext hb11)
  clear hb11
  have m0 := KM.out.cell 0 _ rfl
  have m1 := KM.out.cell 1 _ rfl
  have n0 := KN.out.cell 0 _ rfl
  have n1 := KN.out.cell 1 _ rfl
  have qm := Lib.hid (fun W => eqCell_calls M.1.1 M.1.1 W)
  unfold Cell.v at qm
  go_wp2_with fail
  refine (qm.out _).mono ?_
  rintro e w13 ⟨rfl, hb13⟩
  have hd : decide (M.1.1 = M.1.1) = true := by simp
  first | rw [hd] | simp only [decide_true]
  clear m0 m1 n0 n1
  have HB := Lib.hid (ext_trans HB.out hb13)
  have KQ := Lib.hid (KQ.out.ext hb13)
  have HSq := Lib.hid (HSq.out.ext hb13)
  have Z7 := Lib.hid (Z7.out.ext hb13)
  have KX := Lib.hid (KX.out.ext hb13)
  clear hb13 KN KM
  generalize hX7 : w7.heap.size = X7 at *
  clear hX7
  have hl1 := KX.out.lt
  have hl2' := KQ.out.lt
  have hS : JxS w13 X7 W.heap.size q.w q.h (.slice A7 q.sl.length cap7) (.slice A q.sl.length cap) w13 := ⟨Below.refl _ _, KX.out.cell 0 _ rfl, KX.out.cell 1 _ rfl, KX.out.cell 2 _ rfl, KQ.out.cell 0 _ rfl, KQ.out.cell 1 _ rfl, KQ.out.cell 2 _ rfl⟩
  go_wp2_with fail
  refine wp_region_held_drew (S := (JxS w13 X7 W.heap.size q.w q.h (.slice A7 q.sl.length cap7) (.slice A q.sl.length cap))) (by kernel_rfl) ?r1_hS0 (fun hHeld => ?r1_rest)
  case r1_hS0 => (try dsimp only); first | assumption | exact JxS.keep hl1 hl2' (by assumption) ((Below.refl _ _).drew) | exact JxS.keep hl1 hl2' (by assumption) (by assumption)
  refine wpAnyH_take (i := 0) (v := ?r1_vv0) (by (simp only [List.getElem?_toArray, List.getElem?_cons_succ, List.getElem?_cons_zero]; rfl)) (by kernel_rfl) (by kernel_rfl) (by kernel_rfl) (by exact fun _ _ _ h => h) (Or.inl ⟨by rfl, ?r1_hy0⟩) (by assumption) ?r1_rest0
  case r1_hy0 => intro w hSw; (try dsimp only at hSw); (go_simp <;> (with_reducible rfl))
  try simp only [Act.put, List.setIfInBounds_toArray, List.set_cons_zero, List.set_cons_succ]
  refine wpAnyH_take (i := 1) (v := ?r1_vv1) (by (simp only [List.getElem?_toArray, List.getElem?_cons_succ, List.getElem?_cons_zero]; rfl)) (by kernel_rfl) (by kernel_rfl) (by kernel_rfl) (by exact fun _ _ _ h => h) (Or.inl ⟨by rfl, ?r1_hy1⟩) (by assumption) ?r1_rest1
  case r1_hy1 => intro w hSw; (try dsimp only at hSw); (go_simp <;> (with_reducible rfl))
  try simp only [Act.put, List.setIfInBounds_toArray, List.set_cons_zero, List.set_cons_succ]
  refine wpAnyH_ready (rs := [2]) (by kernel_rfl) (by simp) ?_
  refine AllReadyH.cons (by (simp only [List.getElem?_toArray, List.getElem?_cons_succ, List.getElem?_cons_zero]; rfl)) (fun K hK => ?_) AllReadyH.nil
  go_simp
  (go_at_call 16; refine (toSquare_calls q.w q.h _ q.sl _ (HSq.out.ext (And.left (b := _) (by assumption))) hn).mono ?_; rintro e x9 ⟨z9, rfl, hO9, hb9⟩)
  try go_wp2_with fail
  refine hK.out _ _ ?r1_hS2 (fun hHeld => ?r1_r2)
  case r1_hS2 => (try dsimp only); first | assumption | exact JxS.keep hl1 hl2' (by assumption) ((Below.refl _ _).drew) | exact JxS.keep hl1 hl2' (by assumption) (by assumption)
  clear hK K
  try simp only [Act.put, List.setIfInBounds_toArray, List.set_cons_zero, List.set_cons_succ]
  refine wpAnyH_ready (rs := [3]) (by kernel_rfl) (by simp) ?_
  refine AllReadyH.cons (by (simp only [List.getElem?_toArray, List.getElem?_cons_succ, List.getElem?_cons_zero]; rfl)) (fun K hK => ?_) AllReadyH.nil
  go_simp
  (go_at_call 20; refine (eqSquare_calls _ _ _ _ _ _ q.sl q.sl _ (Z7.out.ext (And.left (b := _) (by assumption))) (hO9.sl Slab.c_len) rfl rfl).mono ?_; rintro e w15 ⟨rfl, hb10⟩)
  try go_wp2_with fail
  refine hK.out _ _ ?r1_hS3 (fun hHeld => ?r1_r3)
  case r1_hS3 => (try dsimp only); first | assumption | exact JxS.keep hl1 hl2' (by assumption) ((Below.refl _ _).drew) | exact JxS.keep hl1 hl2' (by assumption) (by assumption)
  clear hK K
  try simp only [Act.put, List.setIfInBounds_toArray, List.set_cons_zero, List.set_cons_succ]
  refine wpAnyH_take (i := 4) (v := ?r1_vv4) (by (simp only [List.getElem?_toArray, List.getElem?_cons_succ, List.getElem?_cons_zero]; rfl)) (by kernel_rfl) (by kernel_rfl) (by kernel_rfl) (by exact fun _ _ _ h => h) (Or.inl ⟨by rfl, ?r1_hy4⟩) (by assumption) ?r1_rest4
  case r1_hy4 => intro w hSw; (try dsimp only at hSw); (go_simp <;> (with_reducible rfl))
  try simp only [Act.put, List.setIfInBounds_toArray, List.set_cons_zero, List.set_cons_succ]
  refine wpAnyH_done (by kernel_rfl) ?_ _
  have h9 := And.left (b := _) (show JxS w13 X7 W.heap.size q.w q.h (.slice A7 q.sl.length cap7) (.slice A q.sl.length cap) w15 by assumption)
  have hdq : decide (q.sl = q.sl) = true := by simp
  have HB := ext_trans HB.out h9
  repeat clear hHeld
  go_wp2_with fail
  go_ret
  exact ⟨rfl, HB⟩
end Go.Proofs.Ytbmkhhhlnollmaa
