/-
The law on LevelsText, walked: it answers true. Conditions: numbers are of their kinds, slices can be read. PRINTED by wip/mk_law.py.
-/
import Derived.Test.YthlcmiediedcfaaDoorTX3
import Derived.Test.YthlcmiediedcfaaDoorMK
set_option linter.unusedVariables false
set_option linter.unusedSimpArgs false
set_option maxRecDepth 100000
namespace Go.Proofs.YthlcmiediedcfaaDoor
open Go.RowKit
abbrev JxS (W0 : World) (b c : Nat) (w h : Int) (z u : Value) (w' : World) : Prop :=
  Below W0.heap.size W0 w' ∧ w'.cell? ⟨b, 0, none⟩ = some (.int .i8 w) ∧ w'.cell? ⟨b, 1, none⟩ = some (.int .i8 h) ∧ w'.cell? ⟨b, 2, none⟩ = some z ∧ w'.cell? ⟨c, 0, none⟩ = some (.int .i8 w) ∧ w'.cell? ⟨c, 1, none⟩ = some (.int .i8 h) ∧ w'.cell? ⟨c, 2, none⟩ = some u
theorem JxS.keep {W0 w1 w2 : World} {b c : Nat} {w h : Int} {z u : Value} (hb : b < W0.heap.size) (hc : c < W0.heap.size) (hS : JxS W0 b c w h z u w1) (k : Below w1.heap.size w1 w2) : JxS W0 b c w h z u w2 := by
  obtain ⟨h0, h1, h2, h3, h4, h5, h6⟩ := hS
  have q : ∀ o, w2.cell? ⟨b, o, none⟩ = w1.cell? ⟨b, o, none⟩ := fun o => k.cell (p := ⟨b, o, none⟩) (Nat.lt_of_lt_of_le hb h0.size)
  have r : ∀ o, w2.cell? ⟨c, o, none⟩ = w1.cell? ⟨c, o, none⟩ := fun o => k.cell (p := ⟨c, o, none⟩) (Nat.lt_of_lt_of_le hc h0.size)
  exact ⟨ext_trans h0 k, (q _).trans h1, (q _).trans h2, (q _).trans h3, (r _).trans h4, (r _).trans h5, (r _).trans h6⟩
set_option maxHeartbeats 8000000 in
theorem law_FnExactLevelsText (W : World) (ht : TabP W) (q : Sq) (z : Value) (hs : Sl W W.heap.size Slab.c 4 z q.sl) (hq : q.ok) (a1 : List Int) (v_a1 : Value) (s_a1 : Sl W W.heap.size i64c 1 v_a1 a1) (k_a1 : ∀ x ∈ a1, -9223372036854775808 ≤ x ∧ x ≤ 9223372036854775807) :
    Calls Tryd.prog 4 #[q.v z, v_a1] W fun e w' => e = .returned (.bool true) ∧ Below W.heap.size W w' := by
  obtain ⟨A, cap, rfl, -, -, -⟩ := hs.slab
  obtain ⟨A_a1, c_a1, rfl, -, -, -⟩ := s_a1.i64
  have HSC := Lib.hid (show a1.length ≤ 1048576 → ∀ z u_a1 W', Sl W' W'.heap.size Slab.c 4 z q.sl → Sl W' W'.heap.size i64c 1 u_a1 a1 → Calls Tryd.prog 15 #[.agg #[.int .i8 q.w, .int .i8 q.h, z], u_a1] W' (fun e w' => e = .returned (str (levelsT q.w q.h q.sl a1)) ∧ Below W'.heap.size W' w') from fun len_a1 z u_a1 W' h1 p_a1 => specLevelsText_calls q.w q.h z q.sl a1 u_a1 W' ⟨hq.w0, hq.w1, hq.h0, hq.h1, hq.sl, h1⟩ p_a1)
  have HIC := Lib.hid (show a1.length ≤ 1048576 → ∀ z u_a1 W', TabP W' → Sl W' W'.heap.size Slab.c 4 z q.sl → Sl W' W'.heap.size i64c 1 u_a1 a1 → Calls Tryd.prog 18 #[.agg #[.int .i8 q.w, .int .i8 q.h, z], u_a1] W' (fun e w' => e = .returned (str (levelsT q.w q.h q.sl a1)) ∧ Below W'.heap.size W' w') from fun len_a1 z u_a1 W' hT h1 p_a1 => implLevelsText_calls q.w q.h z q.sl a1 u_a1 W' hT ⟨hq.w0, hq.w1, hq.h0, hq.h1, hq.sl, h1⟩ p_a1)
  generalize levelsT q.w q.h q.sl a1 = F at HSC HIC
  have HB := Lib.hid ((Below.refl W.heap.size W).alloc (Nat.le_refl _) (.cells #[.int .i8 q.w, .int .i8 q.h, .slice A q.sl.length cap] 32))
  have KQ := Lib.hid (Bk.new W 32 #[.int .i8 q.w, .int .i8 q.h, .slice A q.sl.length cap] W.heap.size rfl)
  have HS0 := Lib.hid hs
  have HT := Lib.hid ht
  clear ht
  have S_a1 := Lib.hid s_a1
  clear hs hq s_a1 k_a1
  unfold Sq.v
  by_cases hl_a1 : (1048576 : Int) < (a1.length : Int)
  · have hd : decide ((1048576 : Int) < (a1.length : Int)) = true := decide_eq_true hl_a1
    go_enter Tryd.func4, Tryd.ntmps4
    go_wp2_with fail
    go_ret
    exact ⟨rfl, HB.out⟩
  have len_a1 : a1.length ≤ 1048576 := by omega
  have hd_a1 : decide ((1048576 : Int) < (a1.length : Int)) = false := decide_eq_false hl_a1
  go_enter Tryd.func4, Tryd.ntmps4
  go_wp2_with fail
  refine (szSquare_calls q.w q.h _ q.sl _ _ (by omega) (by omega) (HS0.out.ext HB.out)).mono ?_
  rintro e w1 ⟨rfl, hb1⟩
  have HB := Lib.hid (ext_trans HB.out hb1)
  have KQ := Lib.hid (KQ.out.ext hb1)
  clear hb1
  by_cases hl : (1048576 : Int) < q.sl.length
  · rw [if_pos hl]
    go_wp2_with fail
    go_ret
    exact ⟨rfl, HB.out⟩
  rw [if_neg hl]
  have hn : q.sl.length ≤ 1048576 := by omega
  have hd0 : decide ((1048576 : Int) - (q.sl.length : Int) < 0) = false := by rw [decide_eq_false_iff_not]; omega
  have k0 := KQ.out.cell 0 _ rfl
  have k1 := KQ.out.cell 1 _ rfl
  have k2 := KQ.out.cell 2 _ rfl
  go_wp2_with fail
  refine (toSquare_calls q.w q.h _ q.sl _ (HS0.out.ext HB.out) hn).mono ?_
  rintro e w_1 ⟨z_t1, rfl, hO1, hb1⟩
  have Rt1_ := Lib.hid (hO1.more (show W.heap.size + 1 ≤ _ from KQ.out.lt))
  have HB := Lib.hid (ext_trans HB.out hb1)
  have KQ := Lib.hid (KQ.out.ext hb1)
  have Rt1 := Lib.hid Rt1_.out
  clear Rt1_
  clear hO1 hb1
  clear k0 k1 k2
  go_wp2_with fail
  refine (toInt64S_calls a1 _ _ (S_a1.out.ext HB.out) len_a1).mono ?_
  rintro e w_2 ⟨u_t_a1, rfl, hO2, hb2⟩
  have Rt_a1_ := Lib.hid (hO2.more (show W.heap.size + 1 ≤ _ from KQ.out.lt))
  have HB := Lib.hid (ext_trans HB.out hb2)
  have KQ := Lib.hid (KQ.out.ext hb2)
  have Rt1 := Lib.hid (Rt1.out.ext hb2)
  have Rt_a1 := Lib.hid Rt_a1_.out
  clear Rt_a1_
  clear hO2 hb2
  go_wp2_with fail
  refine (HSC.out len_a1 _ _ _ (Rt1.out.sl Slab.c_len) (Rt_a1.out.sl i64c_len)).mono ?_
  rintro e w_3 ⟨rfl, hb3⟩
  have HB := Lib.hid (ext_trans HB.out hb3)
  have KQ := Lib.hid (KQ.out.ext hb3)
  have Rt1 := Lib.hid (Rt1.out.ext hb3)
  have Rt_a1 := Lib.hid (Rt_a1.out.ext hb3)
  clear hb3
  clear Rt1
  clear Rt_a1
  have k0 := KQ.out.cell 0 _ rfl
  have k1 := KQ.out.cell 1 _ rfl
  have k2 := KQ.out.cell 2 _ rfl
  go_wp2_with fail
  refine (toSquare_calls q.w q.h _ q.sl _ (HS0.out.ext HB.out) hn).mono ?_
  rintro e w_4 ⟨z_x0, rfl, hO4, hb4⟩
  obtain ⟨Ax, capx, rfl, -, -, -⟩ := (hO4.sl Slab.c_len).slab
  have Rx0_ := Lib.hid (hO4.more (show W.heap.size + 1 ≤ _ from KQ.out.lt))
  have KX := Lib.hid (Bk.new w_4 38 #[.int .i8 q.w, .int .i8 q.h, .slice Ax q.sl.length capx] w_4.heap.size rfl)
  have HXrx0 := Lib.hid (show ∀ j, (Value.slice Ax q.sl.length capx).ownBlock = some j → w_4.heap.size = j → False from fun j h1 h2 => by have := hO4.lt j h1; omega)
  have hb4 := ext_alloc hb4 (.cells #[.int .i8 q.w, .int .i8 q.h, .slice Ax q.sl.length capx] 38)
  have Rx0_ := Lib.hid (Rx0_.out.alloc (.cells #[.int .i8 q.w, .int .i8 q.h, .slice Ax q.sl.length capx] 38))
  clear k0 k1 k2
  have HB := Lib.hid (ext_trans HB.out hb4)
  have KQ := Lib.hid (KQ.out.ext hb4)
  have Rx0 := Lib.hid Rx0_.out
  clear Rx0_
  clear hO4 hb4
  go_wp2_with fail
  generalize w_4.alloc (.cells #[.int .i8 q.w, .int .i8 q.h, .slice Ax q.sl.length capx] 38) = wx at *
  generalize hX : w_4.heap.size = X at *
  clear hX
  refine (toInt64S_calls a1 _ _ (S_a1.out.ext HB.out) len_a1).mono ?_
  rintro e w_5 ⟨u_x_a1, rfl, hO5, hb5⟩
  have Dx0_x_a1 := Lib.hid (show Apart (.slice Ax q.sl.length capx) u_x_a1 from fun j h1 h2 => by have := Rx0.out.lt j h1; have := hO5.base j h2; omega)
  have Rx_a1_ := Lib.hid (hO5.more (show W.heap.size + 1 ≤ _ from KQ.out.lt))
  have HXrx_a1 := Lib.hid (show ∀ j, (u_x_a1).ownBlock = some j → X = j → False from fun j h1 h2 => by have := hO5.base j h1; have := KX.out.lt; omega)
  have HB := Lib.hid (ext_trans HB.out hb5)
  have KQ := Lib.hid (KQ.out.ext hb5)
  have KX := Lib.hid (KX.out.ext hb5)
  have Rx0 := Lib.hid (Rx0.out.ext hb5)
  have Rx_a1 := Lib.hid Rx_a1_.out
  clear Rx_a1_
  clear hO5 hb5
  have k0 := KX.out.cell 0 _ rfl
  have k1 := KX.out.cell 1 _ rfl
  have k2 := KX.out.cell 2 _ rfl
  go_wp2_with fail
  refine (HIC.out len_a1 _ _ _ (HT.out.ext HB.out) (Rx0.out.sl Slab.c_len) (Rx_a1.out.sl i64c_len)).mono ?_
  rintro e w_6 ⟨rfl, hb6⟩
  clear k0 k1 k2
  have HB := Lib.hid (ext_trans HB.out hb6)
  have KQ := Lib.hid (KQ.out.ext hb6)
  have KX := Lib.hid (KX.out.ext hb6)
  have Rx0 := Lib.hid (Rx0.out.ext hb6)
  have Rx_a1 := Lib.hid (Rx_a1.out.ext hb6)
  clear hb6
  have hlx := KX.out.lt
  have hlq := KQ.out.lt
  go_wp2_with fail
  obtain ⟨W5, hW5⟩ : ∃ W5 : World, W5 = w_6 := ⟨_, rfl⟩
  subst hW5
  have hS : JxS W5 X W.heap.size q.w q.h (.slice Ax q.sl.length capx) (.slice A q.sl.length cap) W5 := ⟨Below.refl _ _, KX.out.cell 0 _ rfl, KX.out.cell 1 _ rfl, KX.out.cell 2 _ rfl, KQ.out.cell 0 _ rfl, KQ.out.cell 1 _ rfl, KQ.out.cell 2 _ rfl⟩
  refine wp_region_held_drew (S := (JxS W5 X W.heap.size q.w q.h (.slice Ax q.sl.length capx) (.slice A q.sl.length cap))) (by kernel_rfl) ?r5_hS0 (fun hHeld => ?r5_rest)
  case r5_hS0 => (try dsimp only); first | assumption | exact JxS.keep hlx hlq (by assumption) ((Below.refl _ _).drew) | exact JxS.keep hlx hlq (by assumption) (by assumption)
  refine wpAnyH_take (i := 0) (v := ?r5_vv0) (by (simp only [List.getElem?_toArray, List.getElem?_cons_succ, List.getElem?_cons_zero]; rfl)) (by kernel_rfl) (by kernel_rfl) (by kernel_rfl) (by exact fun _ _ _ h => h) (Or.inl ⟨by rfl, ?r5_hy0⟩) (by assumption) ?r5_rest0
  case r5_hy0 => intro w hSw; (try dsimp only at hSw); (go_simp <;> (with_reducible rfl))
  try simp only [Act.put, List.setIfInBounds_toArray, List.set_cons_zero, List.set_cons_succ]
  refine wpAnyH_take (i := 1) (v := ?r5_vv1) (by (simp only [List.getElem?_toArray, List.getElem?_cons_succ, List.getElem?_cons_zero]; rfl)) (by kernel_rfl) (by kernel_rfl) (by kernel_rfl) (by exact fun _ _ _ h => h) (Or.inl ⟨by rfl, ?r5_hy1⟩) (by assumption) ?r5_rest1
  case r5_hy1 => intro w hSw; (try dsimp only at hSw); (go_simp <;> (with_reducible rfl))
  try simp only [Act.put, List.setIfInBounds_toArray, List.set_cons_zero, List.set_cons_succ]
  refine wpAnyH_ready (rs := [2]) (by kernel_rfl) (by simp) ?_
  refine AllReadyH.cons (by (simp only [List.getElem?_toArray, List.getElem?_cons_succ, List.getElem?_cons_zero]; rfl)) (fun K hK => ?_) AllReadyH.nil
  go_simp
  (go_at_call 16; refine (toSquare_calls q.w q.h _ q.sl _ (HS0.out.ext (ext_trans HB.out (And.left (b := _) (by assumption)))) hn).mono ?_; rintro e x9 ⟨z9, rfl, hO9, hb9⟩)
  try go_wp2_with fail
  refine hK.out _ _ ?r5_hS2 (fun hHeld => ?r5_r2)
  case r5_hS2 => (try dsimp only); first | assumption | exact JxS.keep hlx hlq (by assumption) ((Below.refl _ _).drew) | exact JxS.keep hlx hlq (by assumption) (by assumption)
  clear hK K
  try simp only [Act.put, List.setIfInBounds_toArray, List.set_cons_zero, List.set_cons_succ]
  refine wpAnyH_ready (rs := [3]) (by kernel_rfl) (by simp) ?_
  refine AllReadyH.cons (by (simp only [List.getElem?_toArray, List.getElem?_cons_succ, List.getElem?_cons_zero]; rfl)) (fun K hK => ?_) AllReadyH.nil
  go_simp
  (go_at_call 19; refine (eqSquare_calls _ _ _ _ _ _ q.sl q.sl _ ((Rx0.out.sl Slab.c_len).ext (And.left (b := _) (by assumption))) (hO9.sl Slab.c_len) rfl rfl).mono ?_; rintro e w15 ⟨rfl, hb10⟩)
  try go_wp2_with fail
  refine hK.out _ _ ?r5_hS3 (fun hHeld => ?r5_r3)
  case r5_hS3 => (try dsimp only); first | assumption | exact JxS.keep hlx hlq (by assumption) ((Below.refl _ _).drew) | exact JxS.keep hlx hlq (by assumption) (by assumption)
  clear hK K
  try simp only [Act.put, List.setIfInBounds_toArray, List.set_cons_zero, List.set_cons_succ]
  refine wpAnyH_take (i := 4) (v := ?r5_vv4) (by (simp only [List.getElem?_toArray, List.getElem?_cons_succ, List.getElem?_cons_zero]; rfl)) (by kernel_rfl) (by kernel_rfl) (by kernel_rfl) (by exact fun _ _ _ h => h) (Or.inl ⟨by rfl, ?r5_hy4⟩) (by assumption) ?r5_rest4
  case r5_hy4 => intro w hSw; (try dsimp only at hSw); (go_simp <;> (with_reducible rfl))
  try simp only [Act.put, List.setIfInBounds_toArray, List.set_cons_zero, List.set_cons_succ]
  refine wpAnyH_done (by kernel_rfl) ?_ _
  have h9 := And.left (b := _) (show JxS W5 X W.heap.size q.w q.h (.slice Ax q.sl.length capx) (.slice A q.sl.length cap) w15 by assumption)
  have hdq : decide (q.sl = q.sl) = true := by simp
  have HB := Lib.hid (ext_trans HB.out h9)
  have KQ := Lib.hid (KQ.out.ext h9)
  have KX := Lib.hid (KX.out.ext h9)
  have Rx0 := Lib.hid (Rx0.out.ext h9)
  have Rx_a1 := Lib.hid (Rx_a1.out.ext h9)
  clear hS h9 hO9 hb9 hb10 hlx hlq
  repeat clear hHeld
  go_wp2_with fail
  refine (toInt64S_calls a1 _ _ (S_a1.out.ext HB.out) len_a1).mono ?_
  rintro e w_8 ⟨u_y_a1, rfl, hO8, hb8⟩
  have Ry_a1_ := Lib.hid (hO8.more (show W.heap.size + 1 ≤ _ from KQ.out.lt))
  have HB := Lib.hid (ext_trans HB.out hb8)
  have KQ := Lib.hid (KQ.out.ext hb8)
  have KX := Lib.hid (KX.out.ext hb8)
  have Rx0 := Lib.hid (Rx0.out.ext hb8)
  have Rx_a1 := Lib.hid (Rx_a1.out.ext hb8)
  have Ry_a1 := Lib.hid Ry_a1_.out
  clear Ry_a1_
  clear hO8 hb8
  go_wp2_with fail
  refine (eqInt64S_calls a1 a1 u_x_a1 u_y_a1 _ (Rx_a1.out.sl i64c_len) (Ry_a1.out.sl i64c_len)).mono ?_
  rintro e w_9 ⟨rfl, hb9⟩
  have HB := Lib.hid (ext_trans HB.out hb9)
  have KQ := Lib.hid (KQ.out.ext hb9)
  have KX := Lib.hid (KX.out.ext hb9)
  have Rx0 := Lib.hid (Rx0.out.ext hb9)
  have Rx_a1 := Lib.hid (Rx_a1.out.ext hb9)
  have Ry_a1 := Lib.hid (Ry_a1.out.ext hb9)
  clear hb9
  have hd : decide (a1 = a1) = true := by simp
  rw [hd]
  clear hd
  clear Ry_a1
  go_wp2_with fail
  go_ret
  exact ⟨rfl, HB.out⟩
end Go.Proofs.YthlcmiediedcfaaDoor
