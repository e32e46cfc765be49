/-
The law on GrowAll, walked: it answers true. Conditions: numbers are of their kinds, slices can be read. PRINTED by wip/mk_law.py.
-/
import Derived.Test.YtbmkhhhlnollmaaGA4
import Derived.Test.YtbmkhhhlnollmaaMK
set_option linter.unusedVariables false
set_option linter.unusedSimpArgs false
set_option maxRecDepth 100000
namespace Go.Proofs.Ytbmkhhhlnollmaa
open Go.RowKit
abbrev JxS (W0 : World) (b c : Nat) (w h : Int) (z u : Value) (w' : World) : Prop :=
  Below W0.heap.size W0 w' ∧ w'.cell? ⟨b, 0, none⟩ = some (.int .i8 w) ∧ w'.cell? ⟨b, 1, none⟩ = some (.int .i8 h) ∧ w'.cell? ⟨b, 2, none⟩ = some z ∧ w'.cell? ⟨c, 0, none⟩ = some (.int .i8 w) ∧ w'.cell? ⟨c, 1, none⟩ = some (.int .i8 h) ∧ w'.cell? ⟨c, 2, none⟩ = some u
theorem JxS.keep {W0 w1 w2 : World} {b c : Nat} {w h : Int} {z u : Value} (hb : b < W0.heap.size) (hc : c < W0.heap.size) (hS : JxS W0 b c w h z u w1) (k : Below w1.heap.size w1 w2) : JxS W0 b c w h z u w2 := by
  obtain ⟨h0, h1, h2, h3, h4, h5, h6⟩ := hS
  have q : ∀ o, w2.cell? ⟨b, o, none⟩ = w1.cell? ⟨b, o, none⟩ := fun o => k.cell (p := ⟨b, o, none⟩) (Nat.lt_of_lt_of_le hb h0.size)
  have r : ∀ o, w2.cell? ⟨c, o, none⟩ = w1.cell? ⟨c, o, none⟩ := fun o => k.cell (p := ⟨c, o, none⟩) (Nat.lt_of_lt_of_le hc h0.size)
  exact ⟨ext_trans h0 k, (q _).trans h1, (q _).trans h2, (q _).trans h3, (r _).trans h4, (r _).trans h5, (r _).trans h6⟩
set_option maxHeartbeats 8000000 in
theorem law_FnExactGrowAll (W : World) (q : Sq) (z : Value) (hs : Sl W W.heap.size Slab.c 4 z q.sl) (hq : q.ok) (a1 : List Cell) (v_a1 : Value) (s_a1 : Sl W W.heap.size Cell.c 2 v_a1 a1) (k_a1 : ∀ x ∈ a1, x.ok) (a2 : List Int) (v_a2 : Value) (s_a2 : Sl W W.heap.size i64c 1 v_a2 a2) (k_a2 : ∀ x ∈ a2, -9223372036854775808 ≤ x ∧ x ≤ 9223372036854775807) (n1 : Int) (l_n1 : -9223372036854775808 ≤ n1) (r_n1 : n1 ≤ 9223372036854775807) :
    Calls Try.prog 6 #[q.v z, v_a1, v_a2, .int .i64 n1] W fun e w' => e = .returned (.bool true) ∧ Below W.heap.size W w' := by
  obtain ⟨A, cap, rfl, -, -, -⟩ := hs.slab
  obtain ⟨A_a1, c_a1, rfl, -, -, -⟩ := s_a1.cell
  obtain ⟨A_a2, c_a2, rfl, -, -, -⟩ := s_a2.i64
  have HSC := Lib.hid (show a1.length ≤ 1048576 → a2.length ≤ 1048576 → ∀ z u_a1 u_a2 W', Sl W' W'.heap.size Slab.c 4 z q.sl → Sl W' W'.heap.size Cell.c 2 u_a1 a1 → Sl W' W'.heap.size i64c 1 u_a2 a2 → Calls Try.prog 34 #[.agg #[.int .i8 q.w, .int .i8 q.h, z], u_a1, u_a2, .int .i64 n1] W' (RetRR W' (growAll q.w q.h q.sl a1 a2 n1)) from fun len_a1 len_a2 z u_a1 u_a2 W' h1 p_a1 p_a2 => specGrowAll_calls q.w q.h z q.sl a1 k_a1 u_a1 a2 u_a2 n1 W' ⟨hq.w0, hq.w1, hq.h0, hq.h1, hq.sl, h1⟩ p_a1 p_a2)
  have HIC := Lib.hid (show a1.length ≤ 1048576 → a2.length ≤ 1048576 → ∀ z u_a1 u_a2 W', Sl W' W'.heap.size Slab.c 4 z q.sl → Sl W' W'.heap.size Cell.c 2 u_a1 a1 → Sl W' W'.heap.size i64c 1 u_a2 a2 → Calls Try.prog 36 #[.agg #[.int .i8 q.w, .int .i8 q.h, z], u_a1, u_a2, .int .i64 n1] W' (RetRR W' (growAll q.w q.h q.sl a1 a2 n1)) from fun len_a1 len_a2 z u_a1 u_a2 W' h1 p_a1 p_a2 => implGrowAll_calls q.w q.h z q.sl a1 k_a1 u_a1 a2 u_a2 n1 W' ⟨hq.w0, hq.w1, hq.h0, hq.h1, hq.sl, h1⟩ p_a1 p_a2)
  have HL := Lib.hid (show (growAll q.w q.h q.sl a1 a2 n1).1.length ≤ 8 ∧ tot (growAll q.w q.h q.sl a1 a2 n1).1 ≤ 488 from growAll_small q.w q.h q.sl a1 a2 n1)
  generalize growAll q.w q.h q.sl a1 a2 n1 = F at HSC HIC HL
  have HB := Lib.hid ((Below.refl W.heap.size W).alloc (Nat.le_refl _) (.cells #[.int .i8 q.w, .int .i8 q.h, .slice A q.sl.length cap] 25))
  have KQ := Lib.hid (Bk.new W 25 #[.int .i8 q.w, .int .i8 q.h, .slice A q.sl.length cap] W.heap.size rfl)
  have HS0 := Lib.hid hs
  have S_a1 := Lib.hid s_a1
  have S_a2 := Lib.hid s_a2
  clear hs hq s_a1 k_a1 s_a2 k_a2
  unfold Sq.v
  by_cases hl_a2 : (1048576 : Int) < (a2.length : Int)
  · have hd : decide ((1048576 : Int) < (a2.length : Int)) = true := decide_eq_true hl_a2
    go_enter Try.func6, Try.ntmps6
    go_wp2_with fail
    go_ret
    exact ⟨rfl, HB.out⟩
  have len_a2 : a2.length ≤ 1048576 := by omega
  have hd_a2 : decide ((1048576 : Int) < (a2.length : Int)) = false := decide_eq_false hl_a2
  go_enter Try.func6, Try.ntmps6
  go_wp2_with fail
  refine (szSquare_calls q.w q.h _ q.sl _ _ (by omega) (by omega) (HS0.out.ext HB.out)).mono ?_
  rintro e w1 ⟨rfl, hb1⟩
  have HB := Lib.hid (ext_trans HB.out hb1)
  have KQ := Lib.hid (KQ.out.ext hb1)
  clear hb1
  by_cases hl : (1048576 : Int) < q.sl.length
  · rw [if_pos hl]
    go_wp2_with fail
    go_ret
    exact ⟨rfl, HB.out⟩
  rw [if_neg hl]
  have hn : q.sl.length ≤ 1048576 := by omega
  have hd0 : decide ((1048576 : Int) - (q.sl.length : Int) < 0) = false := by rw [decide_eq_false_iff_not]; omega
  go_wp2_with fail
  refine (szCellS_calls a1 _ _ _ (by omega) (by omega) (S_a1.out.ext HB.out)).mono ?_
  rintro e w1_a1 ⟨rfl, rfl⟩
  by_cases hl_a1 : (1048576 : Int) - (q.sl.length : Int) < (a1.length : Int)
  · rw [if_pos hl_a1]
    go_wp2_with fail
    go_ret
    exact ⟨rfl, HB.out⟩
  rw [if_neg hl_a1]
  have len_a1 : a1.length ≤ 1048576 := by omega
  have hd_a1 : decide ((1048576 : Int) - (q.sl.length : Int) - (a1.length : Int) < 0) = false := by rw [decide_eq_false_iff_not]; omega
  have k0 := KQ.out.cell 0 _ rfl
  have k1 := KQ.out.cell 1 _ rfl
  have k2 := KQ.out.cell 2 _ rfl
  go_wp2_with fail
  refine (toSquare_calls q.w q.h _ q.sl _ (HS0.out.ext HB.out) hn).mono ?_
  rintro e w_1 ⟨z_t1, rfl, hO1, hb1⟩
  have Rt1_ := Lib.hid (hO1.more (show W.heap.size + 1 ≤ _ from KQ.out.lt))
  have HB := Lib.hid (ext_trans HB.out hb1)
  have KQ := Lib.hid (KQ.out.ext hb1)
  have Rt1 := Lib.hid Rt1_.out
  clear Rt1_
  clear hO1 hb1
  clear k0 k1 k2
  go_wp2_with fail
  refine (toCellS_calls a1 _ _ (S_a1.out.ext HB.out) len_a1).mono ?_
  rintro e w_2 ⟨u_t_a1, rfl, hO2, hb2⟩
  have Rt_a1_ := Lib.hid (hO2.more (show W.heap.size + 1 ≤ _ from KQ.out.lt))
  have HB := Lib.hid (ext_trans HB.out hb2)
  have KQ := Lib.hid (KQ.out.ext hb2)
  have Rt1 := Lib.hid (Rt1.out.ext hb2)
  have Rt_a1 := Lib.hid Rt_a1_.out
  clear Rt_a1_
  clear hO2 hb2
  go_wp2_with fail
  refine (toInt64S_calls a2 _ _ (S_a2.out.ext HB.out) len_a2).mono ?_
  rintro e w_3 ⟨u_t_a2, rfl, hO3, hb3⟩
  have Rt_a2_ := Lib.hid (hO3.more (show W.heap.size + 1 ≤ _ from KQ.out.lt))
  have HB := Lib.hid (ext_trans HB.out hb3)
  have KQ := Lib.hid (KQ.out.ext hb3)
  have Rt1 := Lib.hid (Rt1.out.ext hb3)
  have Rt_a1 := Lib.hid (Rt_a1.out.ext hb3)
  have Rt_a2 := Lib.hid Rt_a2_.out
  clear Rt_a2_
  clear hO3 hb3
  go_wp2_with fail
  refine (HSC.out len_a1 len_a2 _ _ _ _ (Rt1.out.sl Slab.c_len) (Rt_a1.out.sl Cell.c_len) (Rt_a2.out.sl i64c_len)).mono ?_
  rintro e w_4 ⟨v_w0, rfl, hO4, hb4⟩
  have HB := Lib.hid (ext_trans HB.out hb4)
  have KQ := Lib.hid (KQ.out.ext hb4)
  have Rt1 := Lib.hid (Rt1.out.ext hb4)
  have Rt_a1 := Lib.hid (Rt_a1.out.ext hb4)
  have Rt_a2 := Lib.hid (Rt_a2.out.ext hb4)
  have BW := Lib.hid (Below.refl w_4.heap.size w_4)
  have RW := Lib.hid hO4
  clear hO4 hb4
  obtain ⟨ww, hww⟩ : ∃ ww : World, ww = w_4 := ⟨_, rfl⟩
  have BW := Lib.hid (show Below ww.heap.size ww w_4 from by rw [hww]; exact BW.out)
  rw [← hww] at RW
  clear hww
  clear Rt1
  clear Rt_a1
  clear Rt_a2
  have k0 := KQ.out.cell 0 _ rfl
  have k1 := KQ.out.cell 1 _ rfl
  have k2 := KQ.out.cell 2 _ rfl
  go_wp2_with fail
  refine (toSquare_calls q.w q.h _ q.sl _ (HS0.out.ext HB.out) hn).mono ?_
  rintro e w_5 ⟨z_x0, rfl, hO5, hb5⟩
  obtain ⟨Ax, capx, rfl, -, -, -⟩ := (hO5.sl Slab.c_len).slab
  have HXBx0 := Lib.hid (show ∀ j, Value.ownBlock (.slice Ax q.sl.length capx) = some j → ww.heap.size ≤ j from fun j hj => Nat.le_trans BW.out.size (hO5.base j hj))
  have Rx0_ := Lib.hid (hO5.more (show W.heap.size + 1 ≤ _ from KQ.out.lt))
  have KX := Lib.hid (Bk.new w_5 34 #[.int .i8 q.w, .int .i8 q.h, .slice Ax q.sl.length capx] w_5.heap.size rfl)
  have HXrx0 := Lib.hid (show ∀ j, (Value.slice Ax q.sl.length capx).ownBlock = some j → w_5.heap.size = j → False from fun j h1 h2 => by have := hO5.lt j h1; omega)
  have hb5 := ext_alloc hb5 (.cells #[.int .i8 q.w, .int .i8 q.h, .slice Ax q.sl.length capx] 34)
  have Rx0_ := Lib.hid (Rx0_.out.alloc (.cells #[.int .i8 q.w, .int .i8 q.h, .slice Ax q.sl.length capx] 34))
  clear k0 k1 k2
  have HB := Lib.hid (ext_trans HB.out hb5)
  have KQ := Lib.hid (KQ.out.ext hb5)
  have BW := Lib.hid (ext_trans BW.out hb5)
  have Rx0 := Lib.hid Rx0_.out
  clear Rx0_
  clear hO5 hb5
  go_wp2_with fail
  generalize w_5.alloc (.cells #[.int .i8 q.w, .int .i8 q.h, .slice Ax q.sl.length capx] 34) = wx at *
  generalize hX : w_5.heap.size = X at *
  clear hX
  refine (toCellS_calls a1 _ _ (S_a1.out.ext HB.out) len_a1).mono ?_
  rintro e w_6 ⟨u_x_a1, rfl, hO6, hb6⟩
  have Dx0_x_a1 := Lib.hid (show Apart (.slice Ax q.sl.length capx) u_x_a1 from fun j h1 h2 => by have := Rx0.out.lt j h1; have := hO6.base j h2; omega)
  have HXBx_a1 := Lib.hid (show ∀ j, Value.ownBlock u_x_a1 = some j → ww.heap.size ≤ j from fun j hj => Nat.le_trans BW.out.size (hO6.base j hj))
  have Rx_a1_ := Lib.hid (hO6.more (show W.heap.size + 1 ≤ _ from KQ.out.lt))
  have HXrx_a1 := Lib.hid (show ∀ j, (u_x_a1).ownBlock = some j → X = j → False from fun j h1 h2 => by have := hO6.base j h1; have := KX.out.lt; omega)
  have HB := Lib.hid (ext_trans HB.out hb6)
  have KQ := Lib.hid (KQ.out.ext hb6)
  have KX := Lib.hid (KX.out.ext hb6)
  have Rx0 := Lib.hid (Rx0.out.ext hb6)
  have BW := Lib.hid (ext_trans BW.out hb6)
  have Rx_a1 := Lib.hid Rx_a1_.out
  clear Rx_a1_
  clear hO6 hb6
  go_wp2_with fail
  refine (toInt64S_calls a2 _ _ (S_a2.out.ext HB.out) len_a2).mono ?_
  rintro e w_7 ⟨u_x_a2, rfl, hO7, hb7⟩
  have Dx0_x_a2 := Lib.hid (show Apart (.slice Ax q.sl.length capx) u_x_a2 from fun j h1 h2 => by have := Rx0.out.lt j h1; have := hO7.base j h2; omega)
  have Dx_a1_x_a2 := Lib.hid (show Apart u_x_a1 u_x_a2 from fun j h1 h2 => by have := Rx_a1.out.lt j h1; have := hO7.base j h2; omega)
  have HXBx_a2 := Lib.hid (show ∀ j, Value.ownBlock u_x_a2 = some j → ww.heap.size ≤ j from fun j hj => Nat.le_trans BW.out.size (hO7.base j hj))
  have Rx_a2_ := Lib.hid (hO7.more (show W.heap.size + 1 ≤ _ from KQ.out.lt))
  have HXrx_a2 := Lib.hid (show ∀ j, (u_x_a2).ownBlock = some j → X = j → False from fun j h1 h2 => by have := hO7.base j h1; have := KX.out.lt; omega)
  have HB := Lib.hid (ext_trans HB.out hb7)
  have KQ := Lib.hid (KQ.out.ext hb7)
  have KX := Lib.hid (KX.out.ext hb7)
  have Rx0 := Lib.hid (Rx0.out.ext hb7)
  have Rx_a1 := Lib.hid (Rx_a1.out.ext hb7)
  have BW := Lib.hid (ext_trans BW.out hb7)
  have Rx_a2 := Lib.hid Rx_a2_.out
  clear Rx_a2_
  clear hO7 hb7
  have k0 := KX.out.cell 0 _ rfl
  have k1 := KX.out.cell 1 _ rfl
  have k2 := KX.out.cell 2 _ rfl
  go_wp2_with fail
  refine (HIC.out len_a1 len_a2 _ _ _ _ (Rx0.out.sl Slab.c_len) (Rx_a1.out.sl Cell.c_len) (Rx_a2.out.sl i64c_len)).mono ?_
  rintro e w_8 ⟨v_g0, rfl, hO8, hb8⟩
  have HXGx0 := Lib.hid (show ∀ j, Value.ownBlock (.slice Ax q.sl.length capx) = some j → j < _ from fun j hj => Rx0.out.lt j hj)
  have HXGx_a1 := Lib.hid (show ∀ j, Value.ownBlock u_x_a1 = some j → j < _ from fun j hj => Rx_a1.out.lt j hj)
  have HXGx_a2 := Lib.hid (show ∀ j, Value.ownBlock u_x_a2 = some j → j < _ from fun j hj => Rx_a2.out.lt j hj)
  have BG1 := Lib.hid KQ.out.lt
  have BG2 := Lib.hid BW.out.size
  clear k0 k1 k2
  have HB := Lib.hid (ext_trans HB.out hb8)
  have KQ := Lib.hid (KQ.out.ext hb8)
  have KX := Lib.hid (KX.out.ext hb8)
  have Rx0 := Lib.hid (Rx0.out.ext hb8)
  have Rx_a1 := Lib.hid (Rx_a1.out.ext hb8)
  have Rx_a2 := Lib.hid (Rx_a2.out.ext hb8)
  have BW := Lib.hid (ext_trans BW.out hb8)
  have BGs := Lib.hid hb8.size
  have Rg0 := Lib.hid hO8
  clear hO8 hb8
  go_wp2_with fail
  refine (eqCellSS_same F.1 v_g0 v_w0 _ _ _ Rg0.out (RW.out.ext BW.out) (by have := HL.out.1; omega)).mono ?_
  rintro e w_9 ⟨rfl, hb9⟩
  have HB := Lib.hid (ext_trans HB.out hb9)
  have KQ := Lib.hid (KQ.out.ext hb9)
  have KX := Lib.hid (KX.out.ext hb9)
  have Rx0 := Lib.hid (Rx0.out.ext hb9)
  have Rx_a1 := Lib.hid (Rx_a1.out.ext hb9)
  have Rx_a2 := Lib.hid (Rx_a2.out.ext hb9)
  have BW := Lib.hid (ext_trans BW.out hb9)
  have Rg0 := Lib.hid (Rg0.out.ext hb9)
  have BGs := Lib.hid (Nat.le_trans BGs.out hb9.size)
  clear hb9
  have hlx := KX.out.lt
  have hlq := KQ.out.lt
  go_wp2_with fail
  obtain ⟨W5, hW5⟩ : ∃ W5 : World, W5 = w_9 := ⟨_, rfl⟩
  subst hW5
  have hS : JxS W5 X W.heap.size q.w q.h (.slice Ax q.sl.length capx) (.slice A q.sl.length cap) W5 := ⟨Below.refl _ _, KX.out.cell 0 _ rfl, KX.out.cell 1 _ rfl, KX.out.cell 2 _ rfl, KQ.out.cell 0 _ rfl, KQ.out.cell 1 _ rfl, KQ.out.cell 2 _ rfl⟩
  refine wp_region_held_drew (S := (JxS W5 X W.heap.size q.w q.h (.slice Ax q.sl.length capx) (.slice A q.sl.length cap))) (by kernel_rfl) ?r31_hS0 (fun hHeld => ?r31_rest)
  case r31_hS0 => (try dsimp only); first | assumption | exact JxS.keep hlx hlq (by assumption) ((Below.refl _ _).drew) | exact JxS.keep hlx hlq (by assumption) (by assumption)
  refine wpAnyH_take (i := 0) (v := ?r31_vv0) (by (simp only [List.getElem?_toArray, List.getElem?_cons_succ, List.getElem?_cons_zero]; rfl)) (by kernel_rfl) (by kernel_rfl) (by kernel_rfl) (by exact fun _ _ _ h => h) (Or.inl ⟨by rfl, ?r31_hy0⟩) (by assumption) ?r31_rest0
  case r31_hy0 => intro w hSw; (try dsimp only at hSw); (go_simp <;> (with_reducible rfl))
  try simp only [Act.put, List.setIfInBounds_toArray, List.set_cons_zero, List.set_cons_succ]
  refine wpAnyH_take (i := 1) (v := ?r31_vv1) (by (simp only [List.getElem?_toArray, List.getElem?_cons_succ, List.getElem?_cons_zero]; rfl)) (by kernel_rfl) (by kernel_rfl) (by kernel_rfl) (by exact fun _ _ _ h => h) (Or.inl ⟨by rfl, ?r31_hy1⟩) (by assumption) ?r31_rest1
  case r31_hy1 => intro w hSw; (try dsimp only at hSw); (go_simp <;> (with_reducible rfl))
  try simp only [Act.put, List.setIfInBounds_toArray, List.set_cons_zero, List.set_cons_succ]
  refine wpAnyH_ready (rs := [2]) (by kernel_rfl) (by simp) ?_
  refine AllReadyH.cons (by (simp only [List.getElem?_toArray, List.getElem?_cons_succ, List.getElem?_cons_zero]; rfl)) (fun K hK => ?_) AllReadyH.nil
  go_simp
  (go_at_call 16; refine (toSquare_calls q.w q.h _ q.sl _ (HS0.out.ext (ext_trans HB.out (And.left (b := _) (by assumption)))) hn).mono ?_; rintro e x9 ⟨z9, rfl, hO9, hb9⟩)
  try go_wp2_with fail
  refine hK.out _ _ ?r31_hS2 (fun hHeld => ?r31_r2)
  case r31_hS2 => (try dsimp only); first | assumption | exact JxS.keep hlx hlq (by assumption) ((Below.refl _ _).drew) | exact JxS.keep hlx hlq (by assumption) (by assumption)
  clear hK K
  try simp only [Act.put, List.setIfInBounds_toArray, List.set_cons_zero, List.set_cons_succ]
  refine wpAnyH_ready (rs := [3]) (by kernel_rfl) (by simp) ?_
  refine AllReadyH.cons (by (simp only [List.getElem?_toArray, List.getElem?_cons_succ, List.getElem?_cons_zero]; rfl)) (fun K hK => ?_) AllReadyH.nil
  go_simp
  (go_at_call 20; refine (eqSquare_calls _ _ _ _ _ _ q.sl q.sl _ ((Rx0.out.sl Slab.c_len).ext (And.left (b := _) (by assumption))) (hO9.sl Slab.c_len) rfl rfl).mono ?_; rintro e w15 ⟨rfl, hb10⟩)
  try go_wp2_with fail
  refine hK.out _ _ ?r31_hS3 (fun hHeld => ?r31_r3)
  case r31_hS3 => (try dsimp only); first | assumption | exact JxS.keep hlx hlq (by assumption) ((Below.refl _ _).drew) | exact JxS.keep hlx hlq (by assumption) (by assumption)
  clear hK K
  try simp only [Act.put, List.setIfInBounds_toArray, List.set_cons_zero, List.set_cons_succ]
  refine wpAnyH_take (i := 4) (v := ?r31_vv4) (by (simp only [List.getElem?_toArray, List.getElem?_cons_succ, List.getElem?_cons_zero]; rfl)) (by kernel_rfl) (by kernel_rfl) (by kernel_rfl) (by exact fun _ _ _ h => h) (Or.inl ⟨by rfl, ?r31_hy4⟩) (by assumption) ?r31_rest4
  case r31_hy4 => intro w hSw; (try dsimp only at hSw); (go_simp <;> (with_reducible rfl))
  try simp only [Act.put, List.setIfInBounds_toArray, List.set_cons_zero, List.set_cons_succ]
  refine wpAnyH_done (by kernel_rfl) ?_ _
  have h9 := And.left (b := _) (show JxS W5 X W.heap.size q.w q.h (.slice Ax q.sl.length capx) (.slice A q.sl.length cap) w15 by assumption)
  have hdq : decide (q.sl = q.sl) = true := by simp
  have HB := Lib.hid (ext_trans HB.out h9)
  have KQ := Lib.hid (KQ.out.ext h9)
  have KX := Lib.hid (KX.out.ext h9)
  have Rx0 := Lib.hid (Rx0.out.ext h9)
  have Rx_a1 := Lib.hid (Rx_a1.out.ext h9)
  have Rx_a2 := Lib.hid (Rx_a2.out.ext h9)
  have BW := Lib.hid (ext_trans BW.out h9)
  have Rg0 := Lib.hid (Rg0.out.ext h9)
  have BGs := Lib.hid (Nat.le_trans BGs.out h9.size)
  clear hS h9 hO9 hb9 hb10 hlx hlq
  repeat clear hHeld
  go_wp2_with fail
  refine (toCellS_calls a1 _ _ (S_a1.out.ext HB.out) len_a1).mono ?_
  rintro e w_11 ⟨u_y_a1, rfl, hO11, hb11⟩
  have Ry_a1_ := Lib.hid (hO11.more (show W.heap.size + 1 ≤ _ from KQ.out.lt))
  have HB := Lib.hid (ext_trans HB.out hb11)
  have KQ := Lib.hid (KQ.out.ext hb11)
  have KX := Lib.hid (KX.out.ext hb11)
  have Rx0 := Lib.hid (Rx0.out.ext hb11)
  have Rx_a1 := Lib.hid (Rx_a1.out.ext hb11)
  have Rx_a2 := Lib.hid (Rx_a2.out.ext hb11)
  have BW := Lib.hid (ext_trans BW.out hb11)
  have Rg0 := Lib.hid (Rg0.out.ext hb11)
  have BGs := Lib.hid (Nat.le_trans BGs.out hb11.size)
  have Ry_a1 := Lib.hid Ry_a1_.out
  clear Ry_a1_
  clear hO11 hb11
  go_wp2_with fail
  refine (eqCellS_calls a1 a1 u_x_a1 u_y_a1 _ (Rx_a1.out.sl Cell.c_len) (Ry_a1.out.sl Cell.c_len)).mono ?_
  rintro e w_12 ⟨rfl, hb12⟩
  have HB := Lib.hid (ext_trans HB.out hb12)
  have KQ := Lib.hid (KQ.out.ext hb12)
  have KX := Lib.hid (KX.out.ext hb12)
  have Rx0 := Lib.hid (Rx0.out.ext hb12)
  have Rx_a1 := Lib.hid (Rx_a1.out.ext hb12)
  have Rx_a2 := Lib.hid (Rx_a2.out.ext hb12)
  have Ry_a1 := Lib.hid (Ry_a1.out.ext hb12)
  have BW := Lib.hid (ext_trans BW.out hb12)
  have Rg0 := Lib.hid (Rg0.out.ext hb12)
  have BGs := Lib.hid (Nat.le_trans BGs.out hb12.size)
  clear hb12
  have hd : decide (a1 = a1) = true := by simp
  rw [hd]
  clear hd
  clear Ry_a1
  go_wp2_with fail
  refine (toInt64S_calls a2 _ _ (S_a2.out.ext HB.out) len_a2).mono ?_
  rintro e w_13 ⟨u_y_a2, rfl, hO13, hb13⟩
  have Ry_a2_ := Lib.hid (hO13.more (show W.heap.size + 1 ≤ _ from KQ.out.lt))
  have HB := Lib.hid (ext_trans HB.out hb13)
  have KQ := Lib.hid (KQ.out.ext hb13)
  have KX := Lib.hid (KX.out.ext hb13)
  have Rx0 := Lib.hid (Rx0.out.ext hb13)
  have Rx_a1 := Lib.hid (Rx_a1.out.ext hb13)
  have Rx_a2 := Lib.hid (Rx_a2.out.ext hb13)
  have BW := Lib.hid (ext_trans BW.out hb13)
  have Rg0 := Lib.hid (Rg0.out.ext hb13)
  have BGs := Lib.hid (Nat.le_trans BGs.out hb13.size)
  have Ry_a2 := Lib.hid Ry_a2_.out
  clear Ry_a2_
  clear hO13 hb13
  go_wp2_with fail
  refine (eqInt64S_calls a2 a2 u_x_a2 u_y_a2 _ (Rx_a2.out.sl i64c_len) (Ry_a2.out.sl i64c_len)).mono ?_
  rintro e w_14 ⟨rfl, hb14⟩
  have HB := Lib.hid (ext_trans HB.out hb14)
  have KQ := Lib.hid (KQ.out.ext hb14)
  have KX := Lib.hid (KX.out.ext hb14)
  have Rx0 := Lib.hid (Rx0.out.ext hb14)
  have Rx_a1 := Lib.hid (Rx_a1.out.ext hb14)
  have Rx_a2 := Lib.hid (Rx_a2.out.ext hb14)
  have Ry_a2 := Lib.hid (Ry_a2.out.ext hb14)
  have BW := Lib.hid (ext_trans BW.out hb14)
  have Rg0 := Lib.hid (Rg0.out.ext hb14)
  have BGs := Lib.hid (Nat.le_trans BGs.out hb14.size)
  clear hb14
  have hd : decide (a2 = a2) = true := by simp
  rw [hd]
  clear hd
  clear Ry_a2
  have k0 := KX.out.cell 0 _ rfl
  have k1 := KX.out.cell 1 _ rfl
  have k2 := KX.out.cell 2 _ rfl
  go_wp2_with fail
  refine (markSquareG_calls q.w q.h _ q.sl _ (W.heap.size + 1) KQ.out.lt Rx0.out 1 (by omega) (by omega) hn).mono ?_
  rintro e w_15 ⟨rfl, hg15⟩
  have HG := Lib.hid hg15
  clear hg15
  have HB := Lib.hid (HB.out.grown HG.out HB.out.size (fun j hj => by have := Rx0.out.base j hj; omega))
  have KQ := Lib.hid (show Bk _ _ _ _ from (HG.out.block _ KQ.out.lt (fun e => by have h1 := Rx0.out.base _ e.symm; omega)).trans KQ.out)
  have KX := Lib.hid (show Bk _ _ _ _ from (HG.out.block _ KX.out.lt (fun e => by have h1 := Rx0.out.base _ e.symm; have := HXrx0.out; exact this _ e.symm rfl)).trans KX.out)
  have BW := Lib.hid (BW.out.grown HG.out BW.out.size HXBx0.out)
  have Rg0 := Lib.hid (Rg0.out.keepG HG.out HXGx0.out)
  have BGs := Lib.hid (Nat.le_trans BGs.out HG.out.size)
  have Rx_a1 := Lib.hid (Rx_a1.out.keep fun j hj => HG.out.block j (Rx_a1.out.lt j hj) (fun e => (fun j h1 h2 => Dx0_x_a1.out j h2 h1) j hj e.symm))
  have Rx_a2 := Lib.hid (Rx_a2.out.keep fun j hj => HG.out.block j (Rx_a2.out.lt j hj) (fun e => (fun j h1 h2 => Dx0_x_a2.out j h2 h1) j hj e.symm))
  clear HG
  clear k0 k1 k2
  clear Rx0
  go_wp2_with fail
  refine (markCellS_calls a1 _ _ (W.heap.size + 1) KQ.out.lt Rx_a1.out ((1 : Int) + 4 * (q.sl.length : Int)) (by omega) (by omega) (by omega)).mono ?_
  rintro e w_16 ⟨rfl, -, -, hg16⟩
  have HG := Lib.hid hg16
  clear hg16
  have HB := Lib.hid (HB.out.grown HG.out HB.out.size (fun j hj => by have := Rx_a1.out.base j hj; omega))
  have KQ := Lib.hid (show Bk _ _ _ _ from (HG.out.block _ KQ.out.lt (fun e => by have h1 := Rx_a1.out.base _ e.symm; omega)).trans KQ.out)
  have KX := Lib.hid (show Bk _ _ _ _ from (HG.out.block _ KX.out.lt (fun e => by have h1 := Rx_a1.out.base _ e.symm; have := HXrx_a1.out; exact this _ e.symm rfl)).trans KX.out)
  have BW := Lib.hid (BW.out.grown HG.out BW.out.size HXBx_a1.out)
  have Rg0 := Lib.hid (Rg0.out.keepG HG.out HXGx_a1.out)
  have BGs := Lib.hid (Nat.le_trans BGs.out HG.out.size)
  have Rx_a2 := Lib.hid (Rx_a2.out.keep fun j hj => HG.out.block j (Rx_a2.out.lt j hj) (fun e => (fun j h1 h2 => Dx_a1_x_a2.out j h2 h1) j hj e.symm))
  clear HG
  clear Rx_a1
  go_wp2_with fail
  refine (markInt64G_calls a2 _ _ (W.heap.size + 1) KQ.out.lt Rx_a2.out ((1 : Int) + 4 * (q.sl.length : Int) + 2 * (a1.length : Int)) (by omega) (by omega) (by omega)).mono ?_
  rintro e w_17 ⟨rfl, -, -, hg17⟩
  have HG := Lib.hid hg17
  clear hg17
  have HB := Lib.hid (HB.out.grown HG.out HB.out.size (fun j hj => by have := Rx_a2.out.base j hj; omega))
  have KQ := Lib.hid (show Bk _ _ _ _ from (HG.out.block _ KQ.out.lt (fun e => by have h1 := Rx_a2.out.base _ e.symm; omega)).trans KQ.out)
  have KX := Lib.hid (show Bk _ _ _ _ from (HG.out.block _ KX.out.lt (fun e => by have h1 := Rx_a2.out.base _ e.symm; have := HXrx_a2.out; exact this _ e.symm rfl)).trans KX.out)
  have BW := Lib.hid (BW.out.grown HG.out BW.out.size HXBx_a2.out)
  have Rg0 := Lib.hid (Rg0.out.keepG HG.out HXGx_a2.out)
  have BGs := Lib.hid (Nat.le_trans BGs.out HG.out.size)
  clear HG
  clear Rx_a2
  clear KX
  have hdk : decide ((1 : Int) + 4 * (q.sl.length : Int) + 2 * (a1.length : Int) + (a2.length : Int) < 0) = false := by rw [decide_eq_false_iff_not]; omega
  go_wp2_with fail
  refine (eqCellSS_same F.1 v_g0 v_w0 _ _ _ Rg0.out (RW.out.ext BW.out) (by have := HL.out.1; omega)).mono ?_
  rintro e w_18 ⟨rfl, hb18⟩
  have HB := Lib.hid (ext_trans HB.out hb18)
  have KQ := Lib.hid (KQ.out.ext hb18)
  have BW := Lib.hid (ext_trans BW.out hb18)
  have Rg0 := Lib.hid (Rg0.out.ext hb18)
  have BGs := Lib.hid (Nat.le_trans BGs.out hb18.size)
  clear hb18
  go_wp2_with fail
  have HMs := HL.out.2
  have HMl := HL.out.1
  refine (markCellSS_calls F.1 _ _ _ BGs.out Rg0.out 1 (by omega) (by omega) (by omega) (by omega)).mono ?_
  rintro e w_19 ⟨rfl, hM19, hm19⟩
  have BGs := Lib.hid (Nat.le_trans BGs.out hm19.size)
  have Rg0 := Lib.hid hM19
  have HB := Lib.hid (HB.out.trans (hm19.mono (Nat.le_trans (Nat.le_succ _) BG1.out)))
  have BW := Lib.hid (BW.out.trans (hm19.mono BG2.out))
  have KQ := Lib.hid (KQ.out.keep BG1.out hm19)
  clear hM19 hm19
  go_wp2_with fail
  refine (heldCellSS_calls F.1 v_g0 _ _ 1 Rg0.out (by omega) (by omega) (by omega) (by omega)).mono ?_
  rintro e w_20 ⟨rfl, hb20⟩
  have HB := Lib.hid (ext_trans HB.out hb20)
  have KQ := Lib.hid (KQ.out.ext hb20)
  have BW := Lib.hid (ext_trans BW.out hb20)
  have Rg0 := Lib.hid (Rg0.out.ext hb20)
  have BGs := Lib.hid (Nat.le_trans BGs.out hb20.size)
  clear hb20
  have hh1 : decide ((1 : Int) + 2 * (tot F.1 : Int) < 0) = false := by rw [decide_eq_false_iff_not]; omega
  have hh2 : (((1 : Int) + 2 * (tot F.1 : Int)) != (1 + 2 * (tot F.1 : Int))) = false := by simp
  have k0 := KQ.out.cell 0 _ rfl
  have k1 := KQ.out.cell 1 _ rfl
  have k2 := KQ.out.cell 2 _ rfl
  go_wp2_with fail
  refine (toSquare_calls q.w q.h _ q.sl _ (HS0.out.ext HB.out) hn).mono ?_
  rintro e w_21 ⟨z_t1, rfl, hO21, hb21⟩
  have Rt1_ := Lib.hid (hO21.more (show W.heap.size + 1 ≤ _ from KQ.out.lt))
  have HB := Lib.hid (ext_trans HB.out hb21)
  have KQ := Lib.hid (KQ.out.ext hb21)
  have BW := Lib.hid (ext_trans BW.out hb21)
  have Rg0 := Lib.hid (Rg0.out.ext hb21)
  have BGs := Lib.hid (Nat.le_trans BGs.out hb21.size)
  have Rt1 := Lib.hid Rt1_.out
  clear Rt1_
  clear hO21 hb21
  clear k0 k1 k2
  go_wp2_with fail
  refine (toCellS_calls a1 _ _ (S_a1.out.ext HB.out) len_a1).mono ?_
  rintro e w_22 ⟨u_t_a1, rfl, hO22, hb22⟩
  have Rt_a1_ := Lib.hid (hO22.more (show W.heap.size + 1 ≤ _ from KQ.out.lt))
  have HB := Lib.hid (ext_trans HB.out hb22)
  have KQ := Lib.hid (KQ.out.ext hb22)
  have Rt1 := Lib.hid (Rt1.out.ext hb22)
  have BW := Lib.hid (ext_trans BW.out hb22)
  have Rg0 := Lib.hid (Rg0.out.ext hb22)
  have BGs := Lib.hid (Nat.le_trans BGs.out hb22.size)
  have Rt_a1 := Lib.hid Rt_a1_.out
  clear Rt_a1_
  clear hO22 hb22
  go_wp2_with fail
  refine (toInt64S_calls a2 _ _ (S_a2.out.ext HB.out) len_a2).mono ?_
  rintro e w_23 ⟨u_t_a2, rfl, hO23, hb23⟩
  have Rt_a2_ := Lib.hid (hO23.more (show W.heap.size + 1 ≤ _ from KQ.out.lt))
  have HB := Lib.hid (ext_trans HB.out hb23)
  have KQ := Lib.hid (KQ.out.ext hb23)
  have Rt1 := Lib.hid (Rt1.out.ext hb23)
  have Rt_a1 := Lib.hid (Rt_a1.out.ext hb23)
  have BW := Lib.hid (ext_trans BW.out hb23)
  have Rg0 := Lib.hid (Rg0.out.ext hb23)
  have BGs := Lib.hid (Nat.le_trans BGs.out hb23.size)
  have Rt_a2 := Lib.hid Rt_a2_.out
  clear Rt_a2_
  clear hO23 hb23
  go_wp2_with fail
  refine (HIC.out len_a1 len_a2 _ _ _ _ (Rt1.out.sl Slab.c_len) (Rt_a1.out.sl Cell.c_len) (Rt_a2.out.sl i64c_len)).mono ?_
  rintro e w_24 ⟨v_h0, rfl, hO24, hb24⟩
  have HB := Lib.hid (ext_trans HB.out hb24)
  have KQ := Lib.hid (KQ.out.ext hb24)
  have Rt1 := Lib.hid (Rt1.out.ext hb24)
  have Rt_a1 := Lib.hid (Rt_a1.out.ext hb24)
  have Rt_a2 := Lib.hid (Rt_a2.out.ext hb24)
  have BW := Lib.hid (ext_trans BW.out hb24)
  have Rg0 := Lib.hid (Rg0.out.ext hb24)
  have BGs := Lib.hid (Nat.le_trans BGs.out hb24.size)
  have Rh0 := Lib.hid hO24
  clear hO24 hb24
  clear Rt1
  clear Rt_a1
  clear Rt_a2
  go_wp2_with fail
  refine (eqCellSS_same F.1 v_h0 v_w0 _ _ _ Rh0.out (RW.out.ext BW.out) (by have := HL.out.1; omega)).mono ?_
  rintro e w_25 ⟨rfl, hb25⟩
  have HB := Lib.hid (ext_trans HB.out hb25)
  have KQ := Lib.hid (KQ.out.ext hb25)
  have BW := Lib.hid (ext_trans BW.out hb25)
  have Rg0 := Lib.hid (Rg0.out.ext hb25)
  have BGs := Lib.hid (Nat.le_trans BGs.out hb25.size)
  clear hb25
  go_wp2_with fail
  refine (heldCellSS_calls F.1 v_g0 _ _ 1 Rg0.out (by omega) (by omega) (by omega) (by omega)).mono ?_
  rintro e w_26 ⟨rfl, hb26⟩
  have HB := Lib.hid (ext_trans HB.out hb26)
  have KQ := Lib.hid (KQ.out.ext hb26)
  have BW := Lib.hid (ext_trans BW.out hb26)
  have Rg0 := Lib.hid (Rg0.out.ext hb26)
  have BGs := Lib.hid (Nat.le_trans BGs.out hb26.size)
  clear hb26
  go_wp2_with fail
  go_ret
  exact ⟨rfl, HB.out⟩
end Go.Proofs.Ytbmkhhhlnollmaa
