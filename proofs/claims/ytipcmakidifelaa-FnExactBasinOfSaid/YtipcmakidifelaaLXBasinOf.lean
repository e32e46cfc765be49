/-
The law on BasinOf, walked: it answers true. Conditions: numbers are of their kinds, slices can be read.
-/
import Derived.Test.YtipcmakidifelaaGL3
import Derived.Test.YtipcmakidifelaaGB2
set_option linter.unusedVariables false
set_option linter.unusedSimpArgs false
set_option maxRecDepth 100000
namespace Go.Proofs.Ytipcmakidifelaa
open Go.RowKit
set_option maxHeartbeats 8000000 in
theorem law_FnExactBasinOf (W : World) (q : Gd) (z : Value) (hs : Sl W W.heap.size Cell.c 2 z q.gl) (hq : q.ok) (n : Int) (hn0 : -9223372036854775808 ≤ n) (hn1 : n ≤ 9223372036854775807) :
    Calls Try.prog 4 #[q.v z, .int .i64 n] W fun e w' => e = .returned (.bool true) ∧ Below W.heap.size W w' := by
  obtain ⟨A, cap, rfl, -, -, -⟩ := hs.cell
  have HSC := Lib.hid (show ∀ z W', Sl W' W'.heap.size Cell.c 2 z q.gl → Calls Try.prog 19 #[.agg (gdA q.w q.h q.hs z), .int .i64 n] W' (RetC2 W' (basinOf q.w q.h q.hs q.gl n)) from fun z W' h0 => have h1 := hq.in_ h0; specBasinOf_calls q.w q.h q.hs q.gl z n W' h1 hn0 hn1)
  have HIC := Lib.hid (show ∀ z W', Sl W' W'.heap.size Cell.c 2 z q.gl → Calls Try.prog 20 #[.agg (gdA q.w q.h q.hs z), .int .i64 n] W' (RetC2 W' (basinOf q.w q.h q.hs q.gl n)) from fun z W' h0 => have h1 := hq.in_ h0; implBasinOf_calls q.w q.h q.hs q.gl z n W' h1 hn0 hn1)
  have HL := Lib.hid (basinOf_len q.w q.h q.hs q.gl n)
  generalize basinOf q.w q.h q.hs q.gl n = F at HSC HIC HL
  have hB := (Below.refl W.heap.size W).alloc (Nat.le_refl _) (.cells (gdA q.w q.h q.hs (.slice A q.gl.length cap)) 28)
  have KQ := Lib.hid (Bk.new W 28 (gdA q.w q.h q.hs (.slice A q.gl.length cap)) W.heap.size rfl)
  have BW := Lib.hid (show W.heap.size + 1 ≤ (W.alloc (.cells (gdA q.w q.h q.hs (.slice A q.gl.length cap)) 28)).heap.size from by simp)
  have HB := Lib.hid hB
  have HB0 := Lib.hid (show Below (W.alloc (.cells (gdA q.w q.h q.hs (.slice A q.gl.length cap)) 28)).heap.size (W.alloc (.cells (gdA q.w q.h q.hs (.slice A q.gl.length cap)) 28)) (W.alloc (.cells (gdA q.w q.h q.hs (.slice A q.gl.length cap)) 28)) from Below.refl _ _)
  have HS0 := Lib.hid hs
  have hgl := hq.hl
  clear hs hB
  unfold Gd.v
  go_enter Try.func4, Try.ntmps4
  go_upto_region 2 with (fail)
  generalize W.alloc (.cells (gdA q.w q.h q.hs (.slice A q.gl.length cap)) 28) = W1 at *
  have ldq := load_lg hgl KQ.out
  go_wp2_with (refine wpList_load_w rfl 28 (.tmp 2) rfl _ rfl _ ldq ?_)
  refine (szGround_calls q.w q.h q.hs hgl _ q.gl _ _ (by omega) (by omega) (HS0.out.ext HB.out)).mono ?_
  rintro e w1 ⟨rfl, hb1⟩
  clear ldq
  have HB := Lib.hid (ext_trans HB.out hb1)
  have KQ := Lib.hid (KQ.out.ext hb1)
  have HB0 := Lib.hid (ext_trans HB0.out hb1)
  clear hb1
  by_cases hl : (1048576 : Int) < q.gl.length
  · rw [if_pos hl]
    go_wp2_with fail
    go_ret
    exact ⟨rfl, HB.out⟩
  rw [if_neg hl]
  have hn : q.gl.length ≤ 1048576 := by omega
  have hd0 : decide ((1048576 : Int) - (q.gl.length : Int) < 0) = false := by rw [decide_eq_false_iff_not]; omega
  have ldq := load_lg hgl KQ.out
  go_wp2_with (refine wpList_load_w rfl 28 (.tmp 2) rfl _ rfl _ ldq ?_)
  refine (toGround_calls q.w q.h q.hs hgl _ q.gl _ (HS0.out.ext HB.out) hn).mono ?_
  rintro e x1 ⟨z1, rfl, hO1, hb1⟩
  clear ldq
  go_wp2_with fail
  refine (HSC.out _ _ (hO1.sl Cell.c_len)).mono ?_
  rintro e w_1 ⟨v_w0, rfl, hP1, hd1⟩
  have hP1 := (hP1).more hb1.size
  have Rw0_ := Lib.hid (hP1.more (Nat.le_trans BW.out HB0.out.size))
  have h9 := ext_trans hb1 hd1
  have HB := Lib.hid (ext_trans HB.out h9)
  have KQ := Lib.hid (KQ.out.ext h9)
  have HB0 := Lib.hid (ext_trans HB0.out h9)
  have Rw0 := Lib.hid Rw0_.out
  clear Rw0_
  clear h9 hO1 hb1 hP1 hd1
  have ldq := load_lg hgl KQ.out
  go_wp2_with (refine wpList_load_w rfl 28 (.tmp 2) rfl _ rfl _ ldq ?_)
  refine (toGround_calls q.w q.h q.hs hgl _ q.gl _ (HS0.out.ext HB.out) hn).mono ?_
  rintro e x2 ⟨z_x0, rfl, hO2, hb2⟩
  obtain ⟨Ax, capx, rfl, -, -, -⟩ := (hO2.sl Cell.c_len).cell
  clear ldq
  have Dw0_x0 := Lib.hid (show ∀ j, Value.ownBlock v_w0 = some j → Value.ownBlock (.slice Ax q.gl.length capx) = some j → False from fun j h1 h2 => by have := Rw0.out.lt j h1; have := hO2.base j h2; omega)
  have Rx0_ := Lib.hid (hO2.more (Nat.le_trans BW.out HB0.out.size))
  have HB := Lib.hid (ext_trans HB.out hb2)
  have KQ := Lib.hid (KQ.out.ext hb2)
  have Rw0 := Lib.hid (Rw0.out.ext hb2)
  have HB0 := Lib.hid (ext_trans HB0.out hb2)
  have Rx0 := Lib.hid Rx0_.out
  clear Rx0_
  clear hO2 hb2
  have hba := (Below.refl x2.heap.size x2).alloc (Nat.le_refl _) (.cells Try.zeroCells36 36)
  obtain ⟨X, hX⟩ : ∃ X, X = x2.heap.size := ⟨_, rfl⟩
  have KX0 := Lib.hid (Bk.new x2 36 Try.zeroCells36 X hX)
  have hXx0 := Lib.hid (show ∀ j, (Value.slice Ax q.gl.length capx).ownBlock = some j → j < X from fun j hj => by rw [hX]; exact Rx0.out.lt j hj)
  have hXw0 := Lib.hid (show ∀ j, (v_w0).ownBlock = some j → j < X from fun j hj => by rw [hX]; exact Rw0.out.lt j hj)
  have hXq := Lib.hid (show W.heap.size + 1 < X + 1 from by have := BW.out; have := HB0.out.size; omega)
  have HB := Lib.hid (ext_trans HB.out hba)
  have KQ := Lib.hid (KQ.out.ext hba)
  have Rw0 := Lib.hid (Rw0.out.ext hba)
  have Rx0 := Lib.hid (Rx0.out.ext hba)
  have HB0 := Lib.hid (ext_trans HB0.out hba)
  clear hba
  go_wp2_with (refine wpList_store_m rfl 36 (.tmp 8) (.tmp 29) rfl _ 0 (gdA q.w q.h q.hs (.slice Ax q.gl.length capx)) rfl rfl _ _ (hX ▸ KX0.out) (by rw [gdA_size _ _ _ _ hgl, zG_size]; omega) (by rw [gdA_size _ _ _ _ hgl]; exact gd_sz _) (gdA_one _ _ _ _ _ _) ?_)
  rw [← hX]
  intro w_3 hK hG
  rw [gdA_zero _ _ _ hgl] at hK
  have KX := Lib.hid hK
  have HB := Lib.hid (HB.out.grown hG HB.out.size (fun j hj => by injection hj with hj; have := hXq.out; omega))
  have HB0s := Lib.hid (Nat.le_trans HB0.out.size hG.size)
  have KQ := Lib.hid (show Bk w_3 _ _ _ from (hG.block _ KQ.out.lt (fun e => by injection e with e; have := hXq.out; omega)).trans KQ.out)
  have Rw0 := Lib.hid (Rw0.out.keep fun j hj => hG.block j (Rw0.out.lt j hj) (fun e => by injection e with e; have := hXw0.out j hj; omega))
  have Rx0 := Lib.hid (Rx0.out.keep fun j hj => hG.block j (Rx0.out.lt j hj) (fun e => by injection e with e; have := hXx0.out j hj; omega))
  clear hK hG KX0 hX HB0
  have ldx := load_gd hgl KX.out
  go_wp2_with (refine wpList_load_w rfl 36 (.tmp 8) rfl _ rfl _ ldx ?_)
  refine (HIC.out _ _ (Rx0.out.sl Cell.c_len)).mono ?_
  rintro e w_4 ⟨v_g0, rfl, hP4, hd4⟩
  clear ldx
  have Dw0_g0 := Lib.hid (show ∀ j, Value.ownBlock v_w0 = some j → Value.ownBlock v_g0 = some j → False from fun j h1 h2 => by have := Rw0.out.lt j h1; have := hP4.base j h2; omega)
  have Dx0_g0 := Lib.hid (show ∀ j, Value.ownBlock (.slice Ax q.gl.length capx) = some j → Value.ownBlock v_g0 = some j → False from fun j h1 h2 => by have := Rx0.out.lt j h1; have := hP4.base j h2; omega)
  have hXg0 := Lib.hid (show ∀ j, Value.ownBlock v_g0 = some j → j ≠ X from fun j hj => by have := hP4.base j hj; have := KX.out.lt; omega)
  have Rg0_ := Lib.hid (hP4.more (Nat.le_trans BW.out HB0s.out))
  have HB := Lib.hid (ext_trans HB.out hd4)
  have KQ := Lib.hid (KQ.out.ext hd4)
  have KX := Lib.hid (KX.out.ext hd4)
  have Rw0 := Lib.hid (Rw0.out.ext hd4)
  have Rx0 := Lib.hid (Rx0.out.ext hd4)
  have HB0s := Lib.hid (Nat.le_trans HB0s.out hd4.size)
  have Rg0 := Lib.hid Rg0_.out
  clear Rg0_
  clear hP4 hd4
  have hcode : (F.2 != F.2) = false := by simp
  go_wp2_with fail
  refine (eqCellS_calls F.1 F.1 v_g0 v_w0 _ (Rg0.out.sl Cell.c_len) (Rw0.out.sl Cell.c_len)).mono ?_
  rintro e w_5 ⟨rfl, hb5⟩
  have HB := Lib.hid (ext_trans HB.out hb5)
  have KQ := Lib.hid (KQ.out.ext hb5)
  have KX := Lib.hid (KX.out.ext hb5)
  have Rw0 := Lib.hid (Rw0.out.ext hb5)
  have Rx0 := Lib.hid (Rx0.out.ext hb5)
  have Rg0 := Lib.hid (Rg0.out.ext hb5)
  have HB0s := Lib.hid (Nat.le_trans HB0s.out hb5.size)
  clear hb5
  have hd : decide (F.1 = F.1) = true := by simp
  rw [hd]
  clear hd
  go_wp2_with fail
  have HS := Lib.hid (LwG.first hgl hgl KX.out KQ.out)
  refine wp_region_held_drew (S := (LwG w_5 X W.heap.size (gdA q.w q.h q.hs (.slice Ax q.gl.length capx)) (gdA q.w q.h q.hs (.slice A q.gl.length cap)))) (by kernel_rfl) ?r23_hS0 (fun hHeld => ?r23_rest)
  case r23_hS0 => (try dsimp only); first | assumption | exact HS.out _ (kp0 _) | exact HS.out _ (Below.refl _ _) | exact HS.out _ (kp1 (And.left (b := _) (by assumption))) | exact HS.out _ (ext_trans (And.left (b := _) (by assumption)) (by assumption))
  refine wpAnyH_take (i := 0) (v := ?r23_vv0) (by (simp only [List.getElem?_toArray, List.getElem?_cons_succ, List.getElem?_cons_zero]; rfl)) (by kernel_rfl) (by kernel_rfl) (by kernel_rfl) (by exact fun _ _ _ h => h) (Or.inl ⟨by rfl, ?r23_hy0⟩) (by assumption) ?r23_rest0
  case r23_hy0 => intro w hSw; (try dsimp only at hSw); refine (exec_load rfl rfl hSw.2.1).trans ?_; with_reducible rfl
  try simp only [Act.put, List.setIfInBounds_toArray, List.set_cons_zero, List.set_cons_succ]
  refine wpAnyH_take (i := 1) (v := ?r23_vv1) (by (simp only [List.getElem?_toArray, List.getElem?_cons_succ, List.getElem?_cons_zero]; rfl)) (by kernel_rfl) (by kernel_rfl) (by kernel_rfl) (by exact fun _ _ _ h => h) (Or.inl ⟨by rfl, ?r23_hy1⟩) (by assumption) ?r23_rest1
  case r23_hy1 => intro w hSw; (try dsimp only at hSw); refine (exec_load rfl rfl hSw.2.2).trans ?_; with_reducible rfl
  try simp only [Act.put, List.setIfInBounds_toArray, List.set_cons_zero, List.set_cons_succ]
  refine wpAnyH_ready (rs := [2]) (by kernel_rfl) (by simp) ?_
  refine AllReadyH.cons (by (simp only [List.getElem?_toArray, List.getElem?_cons_succ, List.getElem?_cons_zero]; rfl)) (fun K hK => ?_) AllReadyH.nil
  go_simp
  (go_at_call 11; refine (toGround_calls q.w q.h q.hs hgl _ q.gl _ (HS0.out.ext (ext_trans HB.out (And.left (b := _) (by assumption)))) hn).mono ?_; rintro e x6 ⟨z6, rfl, hO6, hb6⟩)
  try go_wp2_with fail
  refine hK.out _ _ ?r23_hS2 (fun hHeld => ?r23_r2)
  case r23_hS2 => (try dsimp only); first | assumption | exact HS.out _ (kp0 _) | exact HS.out _ (Below.refl _ _) | exact HS.out _ (kp1 (And.left (b := _) (by assumption))) | exact HS.out _ (ext_trans (And.left (b := _) (by assumption)) (by assumption))
  clear hK K
  try simp only [Act.put, List.setIfInBounds_toArray, List.set_cons_zero, List.set_cons_succ]
  refine wpAnyH_ready (rs := [3]) (by kernel_rfl) (by simp) ?_
  refine AllReadyH.cons (by (simp only [List.getElem?_toArray, List.getElem?_cons_succ, List.getElem?_cons_zero]; rfl)) (fun K hK => ?_) AllReadyH.nil
  go_simp
  (go_at_call 15; refine (eqGround_calls q.w q.h q.hs hgl _ _ q.gl _ ((Rx0.out.sl Cell.c_len).ext (And.left (b := _) (by assumption))) (hO6.sl Cell.c_len)).mono ?_; rintro e w_6 ⟨rfl, hc6⟩)
  try go_wp2_with fail
  refine hK.out _ _ ?r23_hS3 (fun hHeld => ?r23_r3)
  case r23_hS3 => (try dsimp only); first | assumption | exact HS.out _ (kp0 _) | exact HS.out _ (Below.refl _ _) | exact HS.out _ (kp1 (And.left (b := _) (by assumption))) | exact HS.out _ (ext_trans (And.left (b := _) (by assumption)) (by assumption))
  clear hK K
  try simp only [Act.put, List.setIfInBounds_toArray, List.set_cons_zero, List.set_cons_succ]
  refine wpAnyH_take (i := 4) (v := ?r23_vv4) (by (simp only [List.getElem?_toArray, List.getElem?_cons_succ, List.getElem?_cons_zero]; rfl)) (by kernel_rfl) (by kernel_rfl) (by kernel_rfl) (by exact fun _ _ _ h => h) (Or.inl ⟨by rfl, ?r23_hy4⟩) (by assumption) ?r23_rest4
  case r23_hy4 => intro w hSw; (try dsimp only at hSw); (go_simp <;> (with_reducible rfl))
  try simp only [Act.put, List.setIfInBounds_toArray, List.set_cons_zero, List.set_cons_succ]
  refine wpAnyH_done (by kernel_rfl) ?_ _
  have h9 := And.left (b := _) (show LwG w_5 X W.heap.size (gdA q.w q.h q.hs (.slice Ax q.gl.length capx)) (gdA q.w q.h q.hs (.slice A q.gl.length cap)) w_6 by assumption)
  have HB := Lib.hid (ext_trans HB.out h9)
  have KQ := Lib.hid (KQ.out.ext h9)
  have KX := Lib.hid (KX.out.ext h9)
  have Rw0 := Lib.hid (Rw0.out.ext h9)
  have Rx0 := Lib.hid (Rx0.out.ext h9)
  have Rg0 := Lib.hid (Rg0.out.ext h9)
  have HB0s := Lib.hid (Nat.le_trans HB0s.out h9.size)
  clear h9 HS hO6 hb6 hc6
  repeat clear hHeld
  have ldx := load_gd hgl KX.out
  go_wp2_with (refine wpList_load_w rfl 36 (.tmp 8) rfl _ rfl _ ldx ?_)
  clear ldx
  refine (markGround_calls q.w q.h q.hs hgl _ q.gl _ (W.heap.size + 1) (Nat.le_trans BW.out HB0s.out) Rx0.out 1 (by omega) (by omega) hn).mono ?_
  rintro e w_7 ⟨rfl, hM7, hg7⟩
  have HB := Lib.hid (HB.out.grown hg7 HB.out.size (fun j hj => by have := Rx0.out.base j hj; omega))
  have HB0s := Lib.hid (Nat.le_trans HB0s.out hg7.size)
  have KQ := Lib.hid (show Bk w_7 _ _ _ from (hg7.block _ KQ.out.lt (fun e => by have h1 := Rx0.out.base _ e.symm; omega)).trans KQ.out)
  have KX := Lib.hid (show Bk w_7 _ _ _ from (hg7.block _ KX.out.lt (fun e => by have h1 := Rx0.out.base _ e.symm; exact absurd (hXx0.out _ e.symm) (by omega))).trans KX.out)
  have Rw0 := Lib.hid (Rw0.out.keep fun j hj => hg7.block j (Rw0.out.lt j hj) (fun e => Dw0_x0.out j hj e.symm))
  have Rg0 := Lib.hid (Rg0.out.keep fun j hj => hg7.block j (Rg0.out.lt j hj) (fun e => (fun j h1 h2 => Dx0_g0.out j h2 h1) j hj e.symm))
  have Rx0 := Lib.hid hM7
  clear hM7 hg7
  clear Rx0
  have hk0 : decide ((1 : Int) + 2 * (q.gl.length : Int) < 0) = false := by rw [decide_eq_false_iff_not]; omega
  go_wp2_with fail
  refine (eqCellS_calls F.1 F.1 v_g0 v_w0 _ (Rg0.out.sl Cell.c_len) (Rw0.out.sl Cell.c_len)).mono ?_
  rintro e w_8 ⟨rfl, hb8⟩
  have HB := Lib.hid (ext_trans HB.out hb8)
  have KQ := Lib.hid (KQ.out.ext hb8)
  have KX := Lib.hid (KX.out.ext hb8)
  have Rw0 := Lib.hid (Rw0.out.ext hb8)
  have Rg0 := Lib.hid (Rg0.out.ext hb8)
  have HB0s := Lib.hid (Nat.le_trans HB0s.out hb8.size)
  clear hb8
  have hd : decide (F.1 = F.1) = true := by simp
  rw [hd]
  clear hd
  have hlen := HL.out
  go_wp2_with fail
  refine (markCellS_calls F.1 _ _ (W.heap.size + 1) (Nat.le_trans BW.out HB0s.out) Rg0.out 1 (by omega) (by omega) (by omega)).mono ?_
  rintro e w_9 ⟨rfl, hM9, -, hg9⟩
  have HB := Lib.hid (HB.out.grown hg9 HB.out.size (fun j hj => by have := Rg0.out.base j hj; omega))
  have HB0s := Lib.hid (Nat.le_trans HB0s.out hg9.size)
  have KQ := Lib.hid (show Bk w_9 _ _ _ from (hg9.block _ KQ.out.lt (fun e => by have h1 := Rg0.out.base _ e.symm; omega)).trans KQ.out)
  have KX := Lib.hid (show Bk w_9 _ _ _ from (hg9.block _ KX.out.lt (fun e => by have h1 := Rg0.out.base _ e.symm; exact hXg0.out _ e.symm rfl)).trans KX.out)
  have Rw0 := Lib.hid (Rw0.out.keep fun j hj => hg9.block j (Rw0.out.lt j hj) (fun e => Dw0_g0.out j hj e.symm))
  have Rg0 := Lib.hid hM9
  clear hM9 hg9
  have hk1 : decide ((1 : Int) + 2 * (F.1.length : Int) < 0) = false := by rw [decide_eq_false_iff_not]; omega
  have hk2 : ((1 : Int) + 2 * (F.1.length : Int) != 1 + 2 * (F.1.length : Int)) = false := by simp
  go_wp2_with fail
  refine (heldCellS_calls F.1.length _ _ 1 (Rg0.out.sl Cell.c_len) (by omega) (by omega) (by omega)).mono ?_
  rintro e w_10 ⟨rfl, hb10⟩
  have HB := Lib.hid (ext_trans HB.out hb10)
  have KQ := Lib.hid (KQ.out.ext hb10)
  have KX := Lib.hid (KX.out.ext hb10)
  have Rw0 := Lib.hid (Rw0.out.ext hb10)
  have Rg0 := Lib.hid (Rg0.out.ext hb10)
  have HB0s := Lib.hid (Nat.le_trans HB0s.out hb10.size)
  clear hb10
  clear KX
  have ldq := load_lg hgl KQ.out
  go_wp2_with (refine wpList_load_w rfl 28 (.tmp 2) rfl _ rfl _ ldq ?_)
  refine (toGround_calls q.w q.h q.hs hgl _ q.gl _ (HS0.out.ext HB.out) hn).mono ?_
  rintro e x11 ⟨z11, rfl, hO11, hb11⟩
  clear ldq
  go_wp2_with fail
  refine (HIC.out _ _ (hO11.sl Cell.c_len)).mono ?_
  rintro e w_11 ⟨v_h0, rfl, hP11, hd11⟩
  have hP11 := (hP11).more hb11.size
  have Rh0_ := Lib.hid (hP11.more (Nat.le_trans BW.out HB0s.out))
  have h9 := ext_trans hb11 hd11
  have HB := Lib.hid (ext_trans HB.out h9)
  have KQ := Lib.hid (KQ.out.ext h9)
  have Rw0 := Lib.hid (Rw0.out.ext h9)
  have Rg0 := Lib.hid (Rg0.out.ext h9)
  have HB0s := Lib.hid (Nat.le_trans HB0s.out h9.size)
  have Rh0 := Lib.hid Rh0_.out
  clear Rh0_
  clear h9 hO11 hb11 hP11 hd11
  go_wp2_with fail
  refine (eqCellS_calls F.1 F.1 v_h0 v_w0 _ (Rh0.out.sl Cell.c_len) (Rw0.out.sl Cell.c_len)).mono ?_
  rintro e w_12 ⟨rfl, hb12⟩
  have HB := Lib.hid (ext_trans HB.out hb12)
  have KQ := Lib.hid (KQ.out.ext hb12)
  have Rw0 := Lib.hid (Rw0.out.ext hb12)
  have Rg0 := Lib.hid (Rg0.out.ext hb12)
  have Rh0 := Lib.hid (Rh0.out.ext hb12)
  have HB0s := Lib.hid (Nat.le_trans HB0s.out hb12.size)
  clear hb12
  have hd : decide (F.1 = F.1) = true := by simp
  rw [hd]
  clear hd
  go_wp2_with fail
  refine (heldCellS_calls F.1.length _ _ 1 (Rg0.out.sl Cell.c_len) (by omega) (by omega) (by omega)).mono ?_
  rintro e w_13 ⟨rfl, hb13⟩
  have HB := Lib.hid (ext_trans HB.out hb13)
  have KQ := Lib.hid (KQ.out.ext hb13)
  have Rw0 := Lib.hid (Rw0.out.ext hb13)
  have Rg0 := Lib.hid (Rg0.out.ext hb13)
  have Rh0 := Lib.hid (Rh0.out.ext hb13)
  have HB0s := Lib.hid (Nat.le_trans HB0s.out hb13.size)
  clear hb13
  go_wp2_with fail
  go_ret
  exact ⟨rfl, HB.out⟩
end Go.Proofs.Ytipcmakidifelaa
