/-
The law on MirrorGround, walked: it answers true. Conditions: numbers are of their kinds, slices can be read.
-/
import Derived.Test.YtipcmakidifelaaGL3
import Derived.Test.YtipcmakidifelaaGM4
set_option linter.unusedVariables false
set_option linter.unusedSimpArgs false
set_option maxRecDepth 100000
namespace Go.Proofs.Ytipcmakidifelaa
open Go.RowKit
theorem wpList_load_gw {P : Program} {ops : Array Oper} {rest : List Oper} {o : Oper} {a : Act} {w : World} {Q : Exit → Act → World → Prop} (hw : Region.wanted o (yielded ops a.tmps) = true) (ty : TypeId) (x : Operand) (ho : o.op = .load ty x)
    (p : Addr) (hx : a.eval x = .pointer (some p)) (v : Value) (h : (loadVar ty p).run P w = .ok v w) (hK : wpList P ops Q rest (a.put o.dst v) w) : wpList P ops Q (o :: rest) a w := by
  refine wpList_step fun K' hK' => ?_
  rw [if_pos hw]
  unfold Oper.wp execOp
  simp only [ho, hx, Instr.loadAt, Instr.sureAddr, Sem.run_bind, Sem.run_pure, Result.andThen_ok, h]
  exact hK' _ _ hK
set_option maxHeartbeats 8000000 in
theorem law_FnExactMirrorGround (W : World) (q : Gd) (z : Value) (hs : Sl W W.heap.size Cell.c 2 z q.gl) (hq : q.ok) :
    Calls Try.prog 8 #[q.v z] W fun e w' => e = .returned (.bool true) ∧ Below W.heap.size W w' := by
  obtain ⟨A, cap, rfl, -, -, -⟩ := hs.cell
  have HSC := Lib.hid (show ∀ z W', Sl W' W'.heap.size Cell.c 2 z q.gl → Calls Try.prog 29 #[.agg (gdA q.w q.h q.hs z)] W' (RetG1 W' (mirG q.w q.h q.hs q.gl)) from fun z W' h0 => specMirrorGround_calls q.w q.h q.hs q.gl z W' (hq.in_ h0))
  have HIC := Lib.hid (show ∀ z W', Sl W' W'.heap.size Cell.c 2 z q.gl → Calls Try.prog 30 #[.agg (gdA q.w q.h q.hs z)] W' (RetG1 W' (mirG q.w q.h q.hs q.gl)) from fun z W' h0 => implMirrorGround_calls q.w q.h q.hs q.gl z W' (hq.in_ h0))
  have hFl := Lib.hid (mirG_hs (w := q.w) (h := q.h) (hs := q.hs) (gl := q.gl))
  have hFg := Lib.hid (mirG_gl (w := q.w) (h := q.h) (hs := q.hs) (gl := q.gl))
  generalize mirG q.w q.h q.hs q.gl = F at HSC HIC hFl hFg
  have KQ := Lib.hid (Bk.new W 28 (gdA q.w q.h q.hs (.slice A q.gl.length cap)) W.heap.size rfl)
  have HB := Lib.hid ((Below.refl W.heap.size W).alloc (Nat.le_refl _) (.cells (gdA q.w q.h q.hs (.slice A q.gl.length cap)) 28))
  have HS0 := Lib.hid hs
  have hgl := hq.hl
  have hch := Lib.hid (show True ∧ 0 ≤ W.heap.size from ⟨trivial, Nat.zero_le _⟩)
  clear hs
  unfold Gd.v
  go_enter Try.func8, Try.ntmps8
  go_upto_region 2 with (fail)
  generalize W.alloc (.cells (gdA q.w q.h q.hs (.slice A q.gl.length cap)) 28) = W1 at *
  have ldq := load_lg hgl KQ.out
  go_wp2_with (refine wpList_load_w rfl 28 (.tmp 1) rfl _ rfl _ ldq ?_)
  refine (szGround_calls q.w q.h q.hs hgl _ q.gl _ _ (by omega) (by omega) (HS0.out.ext HB.out)).mono ?_
  rintro e w1 ⟨rfl, hb1⟩
  clear ldq
  have HB := Lib.hid (ext_trans HB.out hb1)
  have KQ := Lib.hid (KQ.out.ext hb1)
  clear hb1
  by_cases hl : (1048576 : Int) < q.gl.length
  · rw [if_pos hl]
    go_wp2_with fail
    go_ret
    exact ⟨rfl, HB.out⟩
  rw [if_neg hl]
  have hn : q.gl.length ≤ 1048576 := by omega
  have hd0 : decide ((1048576 : Int) - (q.gl.length : Int) < 0) = false := by rw [decide_eq_false_iff_not]; omega
  have ldq := load_lg hgl KQ.out
  go_wp2_with (refine wpList_load_w rfl 28 (.tmp 1) rfl _ rfl _ ldq ?_)
  refine (toGround_calls q.w q.h q.hs hgl _ q.gl _ (HS0.out.ext HB.out) hn).mono ?_
  rintro e x1 ⟨z1, rfl, hO1, hb1⟩
  clear ldq
  have hsz1 := Lib.hid hb1.size
  go_wp2_with fail
  refine (HSC.out _ _ (hO1.sl Cell.c_len)).mono ?_
  rintro e w1_ ⟨v_w0, rfl, hP1, hd1⟩
  have hb1 := ext_trans hb1 hd1
  have hpv := Lib.hid (show W.heap.size < x1.heap.size from Nat.lt_of_lt_of_le KQ.out.lt (show w1.heap.size ≤ x1.heap.size from hsz1.out))
  have HB := Lib.hid (ext_trans HB.out hb1)
  have KQ := Lib.hid (KQ.out.ext hb1)
  clear hb1
  have olw0 := Lib.hid (show ∀ j, Value.ownBlock v_w0 = some j → W.heap.size < j from fun j hj => by have h1 := hP1.base j hj; have h2 := hpv.out; omega)
  have Rw0 := Lib.hid (hP1.more (show W.heap.size + 1 ≤ _ from by have h2 := hpv.out; have h3 := hch.out; omega))
  obtain ⟨Aw0, capw0, hvw0, -, -, -⟩ := (hP1.sl Cell.c_len).cell
  have Vw0 := Lib.hid hvw0
  clear hd1 hO1 hP1 hpv hvw0 hsz1
  have hOne := show Own _ _ _ _ _ _ _ from Rw0.out
  have ouw0 := Lib.hid (show ∀ j, Value.ownBlock v_w0 = some j → j < w1_.heap.size from fun j hj => Rw0.out.lt j hj)
  have hln := Lib.hid (show W.heap.size < w1_.heap.size from KQ.out.lt)
  have K0 := Lib.hid (Bk.new w1_ 36 Try.zeroCells36 w1_.heap.size rfl)
  have HB := Lib.hid (HB.out.alloc HB.out.size (.cells Try.zeroCells36 36))
  have KQ := Lib.hid (KQ.out.alloc (.cells Try.zeroCells36 36))
  have hrw0 := Lib.hid (fun j hj => Rw0.out.lt j hj)
  have Rw0 := Lib.hid (Rw0.out.alloc (.cells Try.zeroCells36 36))
  go_wp2_with (refine wpList_store_m rfl 36 (.tmp 4) (.tmp 23) rfl _ 0 (gdA F.gd.w F.gd.h F.gd.hs v_w0) rfl rfl _ _ K0.out (by rw [gdA_size _ _ _ _ hFl.out, zG_size]; omega) (by rw [gdA_size _ _ _ _ hFl.out]; exact gd_sz _) (by first | exact gdA_one _ _ _ _ _ _ | exact gdA_one' _ _ _ (by assumption)) ?_)
  intro wb2 hK hG
  rw [gdA_zero _ _ _ hFl.out] at hK
  have HB := Lib.hid (HB.out.grown hG HB.out.size (fun j hj => by injection hj with hj; have h1 := hch.out; have h2 := hln.out; omega))
  have KQ := Lib.hid (KQ.out.grownM hG (by have h1 := hch.out; have h2 := hln.out; omega))
  have Rw0 := Lib.hid (Rw0.out.keep fun j hj => hG.block j (Rw0.out.lt j hj) (fun e => by injection e with e; have := hrw0.out j hj; omega))
  have KS := Lib.hid hK
  have hch := Lib.hid (And.intro hch.out hln.out)
  clear hK hG K0 hln hrw0
  generalize w1_.heap.size = bS at *
  clear hOne
  have ldq := load_lg hgl KQ.out
  go_wp2_with (refine wpList_load_w rfl 28 (.tmp 1) rfl _ rfl _ ldq ?_)
  refine (toGround_calls q.w q.h q.hs hgl _ q.gl _ (HS0.out.ext HB.out) hn).mono ?_
  rintro e x3 ⟨zx, rfl, hO3, hb3⟩
  clear ldq
  obtain ⟨Ax, capx, rfl, -, -, -⟩ := (hO3.sl Cell.c_len).cell
  have hpv := Lib.hid (show bS < wb2.heap.size from KS.out.lt)
  have HB := Lib.hid (ext_trans HB.out hb3)
  have KQ := Lib.hid (KQ.out.ext hb3)
  have KS := Lib.hid (KS.out.ext hb3)
  have Rw0 := Lib.hid (Rw0.out.ext hb3)
  clear hb3
  have olx0 := Lib.hid (show ∀ j, Value.ownBlock (.slice Ax q.gl.length capx) = some j → bS < j from fun j hj => by have h1 := hO3.base j hj; have h2 := hpv.out; omega)
  have Rx0 := Lib.hid (hO3.more (show W.heap.size + 1 ≤ _ from by have h2 := hpv.out; have h3 := hch.out; omega))
  clear hO3 hpv
  have oux0 := Lib.hid (show ∀ j, Value.ownBlock (.slice Ax q.gl.length capx) = some j → j < x3.heap.size from fun j hj => Rx0.out.lt j hj)
  have hln := Lib.hid (show bS < x3.heap.size from KS.out.lt)
  have K0 := Lib.hid (Bk.new x3 36 Try.zeroCells36 x3.heap.size rfl)
  have HB := Lib.hid (HB.out.alloc HB.out.size (.cells Try.zeroCells36 36))
  have KQ := Lib.hid (KQ.out.alloc (.cells Try.zeroCells36 36))
  have KS := Lib.hid (KS.out.alloc (.cells Try.zeroCells36 36))
  have hrw0 := Lib.hid (fun j hj => Rw0.out.lt j hj)
  have Rw0 := Lib.hid (Rw0.out.alloc (.cells Try.zeroCells36 36))
  have hrx0 := Lib.hid (fun j hj => Rx0.out.lt j hj)
  have Rx0 := Lib.hid (Rx0.out.alloc (.cells Try.zeroCells36 36))
  go_wp2_with (refine wpList_store_m rfl 36 (.tmp 6) (.tmp 26) rfl _ 0 (gdA q.w q.h q.hs (.slice Ax q.gl.length capx)) rfl rfl _ _ K0.out (by rw [gdA_size _ _ _ _ hgl, zG_size]; omega) (by rw [gdA_size _ _ _ _ hgl]; exact gd_sz _) (by first | exact gdA_one _ _ _ _ _ _ | exact gdA_one' _ _ _ (by assumption)) ?_)
  intro wb4 hK hG
  rw [gdA_zero _ _ _ hgl] at hK
  have HB := Lib.hid (HB.out.grown hG HB.out.size (fun j hj => by injection hj with hj; have h1 := hch.out; have h2 := hln.out; omega))
  have KQ := Lib.hid (KQ.out.grownM hG (by have h1 := hch.out; have h2 := hln.out; omega))
  have KS := Lib.hid (KS.out.grownM hG (by have h1 := hch.out; have h2 := hln.out; omega))
  have Rw0 := Lib.hid (Rw0.out.keep fun j hj => hG.block j (Rw0.out.lt j hj) (fun e => by injection e with e; have := hrw0.out j hj; omega))
  have Rx0 := Lib.hid (Rx0.out.keep fun j hj => hG.block j (Rx0.out.lt j hj) (fun e => by injection e with e; have := hrx0.out j hj; omega))
  have KX := Lib.hid hK
  have hch := Lib.hid (And.intro hch.out hln.out)
  clear hK hG K0 hln hrw0 hrx0
  generalize x3.heap.size = bX at *
  have ldx := load_gd hgl KX.out
  go_wp2_with (refine wpList_load_w rfl 36 (.tmp 6) rfl _ rfl _ ldx ?_)
  refine (HIC.out _ _ (Rx0.out.sl Cell.c_len)).mono ?_
  rintro e w5_ ⟨v_g0, rfl, hP5, hb5⟩
  clear ldx
  have hpv := Lib.hid (show bX < wb4.heap.size from KX.out.lt)
  have HB := Lib.hid (ext_trans HB.out hb5)
  have KQ := Lib.hid (KQ.out.ext hb5)
  have KS := Lib.hid (KS.out.ext hb5)
  have KX := Lib.hid (KX.out.ext hb5)
  have Rw0 := Lib.hid (Rw0.out.ext hb5)
  have Rx0 := Lib.hid (Rx0.out.ext hb5)
  clear hb5
  have olg0 := Lib.hid (show ∀ j, Value.ownBlock v_g0 = some j → bX < j from fun j hj => by have h1 := hP5.base j hj; have h2 := hpv.out; omega)
  have Rg0 := Lib.hid (hP5.more (show W.heap.size + 1 ≤ _ from by have h2 := hpv.out; have h3 := hch.out; omega))
  obtain ⟨Ag0, capg0, hvg0, -, -, -⟩ := (hP5.sl Cell.c_len).cell
  have Vg0 := Lib.hid hvg0
  clear hP5 hpv hvg0
  have hOne := show Own _ _ _ _ _ _ _ from Rg0.out
  have oug0 := Lib.hid (show ∀ j, Value.ownBlock v_g0 = some j → j < w5_.heap.size from fun j hj => Rg0.out.lt j hj)
  have hln := Lib.hid (show bX < w5_.heap.size from KX.out.lt)
  have K0 := Lib.hid (Bk.new w5_ 36 Try.zeroCells36 w5_.heap.size rfl)
  have HB := Lib.hid (HB.out.alloc HB.out.size (.cells Try.zeroCells36 36))
  have KQ := Lib.hid (KQ.out.alloc (.cells Try.zeroCells36 36))
  have KS := Lib.hid (KS.out.alloc (.cells Try.zeroCells36 36))
  have KX := Lib.hid (KX.out.alloc (.cells Try.zeroCells36 36))
  have hrw0 := Lib.hid (fun j hj => Rw0.out.lt j hj)
  have Rw0 := Lib.hid (Rw0.out.alloc (.cells Try.zeroCells36 36))
  have hrx0 := Lib.hid (fun j hj => Rx0.out.lt j hj)
  have Rx0 := Lib.hid (Rx0.out.alloc (.cells Try.zeroCells36 36))
  have hrg0 := Lib.hid (fun j hj => Rg0.out.lt j hj)
  have Rg0 := Lib.hid (Rg0.out.alloc (.cells Try.zeroCells36 36))
  go_wp2_with (refine wpList_store_m rfl 36 (.tmp 7) (.tmp 30) rfl _ 0 (gdA F.gd.w F.gd.h F.gd.hs v_g0) rfl rfl _ _ K0.out (by rw [gdA_size _ _ _ _ hFl.out, zG_size]; omega) (by rw [gdA_size _ _ _ _ hFl.out]; exact gd_sz _) (by first | exact gdA_one _ _ _ _ _ _ | exact gdA_one' _ _ _ (by assumption)) ?_)
  intro wb6 hK hG
  rw [gdA_zero _ _ _ hFl.out] at hK
  have HB := Lib.hid (HB.out.grown hG HB.out.size (fun j hj => by injection hj with hj; have h1 := hch.out; have h2 := hln.out; omega))
  have KQ := Lib.hid (KQ.out.grownM hG (by have h1 := hch.out; have h2 := hln.out; omega))
  have KS := Lib.hid (KS.out.grownM hG (by have h1 := hch.out; have h2 := hln.out; omega))
  have KX := Lib.hid (KX.out.grownM hG (by have h1 := hch.out; have h2 := hln.out; omega))
  have Rw0 := Lib.hid (Rw0.out.keep fun j hj => hG.block j (Rw0.out.lt j hj) (fun e => by injection e with e; have := hrw0.out j hj; omega))
  have Rx0 := Lib.hid (Rx0.out.keep fun j hj => hG.block j (Rx0.out.lt j hj) (fun e => by injection e with e; have := hrx0.out j hj; omega))
  have Rg0 := Lib.hid (Rg0.out.keep fun j hj => hG.block j (Rg0.out.lt j hj) (fun e => by injection e with e; have := hrg0.out j hj; omega))
  have KG := Lib.hid hK
  have hch := Lib.hid (And.intro hch.out hln.out)
  clear hK hG K0 hln hrw0 hrx0 hrg0
  generalize w5_.heap.size = bG at *
  clear hOne
  have hi_code : (F.code != F.code) = false := by simp
  have lda := load_gd hFl.out KG.out
  have ldb := load_gd hFl.out KS.out
  go_wp2_with (first | (refine wpList_load_w rfl 36 (.tmp 7) rfl _ rfl _ lda ?_) | (refine wpList_load_w rfl 36 (.tmp 4) rfl _ rfl _ ldb ?_))
  refine (eqGround_calls F.gd.w F.gd.h F.gd.hs hFl.out _ _ F.gd.gl _ (Rg0.out.sl Cell.c_len) (Rw0.out.sl Cell.c_len)).mono ?_
  rintro e w7_ ⟨rfl, hb7⟩
  clear lda ldb
  have HB := Lib.hid (ext_trans HB.out hb7)
  have KQ := Lib.hid (KQ.out.ext hb7)
  have KS := Lib.hid (KS.out.ext hb7)
  have KX := Lib.hid (KX.out.ext hb7)
  have KG := Lib.hid (KG.out.ext hb7)
  have Rw0 := Lib.hid (Rw0.out.ext hb7)
  have Rx0 := Lib.hid (Rx0.out.ext hb7)
  have Rg0 := Lib.hid (Rg0.out.ext hb7)
  clear hb7
  go_wp2_with fail
  have HS := Lib.hid (LwG.first hgl hgl KX.out KQ.out)
  refine wp_region_held_drew (S := (LwG w7_ bX W.heap.size (gdA q.w q.h q.hs (.slice Ax q.gl.length capx)) (gdA q.w q.h q.hs (.slice A q.gl.length cap)))) (by kernel_rfl) ?r5_hS0 (fun hHeld => ?r5_rest)
  case r5_hS0 => (try dsimp only); first | assumption | exact HS.out _ (kp0 _) | exact HS.out _ (Below.refl _ _) | exact HS.out _ (kp1 (And.left (b := _) (by assumption))) | exact HS.out _ (ext_trans (And.left (b := _) (by assumption)) (by assumption))
  refine wpAnyH_take (i := 0) (v := ?r5_vv0) (by (simp only [List.getElem?_toArray, List.getElem?_cons_succ, List.getElem?_cons_zero]; rfl)) (by kernel_rfl) (by kernel_rfl) (by kernel_rfl) (by exact fun _ _ _ h => h) (Or.inl ⟨by rfl, ?r5_hy0⟩) (by assumption) ?r5_rest0
  case r5_hy0 => intro w hSw; (try dsimp only at hSw); refine (exec_load rfl rfl hSw.2.1).trans ?_; with_reducible rfl
  try simp only [Act.put, List.setIfInBounds_toArray, List.set_cons_zero, List.set_cons_succ]
  refine wpAnyH_take (i := 1) (v := ?r5_vv1) (by (simp only [List.getElem?_toArray, List.getElem?_cons_succ, List.getElem?_cons_zero]; rfl)) (by kernel_rfl) (by kernel_rfl) (by kernel_rfl) (by exact fun _ _ _ h => h) (Or.inl ⟨by rfl, ?r5_hy1⟩) (by assumption) ?r5_rest1
  case r5_hy1 => intro w hSw; (try dsimp only at hSw); refine (exec_load rfl rfl hSw.2.2).trans ?_; with_reducible rfl
  try simp only [Act.put, List.setIfInBounds_toArray, List.set_cons_zero, List.set_cons_succ]
  refine wpAnyH_ready (rs := [2]) (by kernel_rfl) (by simp) ?_
  refine AllReadyH.cons (by (simp only [List.getElem?_toArray, List.getElem?_cons_succ, List.getElem?_cons_zero]; rfl)) (fun K hK => ?_) AllReadyH.nil
  go_simp
  (go_at_call 11; refine (toGround_calls q.w q.h q.hs hgl _ q.gl _ (HS0.out.ext (ext_trans HB.out (And.left (b := _) (by assumption)))) hn).mono ?_; rintro e x9 ⟨z9, rfl, hO9, hb9⟩)
  try go_wp2_with fail
  refine hK.out _ _ ?r5_hS2 (fun hHeld => ?r5_r2)
  case r5_hS2 => (try dsimp only); first | assumption | exact HS.out _ (kp0 _) | exact HS.out _ (Below.refl _ _) | exact HS.out _ (kp1 (And.left (b := _) (by assumption))) | exact HS.out _ (ext_trans (And.left (b := _) (by assumption)) (by assumption))
  clear hK K
  try simp only [Act.put, List.setIfInBounds_toArray, List.set_cons_zero, List.set_cons_succ]
  refine wpAnyH_ready (rs := [3]) (by kernel_rfl) (by simp) ?_
  refine AllReadyH.cons (by (simp only [List.getElem?_toArray, List.getElem?_cons_succ, List.getElem?_cons_zero]; rfl)) (fun K hK => ?_) AllReadyH.nil
  go_simp
  (go_at_call 15; refine (eqGround_calls q.w q.h q.hs hgl _ _ q.gl _ ((Rx0.out.sl Cell.c_len).ext (And.left (b := _) (by assumption))) (hO9.sl Cell.c_len)).mono ?_; rintro e wz ⟨rfl, hc9⟩)
  try go_wp2_with fail
  refine hK.out _ _ ?r5_hS3 (fun hHeld => ?r5_r3)
  case r5_hS3 => (try dsimp only); first | assumption | exact HS.out _ (kp0 _) | exact HS.out _ (Below.refl _ _) | exact HS.out _ (kp1 (And.left (b := _) (by assumption))) | exact HS.out _ (ext_trans (And.left (b := _) (by assumption)) (by assumption))
  clear hK K
  try simp only [Act.put, List.setIfInBounds_toArray, List.set_cons_zero, List.set_cons_succ]
  refine wpAnyH_take (i := 4) (v := ?r5_vv4) (by (simp only [List.getElem?_toArray, List.getElem?_cons_succ, List.getElem?_cons_zero]; rfl)) (by kernel_rfl) (by kernel_rfl) (by kernel_rfl) (by exact fun _ _ _ h => h) (Or.inl ⟨by rfl, ?r5_hy4⟩) (by assumption) ?r5_rest4
  case r5_hy4 => intro w hSw; (try dsimp only at hSw); (go_simp <;> (with_reducible rfl))
  try simp only [Act.put, List.setIfInBounds_toArray, List.set_cons_zero, List.set_cons_succ]
  refine wpAnyH_done (by kernel_rfl) ?_ _
  have h9 := And.left (b := _) (show LwG w7_ bX W.heap.size (gdA q.w q.h q.hs (.slice Ax q.gl.length capx)) (gdA q.w q.h q.hs (.slice A q.gl.length cap)) wz by assumption)
  clear HS hO9 hb9 hc9
  repeat clear hHeld
  have HB := Lib.hid (ext_trans HB.out h9)
  have KQ := Lib.hid (KQ.out.ext h9)
  have KS := Lib.hid (KS.out.ext h9)
  have KX := Lib.hid (KX.out.ext h9)
  have KG := Lib.hid (KG.out.ext h9)
  have Rw0 := Lib.hid (Rw0.out.ext h9)
  have Rx0 := Lib.hid (Rx0.out.ext h9)
  have Rg0 := Lib.hid (Rg0.out.ext h9)
  clear h9
  have ldx := load_gd hgl KX.out
  go_wp2_with (refine wpList_load_w rfl 36 (.tmp 6) rfl _ rfl _ ldx ?_)
  clear ldx
  have hws := Lib.hid (show W.heap.size + 1 ≤ wz.heap.size from KQ.out.lt)
  refine (markGround_calls q.w q.h q.hs hgl _ q.gl _ (W.heap.size + 1) hws.out Rx0.out 1 (by omega) (by omega) hn).mono ?_
  rintro e w9_ ⟨rfl, hM, hg⟩
  have HB := Lib.hid (HB.out.grown hg HB.out.size (fun j hj => by have h1 := hch.out; have h2 := olx0.out _ hj; omega))
  have KQ := Lib.hid (show Bk w9_ _ _ _ from (hg.block _ KQ.out.lt (fun e => by have h1 := hch.out; have h2 := olx0.out _ e.symm; have h3 := oux0.out _ e.symm; omega)).trans KQ.out)
  have KS := Lib.hid (show Bk w9_ _ _ _ from (hg.block _ KS.out.lt (fun e => by have h1 := hch.out; have h2 := olx0.out _ e.symm; have h3 := oux0.out _ e.symm; omega)).trans KS.out)
  have KX := Lib.hid (show Bk w9_ _ _ _ from (hg.block _ KX.out.lt (fun e => by have h1 := hch.out; have h2 := olx0.out _ e.symm; have h3 := oux0.out _ e.symm; omega)).trans KX.out)
  have KG := Lib.hid (show Bk w9_ _ _ _ from (hg.block _ KG.out.lt (fun e => by have h1 := hch.out; have h2 := olx0.out _ e.symm; have h3 := oux0.out _ e.symm; omega)).trans KG.out)
  have Rw0 := Lib.hid (Rw0.out.keep fun j hj => hg.block j (Rw0.out.lt j hj) (fun e => by have h4 := olw0.out j hj; have h5 := ouw0.out j hj; have h1 := hch.out; have h2 := olx0.out _ e.symm; have h3 := oux0.out _ e.symm; omega))
  have Rg0 := Lib.hid (Rg0.out.keep fun j hj => hg.block j (Rg0.out.lt j hj) (fun e => by have h4 := olg0.out j hj; have h5 := oug0.out j hj; have h1 := hch.out; have h2 := olx0.out _ e.symm; have h3 := oux0.out _ e.symm; omega))
  have Rx0 := Lib.hid hM
  clear hM hg
  clear hws
  clear Rx0
  have hk0 : decide ((1 : Int) + 2 * (q.gl.length : Int) < 0) = false := by rw [decide_eq_false_iff_not]; omega
  have lda := load_gd hFl.out KG.out
  have ldb := load_gd hFl.out KS.out
  go_wp2_with (first | (refine wpList_load_gw (by rfl) 36 (.tmp 7) rfl _ rfl _ lda ?_) | (refine wpList_load_gw (by rfl) 36 (.tmp 4) rfl _ rfl _ ldb ?_))
  refine (eqGround_calls F.gd.w F.gd.h F.gd.hs hFl.out _ _ F.gd.gl _ (Rg0.out.sl Cell.c_len) (Rw0.out.sl Cell.c_len)).mono ?_
  rintro e w10_ ⟨rfl, hb10⟩
  clear lda ldb
  have HB := Lib.hid (ext_trans HB.out hb10)
  have KQ := Lib.hid (KQ.out.ext hb10)
  have KS := Lib.hid (KS.out.ext hb10)
  have KX := Lib.hid (KX.out.ext hb10)
  have KG := Lib.hid (KG.out.ext hb10)
  have Rw0 := Lib.hid (Rw0.out.ext hb10)
  have Rg0 := Lib.hid (Rg0.out.ext hb10)
  clear hb10
  go_wp2_with (have ldg := load_gd hFl.out KG.out; refine wpList_load_w rfl 36 (.tmp 7) rfl _ rfl _ ldg ?_)
  have hg8 := hFg.out
  have hws := Lib.hid (show W.heap.size + 1 ≤ w10_.heap.size from KQ.out.lt)
  refine (markGround_calls F.gd.w F.gd.h F.gd.hs hFl.out _ F.gd.gl _ (W.heap.size + 1) hws.out Rg0.out 1 (by omega) (by omega) (by omega)).mono ?_
  rintro e w11_ ⟨rfl, hM, hg⟩
  have HB := Lib.hid (HB.out.grown hg HB.out.size (fun j hj => by have h1 := hch.out; have h2 := olg0.out _ hj; omega))
  have KQ := Lib.hid (show Bk w11_ _ _ _ from (hg.block _ KQ.out.lt (fun e => by have h1 := hch.out; have h2 := olg0.out _ e.symm; have h3 := oug0.out _ e.symm; omega)).trans KQ.out)
  have KS := Lib.hid (show Bk w11_ _ _ _ from (hg.block _ KS.out.lt (fun e => by have h1 := hch.out; have h2 := olg0.out _ e.symm; have h3 := oug0.out _ e.symm; omega)).trans KS.out)
  have KX := Lib.hid (show Bk w11_ _ _ _ from (hg.block _ KX.out.lt (fun e => by have h1 := hch.out; have h2 := olg0.out _ e.symm; have h3 := oug0.out _ e.symm; omega)).trans KX.out)
  have KG := Lib.hid (show Bk w11_ _ _ _ from (hg.block _ KG.out.lt (fun e => by have h1 := hch.out; have h2 := olg0.out _ e.symm; have h3 := oug0.out _ e.symm; omega)).trans KG.out)
  have Rw0 := Lib.hid (Rw0.out.keep fun j hj => hg.block j (Rw0.out.lt j hj) (fun e => by have h4 := olw0.out j hj; have h5 := ouw0.out j hj; have h1 := hch.out; have h2 := olg0.out _ e.symm; have h3 := oug0.out _ e.symm; omega))
  have Rg0 := Lib.hid hM
  clear hM hg
  clear hws
  have hk1 : decide ((1 : Int) + 2 * (F.gd.gl.length : Int) < 0) = false := by rw [decide_eq_false_iff_not]; omega
  have hk2 : ((1 : Int) + 2 * (F.gd.gl.length : Int) != 1 + 2 * (F.gd.gl.length : Int)) = false := by simp
  go_wp2_with (have ldg := load_gd hFl.out KG.out; refine wpList_load_w rfl 36 (.tmp 7) rfl _ rfl _ ldg ?_)
  refine (heldGround_calls F.gd.w F.gd.h F.gd.hs hFl.out _ F.gd.gl.length _ 1 (Rg0.out.sl Cell.c_len) (by omega) (by omega) (by omega)).mono ?_
  rintro e w12_ ⟨rfl, hb12⟩
  have HB := Lib.hid (ext_trans HB.out hb12)
  have KQ := Lib.hid (KQ.out.ext hb12)
  have KS := Lib.hid (KS.out.ext hb12)
  have KX := Lib.hid (KX.out.ext hb12)
  have KG := Lib.hid (KG.out.ext hb12)
  have Rw0 := Lib.hid (Rw0.out.ext hb12)
  have Rg0 := Lib.hid (Rg0.out.ext hb12)
  clear hb12
  have ldq := load_lg hgl KQ.out
  go_wp2_with (refine wpList_load_w rfl 28 (.tmp 1) rfl _ rfl _ ldq ?_)
  refine (toGround_calls q.w q.h q.hs hgl _ q.gl _ (HS0.out.ext HB.out) hn).mono ?_
  rintro e x13 ⟨z13, rfl, hO13, hb13⟩
  clear ldq
  have hsz13 := Lib.hid hb13.size
  go_wp2_with fail
  refine (HIC.out _ _ (hO13.sl Cell.c_len)).mono ?_
  rintro e w13_ ⟨v_h0, rfl, hP13, hd13⟩
  have hb13 := ext_trans hb13 hd13
  have hpv := Lib.hid (show bG < x13.heap.size from Nat.lt_of_lt_of_le KG.out.lt (show w12_.heap.size ≤ x13.heap.size from hsz13.out))
  have HB := Lib.hid (ext_trans HB.out hb13)
  have KQ := Lib.hid (KQ.out.ext hb13)
  have KS := Lib.hid (KS.out.ext hb13)
  have KX := Lib.hid (KX.out.ext hb13)
  have KG := Lib.hid (KG.out.ext hb13)
  have Rw0 := Lib.hid (Rw0.out.ext hb13)
  have Rg0 := Lib.hid (Rg0.out.ext hb13)
  clear hb13
  have olh0 := Lib.hid (show ∀ j, Value.ownBlock v_h0 = some j → bG < j from fun j hj => by have h1 := hP13.base j hj; have h2 := hpv.out; omega)
  have Rh0 := Lib.hid (hP13.more (show W.heap.size + 1 ≤ _ from by have h2 := hpv.out; have h3 := hch.out; omega))
  obtain ⟨Ah0, caph0, hvh0, -, -, -⟩ := (hP13.sl Cell.c_len).cell
  have Vh0 := Lib.hid hvh0
  clear hd13 hO13 hP13 hpv hvh0 hsz13
  have hOne := show Own _ _ _ _ _ _ _ from Rh0.out
  have ouh0 := Lib.hid (show ∀ j, Value.ownBlock v_h0 = some j → j < w13_.heap.size from fun j hj => Rh0.out.lt j hj)
  have hln := Lib.hid (show bG < w13_.heap.size from KG.out.lt)
  have K0 := Lib.hid (Bk.new w13_ 36 Try.zeroCells36 w13_.heap.size rfl)
  have HB := Lib.hid (HB.out.alloc HB.out.size (.cells Try.zeroCells36 36))
  have KQ := Lib.hid (KQ.out.alloc (.cells Try.zeroCells36 36))
  have KS := Lib.hid (KS.out.alloc (.cells Try.zeroCells36 36))
  have KX := Lib.hid (KX.out.alloc (.cells Try.zeroCells36 36))
  have KG := Lib.hid (KG.out.alloc (.cells Try.zeroCells36 36))
  have hrw0 := Lib.hid (fun j hj => Rw0.out.lt j hj)
  have Rw0 := Lib.hid (Rw0.out.alloc (.cells Try.zeroCells36 36))
  have hrg0 := Lib.hid (fun j hj => Rg0.out.lt j hj)
  have Rg0 := Lib.hid (Rg0.out.alloc (.cells Try.zeroCells36 36))
  have hrh0 := Lib.hid (fun j hj => Rh0.out.lt j hj)
  have Rh0 := Lib.hid (Rh0.out.alloc (.cells Try.zeroCells36 36))
  go_wp2_with (refine wpList_store_m rfl 36 (.tmp 12) (.tmp 77) rfl _ 0 (gdA F.gd.w F.gd.h F.gd.hs v_h0) rfl rfl _ _ K0.out (by rw [gdA_size _ _ _ _ hFl.out, zG_size]; omega) (by rw [gdA_size _ _ _ _ hFl.out]; exact gd_sz _) (by first | exact gdA_one _ _ _ _ _ _ | exact gdA_one' _ _ _ (by assumption)) ?_)
  intro wb14 hK hG
  rw [gdA_zero _ _ _ hFl.out] at hK
  have HB := Lib.hid (HB.out.grown hG HB.out.size (fun j hj => by injection hj with hj; have h1 := hch.out; have h2 := hln.out; omega))
  have KQ := Lib.hid (KQ.out.grownM hG (by have h1 := hch.out; have h2 := hln.out; omega))
  have KS := Lib.hid (KS.out.grownM hG (by have h1 := hch.out; have h2 := hln.out; omega))
  have KX := Lib.hid (KX.out.grownM hG (by have h1 := hch.out; have h2 := hln.out; omega))
  have KG := Lib.hid (KG.out.grownM hG (by have h1 := hch.out; have h2 := hln.out; omega))
  have Rw0 := Lib.hid (Rw0.out.keep fun j hj => hG.block j (Rw0.out.lt j hj) (fun e => by injection e with e; have := hrw0.out j hj; omega))
  have Rg0 := Lib.hid (Rg0.out.keep fun j hj => hG.block j (Rg0.out.lt j hj) (fun e => by injection e with e; have := hrg0.out j hj; omega))
  have Rh0 := Lib.hid (Rh0.out.keep fun j hj => hG.block j (Rh0.out.lt j hj) (fun e => by injection e with e; have := hrh0.out j hj; omega))
  have KH := Lib.hid hK
  have hch := Lib.hid (And.intro hch.out hln.out)
  clear hK hG K0 hln hrw0 hrg0 hrh0
  generalize w13_.heap.size = bH at *
  clear hOne
  have lda := load_gd hFl.out KH.out
  have ldb := load_gd hFl.out KS.out
  go_wp2_with (first | (refine wpList_load_w rfl 36 (.tmp 12) rfl _ rfl _ lda ?_) | (refine wpList_load_w rfl 36 (.tmp 4) rfl _ rfl _ ldb ?_))
  refine (eqGround_calls F.gd.w F.gd.h F.gd.hs hFl.out _ _ F.gd.gl _ (Rh0.out.sl Cell.c_len) (Rw0.out.sl Cell.c_len)).mono ?_
  rintro e w15_ ⟨rfl, hb15⟩
  clear lda ldb
  have HB := Lib.hid (ext_trans HB.out hb15)
  have KQ := Lib.hid (KQ.out.ext hb15)
  have KS := Lib.hid (KS.out.ext hb15)
  have KX := Lib.hid (KX.out.ext hb15)
  have KG := Lib.hid (KG.out.ext hb15)
  have KH := Lib.hid (KH.out.ext hb15)
  have Rw0 := Lib.hid (Rw0.out.ext hb15)
  have Rg0 := Lib.hid (Rg0.out.ext hb15)
  have Rh0 := Lib.hid (Rh0.out.ext hb15)
  clear hb15
  go_wp2_with (have ldg := load_gd hFl.out KG.out; refine wpList_load_w rfl 36 (.tmp 7) rfl _ rfl _ ldg ?_)
  refine (heldGround_calls F.gd.w F.gd.h F.gd.hs hFl.out _ F.gd.gl.length _ 1 (Rg0.out.sl Cell.c_len) (by omega) (by omega) (by omega)).mono ?_
  rintro e w16_ ⟨rfl, hb16⟩
  have HB := Lib.hid (ext_trans HB.out hb16)
  have KQ := Lib.hid (KQ.out.ext hb16)
  have KS := Lib.hid (KS.out.ext hb16)
  have KX := Lib.hid (KX.out.ext hb16)
  have KG := Lib.hid (KG.out.ext hb16)
  have KH := Lib.hid (KH.out.ext hb16)
  have Rw0 := Lib.hid (Rw0.out.ext hb16)
  have Rg0 := Lib.hid (Rg0.out.ext hb16)
  have Rh0 := Lib.hid (Rh0.out.ext hb16)
  clear hb16
  go_wp2_with fail
  go_ret
  exact ⟨rfl, HB.out⟩
end Go.Proofs.Ytipcmakidifelaa
