/-
The law on GroundText, walked: it answers true. Conditions: numbers are of their kinds, slices can be read.
-/
import Derived.Test.YthlcmiediedcfaaDoorGL3
import Derived.Test.YthlcmiediedcfaaDoorTX5
set_option linter.unusedVariables false
set_option linter.unusedSimpArgs false
set_option maxRecDepth 100000
namespace Go.Proofs.YthlcmiediedcfaaDoor
open Go.RowKit
theorem Bk.grownM {w w' : World} {g m : Nat} {T : TypeId} {cs : Array Value} (h : Bk w g T cs) (hG : w.grownBy w' (some m)) (hne : g ≠ m) : Bk w' g T cs := (hG.block g h.lt (fun e => by injection e with e; exact hne e)).trans h
theorem Own.grownM {α : Type} {w w' : World} {B m : Nat} {E : TypeId} {c : α → List Value} {sz : Nat} {v : Value} {xs : List α} (h : Own w B E c sz v xs) (hG : w.grownBy w' (some m)) (hm : m < B) : Own w' B E c sz v xs := h.keep (fun k hk => hG.block k (h.lt k hk) (fun e => by injection e with e; have := h.base k hk; omega))
def RetS (W : World) (F : List UInt8) (e : Ending) (w' : World) : Prop := e = .returned (str F) ∧ Below W.heap.size W w'
set_option maxHeartbeats 8000000 in
theorem law_FnExactGroundText (W : World) (ht : TabP W) (q : Gd) (z : Value) (hs : Sl W W.heap.size Cell.c 2 z q.gl) (hq : q.ok) :
    Calls Tryd.prog 5 #[q.v z] W fun e w' => e = .returned (.bool true) ∧ Below W.heap.size W w' := by
  obtain ⟨A, cap, rfl, -, -, -⟩ := hs.cell
  have HSC := Lib.hid (show ∀ z W', Sl W' W'.heap.size Cell.c 2 z q.gl → Calls Tryd.prog 22 #[.agg (gdA q.w q.h q.hs z)] W' (RetS W' (groundT q.w q.h q.hs q.gl)) from fun z W' h0 => specGroundText_calls q.w q.h q.hs q.gl z W' (hq.in_ h0))
  have HIC := Lib.hid (show ∀ z W', TabP W' → Sl W' W'.heap.size Cell.c 2 z q.gl → Calls Tryd.prog 24 #[.agg (gdA q.w q.h q.hs z)] W' (RetS W' (groundT q.w q.h q.hs q.gl)) from fun z W' hT h0 => implGroundText_calls q.w q.h q.hs q.gl z W' hT (hq.in_ h0))
  generalize groundT q.w q.h q.hs q.gl = F at HSC HIC
  have KQ := Lib.hid (Bk.new W 49 (gdA q.w q.h q.hs (.slice A q.gl.length cap)) W.heap.size rfl)
  have HB := Lib.hid ((Below.refl W.heap.size W).alloc (Nat.le_refl _) (.cells (gdA q.w q.h q.hs (.slice A q.gl.length cap)) 49))
  have HS0 := Lib.hid hs
  have HT := Lib.hid ht
  clear ht
  have hgl := hq.hl
  clear hs
  unfold Gd.v
  go_enter Tryd.func5, Tryd.ntmps5
  go_upto_region 2 with (fail)
  generalize W.alloc (.cells (gdA q.w q.h q.hs (.slice A q.gl.length cap)) 49) = W1 at *
  have ldq := load_lg hgl KQ.out
  go_wp2_with (refine wpList_load_w rfl 49 (.tmp 1) rfl _ rfl _ ldq ?_)
  refine (szGround_calls q.w q.h q.hs hgl _ q.gl _ _ (by omega) (by omega) (HS0.out.ext HB.out)).mono ?_
  rintro e w1 ⟨rfl, hb1⟩
  clear ldq
  have HB := Lib.hid (ext_trans HB.out hb1)
  have KQ := Lib.hid (KQ.out.ext hb1)
  clear hb1
  by_cases hl : (1048576 : Int) < q.gl.length
  · rw [if_pos hl]
    go_wp2_with fail
    go_ret
    exact ⟨rfl, HB.out⟩
  rw [if_neg hl]
  have hn : q.gl.length ≤ 1048576 := by omega
  have hd0 : decide ((1048576 : Int) - (q.gl.length : Int) < 0) = false := by rw [decide_eq_false_iff_not]; omega
  have ldq := load_lg hgl KQ.out
  go_wp2_with (refine wpList_load_w rfl 49 (.tmp 1) rfl _ rfl _ ldq ?_)
  refine (toGround_calls q.w q.h q.hs hgl _ q.gl _ (HS0.out.ext HB.out) hn).mono ?_
  rintro e x1 ⟨z1, rfl, hO1, hb1⟩
  clear ldq
  go_wp2_with fail
  refine (HSC.out _ _ (hO1.sl Cell.c_len)).mono ?_
  rintro e w2 ⟨rfl, hd2⟩
  have HB := Lib.hid (ext_trans (ext_trans HB.out hb1) hd2)
  have KQ := Lib.hid ((KQ.out.ext hb1).ext hd2)
  clear hO1 hb1 hd2
  have ldq := load_lg hgl KQ.out
  go_wp2_with (refine wpList_load_w rfl 49 (.tmp 1) rfl _ rfl _ ldq ?_)
  refine (toGround_calls q.w q.h q.hs hgl _ q.gl _ (HS0.out.ext HB.out) hn).mono ?_
  rintro e x4 ⟨z4, rfl, hO4, hb4⟩
  obtain ⟨Ax, capx, rfl, -, -, -⟩ := (hO4.sl Cell.c_len).cell
  clear ldq
  have HB := Lib.hid (ext_trans HB.out hb4)
  have KQ := Lib.hid (KQ.out.ext hb4)
  have hltKQ := Lib.hid KQ.out.lt
  have RX := Lib.hid (hO4.alloc (.cells Tryd.zeroCells54 54))
  have hRX := Lib.hid (fun j hj => hO4.lt j hj)
  have KX0 := Lib.hid (Bk.new x4 54 Tryd.zeroCells54 x4.heap.size rfl)
  have HB := Lib.hid (HB.out.alloc HB.out.size (.cells Tryd.zeroCells54 54))
  have KQ := Lib.hid (KQ.out.alloc (.cells Tryd.zeroCells54 54))
  clear hO4 hb4
  go_wp2_with (refine wpList_store_m rfl 54 (.tmp 5) (.tmp 16) rfl _ 0 (gdA q.w q.h q.hs (.slice Ax q.gl.length capx)) rfl rfl _ _ KX0.out (by rw [gdA_size _ _ _ _ hgl, zG_size]; omega) (by rw [gdA_size _ _ _ _ hgl]; exact gd_sz _) (gdA_one _ _ _ _ _ _) ?_)
  intro w5 hK hG
  rw [gdA_zero _ _ _ hgl] at hK
  have KX := Lib.hid hK
  have HB := Lib.hid (HB.out.grown hG HB.out.size (fun j hj => by injection hj with hj; have := hltKQ.out; omega))
  have KQ := Lib.hid (KQ.out.grownM hG (by have := hltKQ.out; omega))
  have RX := Lib.hid (RX.out.keep fun j hj => hG.block j (RX.out.lt j hj) (fun e => by injection e with e; have := hRX.out j hj; omega))
  clear hK hG KX0 hRX hltKQ
  generalize x4.heap.size = X at *
  have ldx := load_gd hgl KX.out
  go_wp2_with (refine wpList_load_w rfl 54 (.tmp 5) rfl _ rfl _ ldx ?_)
  refine (HIC.out _ _ (HT.out.ext HB.out) (RX.out.sl Cell.c_len)).mono ?_
  rintro e w6 ⟨rfl, hd6⟩
  clear ldx
  have HB := Lib.hid (ext_trans HB.out hd6)
  have KX := Lib.hid (KX.out.ext hd6)
  have RX := Lib.hid (RX.out.ext hd6)
  have KQ := Lib.hid (KQ.out.ext hd6)
  clear hd6
  go_wp2_with fail
  have HS := Lib.hid (LwG.first hgl hgl KX.out KQ.out)
  refine wp_region_held_drew (S := (LwG w6 X W.heap.size (gdA q.w q.h q.hs (.slice Ax q.gl.length capx)) (gdA q.w q.h q.hs (.slice A q.gl.length cap)))) (by kernel_rfl) ?r24_hS0 (fun hHeld => ?r24_rest)
  case r24_hS0 => (try dsimp only); first | assumption | exact HS.out _ (kp0 _) | exact HS.out _ (Below.refl _ _) | exact HS.out _ (kp1 (And.left (b := _) (by assumption))) | exact HS.out _ (ext_trans (And.left (b := _) (by assumption)) (by assumption))
  refine wpAnyH_take (i := 0) (v := ?r24_vv0) (by (simp only [List.getElem?_toArray, List.getElem?_cons_succ, List.getElem?_cons_zero]; rfl)) (by kernel_rfl) (by kernel_rfl) (by kernel_rfl) (by exact fun _ _ _ h => h) (Or.inl ⟨by rfl, ?r24_hy0⟩) (by assumption) ?r24_rest0
  case r24_hy0 => intro w hSw; (try dsimp only at hSw); refine (exec_load rfl rfl hSw.2.1).trans ?_; with_reducible rfl
  try simp only [Act.put, List.setIfInBounds_toArray, List.set_cons_zero, List.set_cons_succ]
  refine wpAnyH_take (i := 1) (v := ?r24_vv1) (by (simp only [List.getElem?_toArray, List.getElem?_cons_succ, List.getElem?_cons_zero]; rfl)) (by kernel_rfl) (by kernel_rfl) (by kernel_rfl) (by exact fun _ _ _ h => h) (Or.inl ⟨by rfl, ?r24_hy1⟩) (by assumption) ?r24_rest1
  case r24_hy1 => intro w hSw; (try dsimp only at hSw); refine (exec_load rfl rfl hSw.2.2).trans ?_; with_reducible rfl
  try simp only [Act.put, List.setIfInBounds_toArray, List.set_cons_zero, List.set_cons_succ]
  refine wpAnyH_ready (rs := [2]) (by kernel_rfl) (by simp) ?_
  refine AllReadyH.cons (by (simp only [List.getElem?_toArray, List.getElem?_cons_succ, List.getElem?_cons_zero]; rfl)) (fun K hK => ?_) AllReadyH.nil
  go_simp
  (go_at_call 23; refine (toGround_calls q.w q.h q.hs hgl _ q.gl _ (HS0.out.ext (ext_trans HB.out (And.left (b := _) (by assumption)))) hn).mono ?_; rintro e x9 ⟨z9, rfl, hO9, hb9⟩)
  try go_wp2_with fail
  refine hK.out _ _ ?r24_hS2 (fun hHeld => ?r24_r2)
  case r24_hS2 => (try dsimp only); first | assumption | exact HS.out _ (kp0 _) | exact HS.out _ (Below.refl _ _) | exact HS.out _ (kp1 (And.left (b := _) (by assumption))) | exact HS.out _ (ext_trans (And.left (b := _) (by assumption)) (by assumption))
  clear hK K
  try simp only [Act.put, List.setIfInBounds_toArray, List.set_cons_zero, List.set_cons_succ]
  refine wpAnyH_ready (rs := [3]) (by kernel_rfl) (by simp) ?_
  refine AllReadyH.cons (by (simp only [List.getElem?_toArray, List.getElem?_cons_succ, List.getElem?_cons_zero]; rfl)) (fun K hK => ?_) AllReadyH.nil
  go_simp
  (go_at_call 25; refine (eqGround_calls q.w q.h q.hs hgl _ _ q.gl _ ((RX.out.sl Cell.c_len).ext (And.left (b := _) (by assumption))) (hO9.sl Cell.c_len)).mono ?_; rintro e wz ⟨rfl, hc9⟩)
  try go_wp2_with fail
  refine hK.out _ _ ?r24_hS3 (fun hHeld => ?r24_r3)
  case r24_hS3 => (try dsimp only); first | assumption | exact HS.out _ (kp0 _) | exact HS.out _ (Below.refl _ _) | exact HS.out _ (kp1 (And.left (b := _) (by assumption))) | exact HS.out _ (ext_trans (And.left (b := _) (by assumption)) (by assumption))
  clear hK K
  try simp only [Act.put, List.setIfInBounds_toArray, List.set_cons_zero, List.set_cons_succ]
  refine wpAnyH_take (i := 4) (v := ?r24_vv4) (by (simp only [List.getElem?_toArray, List.getElem?_cons_succ, List.getElem?_cons_zero]; rfl)) (by kernel_rfl) (by kernel_rfl) (by kernel_rfl) (by exact fun _ _ _ h => h) (Or.inl ⟨by rfl, ?r24_hy4⟩) (by assumption) ?r24_rest4
  case r24_hy4 => intro w hSw; (try dsimp only at hSw); (go_simp <;> (with_reducible rfl))
  try simp only [Act.put, List.setIfInBounds_toArray, List.set_cons_zero, List.set_cons_succ]
  refine wpAnyH_done (by kernel_rfl) ?_ _
  have h9 := And.left (b := _) (show LwG w6 X W.heap.size (gdA q.w q.h q.hs (.slice Ax q.gl.length capx)) (gdA q.w q.h q.hs (.slice A q.gl.length cap)) wz by assumption)
  have HB := Lib.hid (ext_trans HB.out h9)
  go_wp2_with fail
  go_ret
  exact ⟨rfl, HB.out⟩
end Go.Proofs.YthlcmiediedcfaaDoor
