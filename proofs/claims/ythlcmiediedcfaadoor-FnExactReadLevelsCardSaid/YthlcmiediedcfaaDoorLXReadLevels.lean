/-
The law on ReadLevels, walked: it answers true. Conditions: numbers are of their kinds, slices can be read. PRINTED by wip/mk_law.py.
-/
import Derived.Test.YthlcmiediedcfaaDoorTX13
import Derived.Test.YthlcmiediedcfaaDoorMK
import Derived.Test.YthlcmiediedcfaaDoorOpS
set_option linter.unusedVariables false
set_option linter.unusedSimpArgs false
set_option maxRecDepth 100000
namespace Go.Proofs.YthlcmiediedcfaaDoor
open Go.RowKit
abbrev JxS (W0 : World) (b c : Nat) (w h : Int) (z u : Value) (w' : World) : Prop :=
  Below W0.heap.size W0 w' ∧ w'.cell? ⟨b, 0, none⟩ = some (.int .i8 w) ∧ w'.cell? ⟨b, 1, none⟩ = some (.int .i8 h) ∧ w'.cell? ⟨b, 2, none⟩ = some z ∧ w'.cell? ⟨c, 0, none⟩ = some (.int .i8 w) ∧ w'.cell? ⟨c, 1, none⟩ = some (.int .i8 h) ∧ w'.cell? ⟨c, 2, none⟩ = some u
theorem JxS.keep {W0 w1 w2 : World} {b c : Nat} {w h : Int} {z u : Value} (hb : b < W0.heap.size) (hc : c < W0.heap.size) (hS : JxS W0 b c w h z u w1) (k : Below w1.heap.size w1 w2) : JxS W0 b c w h z u w2 := by
  obtain ⟨h0, h1, h2, h3, h4, h5, h6⟩ := hS
  have q : ∀ o, w2.cell? ⟨b, o, none⟩ = w1.cell? ⟨b, o, none⟩ := fun o => k.cell (p := ⟨b, o, none⟩) (Nat.lt_of_lt_of_le hb h0.size)
  have r : ∀ o, w2.cell? ⟨c, o, none⟩ = w1.cell? ⟨c, o, none⟩ := fun o => k.cell (p := ⟨c, o, none⟩) (Nat.lt_of_lt_of_le hc h0.size)
  exact ⟨ext_trans h0 k, (q _).trans h1, (q _).trans h2, (q _).trans h3, (r _).trans h4, (r _).trans h5, (r _).trans h6⟩
theorem readLevF_len (w h : Int) (sl : List Slab) (l : List UInt8) : (readLevF w h sl l).1.length ≤ 60 := by
  unfold readLevF rdLevS
  split
  · split
    · split
      · rename_i h1
        exact (levB_facts h1.1).1
      · simp
    · simp
  · simp
set_option maxHeartbeats 8000000 in
theorem law_FnExactReadLevels (W : World) (ht : LvlP W) (q : Sq) (z : Value) (hs : Sl W W.heap.size Slab.c 4 z q.sl) (hq : q.ok) (t : List UInt8) (k_t : True) :
    Calls Tryd.prog 7 #[q.v z, .string ⟨t.toArray⟩] W fun e w' => e = .returned (.bool true) ∧ Below W.heap.size W w' := by
  obtain ⟨A, cap, rfl, -, -, -⟩ := hs.slab
  have HSC := Lib.hid (show t.length ≤ 1048576 → ∀ z  W', Sl W' W'.heap.size Slab.c 4 z q.sl → Calls Tryd.prog 30 #[.agg #[.int .i8 q.w, .int .i8 q.h, z], .string ⟨t.toArray⟩] W' (RetRd W' 2 i64c 1 (readLevF q.w q.h q.sl t)) from fun len_t z  W' h1  => specReadLevels_calls q.w q.h z q.sl t (by omega) W' ⟨hq.w0, hq.w1, hq.h0, hq.h1, hq.sl, h1⟩ )
  have HIC := Lib.hid (show t.length ≤ 1048576 → ∀ z  W', LvlP W' → Sl W' W'.heap.size Slab.c 4 z q.sl → Calls Tryd.prog 31 #[.agg #[.int .i8 q.w, .int .i8 q.h, z], .string ⟨t.toArray⟩] W' (RetRd W' 2 i64c 1 (readLevF q.w q.h q.sl t)) from fun len_t z  W' hT h1  => implReadLevels_calls q.w q.h z q.sl t (by omega) W' hT ⟨hq.w0, hq.w1, hq.h0, hq.h1, hq.sl, h1⟩ )
  have HL := Lib.hid (show (readLevF q.w q.h q.sl t).1.length ≤ 60 from readLevF_len q.w q.h q.sl t)
  generalize readLevF q.w q.h q.sl t = F at HSC HIC HL
  have HB := Lib.hid ((Below.refl W.heap.size W).alloc (Nat.le_refl _) (.cells #[.int .i8 q.w, .int .i8 q.h, .slice A q.sl.length cap] 32))
  have KQ := Lib.hid (Bk.new W 32 #[.int .i8 q.w, .int .i8 q.h, .slice A q.sl.length cap] W.heap.size rfl)
  have HS0 := Lib.hid hs
  have HT := Lib.hid ht
  clear ht
  clear hs hq 
  unfold Sq.v
  by_cases hl_t : (1048576 : Int) < (t.length : Int)
  · have hd : decide ((1048576 : Int) < (t.length : Int)) = true := decide_eq_true hl_t
    go_enter Tryd.func7, Tryd.ntmps7
    go_wp2_with fail
    go_ret
    exact ⟨rfl, HB.out⟩
  have len_t : t.length ≤ 1048576 := by omega
  have hd_t : decide ((1048576 : Int) < (t.length : Int)) = false := decide_eq_false hl_t
  go_enter Tryd.func7, Tryd.ntmps7
  go_wp2_with fail
  refine (szSquare_calls q.w q.h _ q.sl _ _ (by omega) (by omega) (HS0.out.ext HB.out)).mono ?_
  rintro e w1 ⟨rfl, hb1⟩
  have HB := Lib.hid (ext_trans HB.out hb1)
  have KQ := Lib.hid (KQ.out.ext hb1)
  clear hb1
  by_cases hl : (1048576 : Int) < q.sl.length
  · rw [if_pos hl]
    go_wp2_with fail
    go_ret
    exact ⟨rfl, HB.out⟩
  rw [if_neg hl]
  have hn : q.sl.length ≤ 1048576 := by omega
  have hd0 : decide ((1048576 : Int) - (q.sl.length : Int) < 0) = false := by rw [decide_eq_false_iff_not]; omega
  have k0 := KQ.out.cell 0 _ rfl
  have k1 := KQ.out.cell 1 _ rfl
  have k2 := KQ.out.cell 2 _ rfl
  go_wp2_with fail
  refine (toSquare_calls q.w q.h _ q.sl _ (HS0.out.ext HB.out) hn).mono ?_
  rintro e w_1 ⟨z_t1, rfl, hO1, hb1⟩
  have Rt1_ := Lib.hid (hO1.more (show W.heap.size + 1 ≤ _ from KQ.out.lt))
  have HB := Lib.hid (ext_trans HB.out hb1)
  have KQ := Lib.hid (KQ.out.ext hb1)
  have Rt1 := Lib.hid Rt1_.out
  clear Rt1_
  clear hO1 hb1
  clear k0 k1 k2
  go_wp2_with fail
  refine (HSC.out len_t _  _ (Rt1.out.sl Slab.c_len) ).mono ?_
  rintro e w_2 ⟨v_w0, rfl, hO2, hb2⟩
  have Rw0_ := Lib.hid (hO2.more (show W.heap.size + 1 ≤ _ from KQ.out.lt))
  have HB := Lib.hid (ext_trans HB.out hb2)
  have KQ := Lib.hid (KQ.out.ext hb2)
  have Rt1 := Lib.hid (Rt1.out.ext hb2)
  have Rw0 := Lib.hid Rw0_.out
  clear Rw0_
  clear hO2 hb2
  clear Rt1
  have k0 := KQ.out.cell 0 _ rfl
  have k1 := KQ.out.cell 1 _ rfl
  have k2 := KQ.out.cell 2 _ rfl
  go_wp2_with fail
  refine (toSquare_calls q.w q.h _ q.sl _ (HS0.out.ext HB.out) hn).mono ?_
  rintro e w_3 ⟨z_x0, rfl, hO3, hb3⟩
  obtain ⟨Ax, capx, rfl, -, -, -⟩ := (hO3.sl Slab.c_len).slab
  have Dw0_x0 := Lib.hid (show Apart v_w0 (.slice Ax q.sl.length capx) from fun j h1 h2 => by have := Rw0.out.lt j h1; have := hO3.base j h2; omega)
  have Rx0_ := Lib.hid (hO3.more (show W.heap.size + 1 ≤ _ from KQ.out.lt))
  have KX := Lib.hid (Bk.new w_3 38 #[.int .i8 q.w, .int .i8 q.h, .slice Ax q.sl.length capx] w_3.heap.size rfl)
  have HXrx0 := Lib.hid (show ∀ j, (Value.slice Ax q.sl.length capx).ownBlock = some j → w_3.heap.size = j → False from fun j h1 h2 => by have := hO3.lt j h1; omega)
  have hb3 := ext_alloc hb3 (.cells #[.int .i8 q.w, .int .i8 q.h, .slice Ax q.sl.length capx] 38)
  have Rx0_ := Lib.hid (Rx0_.out.alloc (.cells #[.int .i8 q.w, .int .i8 q.h, .slice Ax q.sl.length capx] 38))
  clear k0 k1 k2
  have HB := Lib.hid (ext_trans HB.out hb3)
  have KQ := Lib.hid (KQ.out.ext hb3)
  have Rw0 := Lib.hid (Rw0.out.ext hb3)
  have Rx0 := Lib.hid Rx0_.out
  clear Rx0_
  clear hO3 hb3
  have k0 := KX.out.cell 0 _ rfl
  have k1 := KX.out.cell 1 _ rfl
  have k2 := KX.out.cell 2 _ rfl
  go_wp2_with fail
  generalize w_3.alloc (.cells #[.int .i8 q.w, .int .i8 q.h, .slice Ax q.sl.length capx] 38) = wx at *
  generalize hX : w_3.heap.size = X at *
  clear hX
  go_wp2_with fail
  refine (HIC.out len_t _  _ (HT.out.ext HB.out) (Rx0.out.sl Slab.c_len) ).mono ?_
  rintro e w_4 ⟨v_g0, rfl, hO4, hb4⟩
  have Dw0_g0 := Lib.hid (show Apart v_w0 v_g0 from fun j h1 h2 => by have := Rw0.out.lt j h1; have := hO4.base j h2; omega)
  have Dx0_g0 := Lib.hid (show Apart (.slice Ax q.sl.length capx) v_g0 from fun j h1 h2 => by have := Rx0.out.lt j h1; have := hO4.base j h2; omega)
  have Rg0_ := Lib.hid (hO4.more (show W.heap.size + 1 ≤ _ from KQ.out.lt))
  have HXrg0 := Lib.hid (show ∀ j, (v_g0).ownBlock = some j → X = j → False from fun j h1 h2 => by have := hO4.base j h1; have := KX.out.lt; omega)
  clear k0 k1 k2
  have HB := Lib.hid (ext_trans HB.out hb4)
  have KQ := Lib.hid (KQ.out.ext hb4)
  have KX := Lib.hid (KX.out.ext hb4)
  have Rw0 := Lib.hid (Rw0.out.ext hb4)
  have Rx0 := Lib.hid (Rx0.out.ext hb4)
  have Rg0 := Lib.hid Rg0_.out
  clear Rg0_
  clear hO4 hb4
  go_wp2_with fail
  refine (eqInt64S_calls F.1 F.1 v_g0 v_w0 _ (Rg0.out.sl i64c_len) (Rw0.out.sl i64c_len)).mono ?_
  rintro e w_5 ⟨rfl, hb5⟩
  have HB := Lib.hid (ext_trans HB.out hb5)
  have KQ := Lib.hid (KQ.out.ext hb5)
  have KX := Lib.hid (KX.out.ext hb5)
  have Rw0 := Lib.hid (Rw0.out.ext hb5)
  have Rx0 := Lib.hid (Rx0.out.ext hb5)
  have Rg0 := Lib.hid (Rg0.out.ext hb5)
  clear hb5
  have hd : decide (F.1 = F.1) = true := by simp
  rw [hd]
  clear hd
  have hlx := KX.out.lt
  have hlq := KQ.out.lt
  go_wp2_with fail
  obtain ⟨W5, hW5⟩ : ∃ W5 : World, W5 = w_5 := ⟨_, rfl⟩
  subst hW5
  have hS : JxS W5 X W.heap.size q.w q.h (.slice Ax q.sl.length capx) (.slice A q.sl.length cap) W5 := ⟨Below.refl _ _, KX.out.cell 0 _ rfl, KX.out.cell 1 _ rfl, KX.out.cell 2 _ rfl, KQ.out.cell 0 _ rfl, KQ.out.cell 1 _ rfl, KQ.out.cell 2 _ rfl⟩
  refine wp_region_held_drew (S := (JxS W5 X W.heap.size q.w q.h (.slice Ax q.sl.length capx) (.slice A q.sl.length cap))) (by kernel_rfl) ?r25_hS0 (fun hHeld => ?r25_rest)
  case r25_hS0 => (try dsimp only); first | assumption | exact JxS.keep hlx hlq (by assumption) ((Below.refl _ _).drew) | exact JxS.keep hlx hlq (by assumption) (by assumption)
  refine wpAnyH_take (i := 0) (v := ?r25_vv0) (by (simp only [List.getElem?_toArray, List.getElem?_cons_succ, List.getElem?_cons_zero]; rfl)) (by kernel_rfl) (by kernel_rfl) (by kernel_rfl) (by exact fun _ _ _ h => h) (Or.inl ⟨by rfl, ?r25_hy0⟩) (by assumption) ?r25_rest0
  case r25_hy0 => intro w hSw; (try dsimp only at hSw); (go_simp <;> (with_reducible rfl))
  try simp only [Act.put, List.setIfInBounds_toArray, List.set_cons_zero, List.set_cons_succ]
  refine wpAnyH_take (i := 1) (v := ?r25_vv1) (by (simp only [List.getElem?_toArray, List.getElem?_cons_succ, List.getElem?_cons_zero]; rfl)) (by kernel_rfl) (by kernel_rfl) (by kernel_rfl) (by exact fun _ _ _ h => h) (Or.inl ⟨by rfl, ?r25_hy1⟩) (by assumption) ?r25_rest1
  case r25_hy1 => intro w hSw; (try dsimp only at hSw); (go_simp <;> (with_reducible rfl))
  try simp only [Act.put, List.setIfInBounds_toArray, List.set_cons_zero, List.set_cons_succ]
  refine wpAnyH_ready (rs := [2]) (by kernel_rfl) (by simp) ?_
  refine AllReadyH.cons (by (simp only [List.getElem?_toArray, List.getElem?_cons_succ, List.getElem?_cons_zero]; rfl)) (fun K hK => ?_) AllReadyH.nil
  go_simp
  (go_at_call 16; refine (toSquare_calls q.w q.h _ q.sl _ (HS0.out.ext (ext_trans HB.out (And.left (b := _) (by assumption)))) hn).mono ?_; rintro e x9 ⟨z9, rfl, hO9, hb9⟩)
  try go_wp2_with fail
  refine hK.out _ _ ?r25_hS2 (fun hHeld => ?r25_r2)
  case r25_hS2 => (try dsimp only); first | assumption | exact JxS.keep hlx hlq (by assumption) ((Below.refl _ _).drew) | exact JxS.keep hlx hlq (by assumption) (by assumption)
  clear hK K
  try simp only [Act.put, List.setIfInBounds_toArray, List.set_cons_zero, List.set_cons_succ]
  refine wpAnyH_ready (rs := [3]) (by kernel_rfl) (by simp) ?_
  refine AllReadyH.cons (by (simp only [List.getElem?_toArray, List.getElem?_cons_succ, List.getElem?_cons_zero]; rfl)) (fun K hK => ?_) AllReadyH.nil
  go_simp
  (go_at_call 19; refine (eqSquare_calls _ _ _ _ _ _ q.sl q.sl _ ((Rx0.out.sl Slab.c_len).ext (And.left (b := _) (by assumption))) (hO9.sl Slab.c_len) rfl rfl).mono ?_; rintro e w15 ⟨rfl, hb10⟩)
  try go_wp2_with fail
  refine hK.out _ _ ?r25_hS3 (fun hHeld => ?r25_r3)
  case r25_hS3 => (try dsimp only); first | assumption | exact JxS.keep hlx hlq (by assumption) ((Below.refl _ _).drew) | exact JxS.keep hlx hlq (by assumption) (by assumption)
  clear hK K
  try simp only [Act.put, List.setIfInBounds_toArray, List.set_cons_zero, List.set_cons_succ]
  refine wpAnyH_take (i := 4) (v := ?r25_vv4) (by (simp only [List.getElem?_toArray, List.getElem?_cons_succ, List.getElem?_cons_zero]; rfl)) (by kernel_rfl) (by kernel_rfl) (by kernel_rfl) (by exact fun _ _ _ h => h) (Or.inl ⟨by rfl, ?r25_hy4⟩) (by assumption) ?r25_rest4
  case r25_hy4 => intro w hSw; (try dsimp only at hSw); (go_simp <;> (with_reducible rfl))
  try simp only [Act.put, List.setIfInBounds_toArray, List.set_cons_zero, List.set_cons_succ]
  refine wpAnyH_done (by kernel_rfl) ?_ _
  have h9 := And.left (b := _) (show JxS W5 X W.heap.size q.w q.h (.slice Ax q.sl.length capx) (.slice A q.sl.length cap) w15 by assumption)
  have hdq : decide (q.sl = q.sl) = true := by simp
  have HB := Lib.hid (ext_trans HB.out h9)
  have KQ := Lib.hid (KQ.out.ext h9)
  have KX := Lib.hid (KX.out.ext h9)
  have Rw0 := Lib.hid (Rw0.out.ext h9)
  have Rx0 := Lib.hid (Rx0.out.ext h9)
  have Rg0 := Lib.hid (Rg0.out.ext h9)
  clear hS h9 hO9 hb9 hb10 hlx hlq
  repeat clear hHeld
  have k0 := KX.out.cell 0 _ rfl
  have k1 := KX.out.cell 1 _ rfl
  have k2 := KX.out.cell 2 _ rfl
  go_wp2_with fail
  refine (markSquareG_calls q.w q.h _ q.sl _ (W.heap.size + 1) KQ.out.lt Rx0.out 1 (by omega) (by omega) hn).mono ?_
  rintro e w_7 ⟨rfl, hg7⟩
  have HG := Lib.hid hg7
  clear hg7
  have HB := Lib.hid (HB.out.grown HG.out HB.out.size (fun j hj => by have := Rx0.out.base j hj; omega))
  have KQ := Lib.hid (show Bk _ _ _ _ from (HG.out.block _ KQ.out.lt (fun e => by have h1 := Rx0.out.base _ e.symm; omega)).trans KQ.out)
  have KX := Lib.hid (show Bk _ _ _ _ from (HG.out.block _ KX.out.lt (fun e => by have h1 := Rx0.out.base _ e.symm; have := HXrx0.out; exact this _ e.symm rfl)).trans KX.out)
  have Rw0 := Lib.hid (Rw0.out.keep fun j hj => HG.out.block j (Rw0.out.lt j hj) (fun e => Dw0_x0.out j hj e.symm))
  have Rg0 := Lib.hid (Rg0.out.keep fun j hj => HG.out.block j (Rg0.out.lt j hj) (fun e => (fun j h1 h2 => Dx0_g0.out j h2 h1) j hj e.symm))
  clear HG
  clear k0 k1 k2
  clear Rx0
  clear KX
  have hdk : decide ((1 : Int) + 4 * (q.sl.length : Int) < 0) = false := by rw [decide_eq_false_iff_not]; omega
  go_wp2_with fail
  refine (eqInt64S_calls F.1 F.1 v_g0 v_w0 _ (Rg0.out.sl i64c_len) (Rw0.out.sl i64c_len)).mono ?_
  rintro e w_8 ⟨rfl, hb8⟩
  have HB := Lib.hid (ext_trans HB.out hb8)
  have KQ := Lib.hid (KQ.out.ext hb8)
  have Rw0 := Lib.hid (Rw0.out.ext hb8)
  have Rg0 := Lib.hid (Rg0.out.ext hb8)
  clear hb8
  have hd : decide (F.1 = F.1) = true := by simp
  rw [hd]
  clear hd
  go_wp2_with fail
  refine (markInt64G_calls F.1 _ _ (W.heap.size + 1) KQ.out.lt Rg0.out 1 (by omega) (by omega) (by have := HL.out; omega)).mono ?_
  rintro e w_9 ⟨rfl, hM9, -, hg9⟩
  have HG := Lib.hid hg9
  clear hg9
  have HB := Lib.hid (HB.out.grown HG.out HB.out.size (fun j hj => by have := Rg0.out.base j hj; omega))
  have KQ := Lib.hid (show Bk _ _ _ _ from (HG.out.block _ KQ.out.lt (fun e => by have h1 := Rg0.out.base _ e.symm; omega)).trans KQ.out)
  have Rw0 := Lib.hid (Rw0.out.keep fun j hj => HG.out.block j (Rw0.out.lt j hj) (fun e => Dw0_g0.out j hj e.symm))
  clear HG
  have Rg0 := Lib.hid hM9
  clear hM9
  go_wp2_with fail
  refine (heldInt64S_calls F.1.length v_g0 _ 1 (Rg0.out.sl i64c_len) (by omega) (by omega) (by have := HL.out; omega)).mono ?_
  rintro e w_10 ⟨rfl, hb10⟩
  have HB := Lib.hid (ext_trans HB.out hb10)
  have KQ := Lib.hid (KQ.out.ext hb10)
  have Rw0 := Lib.hid (Rw0.out.ext hb10)
  have Rg0 := Lib.hid (Rg0.out.ext hb10)
  clear hb10
  have hh1 : decide ((1 : Int) + (F.1.length : Int) < 0) = false := by rw [decide_eq_false_iff_not]; omega
  have hh2 : (((1 : Int) + (F.1.length : Int)) != (1 + (F.1.length : Int))) = false := by simp
  have k0 := KQ.out.cell 0 _ rfl
  have k1 := KQ.out.cell 1 _ rfl
  have k2 := KQ.out.cell 2 _ rfl
  go_wp2_with fail
  refine (toSquare_calls q.w q.h _ q.sl _ (HS0.out.ext HB.out) hn).mono ?_
  rintro e w_11 ⟨z_t1, rfl, hO11, hb11⟩
  have Rt1_ := Lib.hid (hO11.more (show W.heap.size + 1 ≤ _ from KQ.out.lt))
  have HB := Lib.hid (ext_trans HB.out hb11)
  have KQ := Lib.hid (KQ.out.ext hb11)
  have Rw0 := Lib.hid (Rw0.out.ext hb11)
  have Rg0 := Lib.hid (Rg0.out.ext hb11)
  have Rt1 := Lib.hid Rt1_.out
  clear Rt1_
  clear hO11 hb11
  clear k0 k1 k2
  go_wp2_with fail
  refine (HIC.out len_t _  _ (HT.out.ext HB.out) (Rt1.out.sl Slab.c_len) ).mono ?_
  rintro e w_12 ⟨v_h0, rfl, hO12, hb12⟩
  have Rh0_ := Lib.hid (hO12.more (show W.heap.size + 1 ≤ _ from KQ.out.lt))
  have HB := Lib.hid (ext_trans HB.out hb12)
  have KQ := Lib.hid (KQ.out.ext hb12)
  have Rw0 := Lib.hid (Rw0.out.ext hb12)
  have Rg0 := Lib.hid (Rg0.out.ext hb12)
  have Rt1 := Lib.hid (Rt1.out.ext hb12)
  have Rh0 := Lib.hid Rh0_.out
  clear Rh0_
  clear hO12 hb12
  clear Rt1
  go_wp2_with fail
  refine (eqInt64S_calls F.1 F.1 v_h0 v_w0 _ (Rh0.out.sl i64c_len) (Rw0.out.sl i64c_len)).mono ?_
  rintro e w_13 ⟨rfl, hb13⟩
  have HB := Lib.hid (ext_trans HB.out hb13)
  have KQ := Lib.hid (KQ.out.ext hb13)
  have Rw0 := Lib.hid (Rw0.out.ext hb13)
  have Rg0 := Lib.hid (Rg0.out.ext hb13)
  have Rh0 := Lib.hid (Rh0.out.ext hb13)
  clear hb13
  have hd : decide (F.1 = F.1) = true := by simp
  rw [hd]
  clear hd
  go_wp2_with fail
  refine (heldInt64S_calls F.1.length v_g0 _ 1 (Rg0.out.sl i64c_len) (by omega) (by omega) (by have := HL.out; omega)).mono ?_
  rintro e w_14 ⟨rfl, hb14⟩
  have HB := Lib.hid (ext_trans HB.out hb14)
  have KQ := Lib.hid (KQ.out.ext hb14)
  have Rw0 := Lib.hid (Rw0.out.ext hb14)
  have Rg0 := Lib.hid (Rg0.out.ext hb14)
  have Rh0 := Lib.hid (Rh0.out.ext hb14)
  clear hb14
  go_wp2_with fail
  go_ret
  exact ⟨rfl, HB.out⟩
end Go.Proofs.YthlcmiediedcfaaDoor
