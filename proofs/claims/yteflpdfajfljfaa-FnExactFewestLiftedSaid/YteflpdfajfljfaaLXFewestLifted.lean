/-
The law on FewestLifted, walked: it answers true. Conditions: numbers are of their kinds, slices can be read. PRINTED by wip/mk_law.py.
-/
import Derived.Test.YteflpdfajfljfaaFL10
import Derived.Test.YteflpdfajfljfaaMK
set_option linter.unusedVariables false
set_option linter.unusedSimpArgs false
set_option maxRecDepth 100000
namespace Go.Proofs.Yteflpdfajfljfaa
open Go.RowKit
abbrev JxS (W0 : World) (b c : Nat) (w h : Int) (z u : Value) (w' : World) : Prop :=
  Below W0.heap.size W0 w' ∧ w'.cell? ⟨b, 0, none⟩ = some (.int .i8 w) ∧ w'.cell? ⟨b, 1, none⟩ = some (.int .i8 h) ∧ w'.cell? ⟨b, 2, none⟩ = some z ∧ w'.cell? ⟨c, 0, none⟩ = some (.int .i8 w) ∧ w'.cell? ⟨c, 1, none⟩ = some (.int .i8 h) ∧ w'.cell? ⟨c, 2, none⟩ = some u
theorem JxS.keep {W0 w1 w2 : World} {b c : Nat} {w h : Int} {z u : Value} (hb : b < W0.heap.size) (hc : c < W0.heap.size) (hS : JxS W0 b c w h z u w1) (k : Below w1.heap.size w1 w2) : JxS W0 b c w h z u w2 := by
  obtain ⟨h0, h1, h2, h3, h4, h5, h6⟩ := hS
  have q : ∀ o, w2.cell? ⟨b, o, none⟩ = w1.cell? ⟨b, o, none⟩ := fun o => k.cell (p := ⟨b, o, none⟩) (Nat.lt_of_lt_of_le hb h0.size)
  have r : ∀ o, w2.cell? ⟨c, o, none⟩ = w1.cell? ⟨c, o, none⟩ := fun o => k.cell (p := ⟨c, o, none⟩) (Nat.lt_of_lt_of_le hc h0.size)
  exact ⟨ext_trans h0 k, (q _).trans h1, (q _).trans h2, (q _).trans h3, (r _).trans h4, (r _).trans h5, (r _).trans h6⟩
abbrev JwT (W0 : World) (b c d : Nat) (w h : Int) (z : Value) (p r : Cell) (w' : World) : Prop :=
  Below W0.heap.size W0 w' ∧ w'.cell? ⟨b, 0, none⟩ = some (.int .i8 w) ∧ w'.cell? ⟨b, 1, none⟩ = some (.int .i8 h) ∧ w'.cell? ⟨b, 2, none⟩ = some z ∧ w'.cell? ⟨c, 0, none⟩ = some (.int .i8 p.x) ∧ w'.cell? ⟨c, 1, none⟩ = some (.int .i8 p.y) ∧ w'.cell? ⟨d, 0, none⟩ = some (.int .i8 r.x) ∧ w'.cell? ⟨d, 1, none⟩ = some (.int .i8 r.y)
theorem JwT.keep {W0 w1 w2 : World} {b c d : Nat} {w h : Int} {z : Value} {p r : Cell} (hb : b < W0.heap.size) (hc : c < W0.heap.size) (hd : d < W0.heap.size) (hS : JwT W0 b c d w h z p r w1) (k : Below w1.heap.size w1 w2) : JwT W0 b c d w h z p r w2 := by
  obtain ⟨h0, h1, h2, h3, h4, h5, h6, h7⟩ := hS
  have q : ∀ o, w2.cell? ⟨b, o, none⟩ = w1.cell? ⟨b, o, none⟩ := fun o => k.cell (p := ⟨b, o, none⟩) (Nat.lt_of_lt_of_le hb h0.size)
  have r : ∀ o, w2.cell? ⟨c, o, none⟩ = w1.cell? ⟨c, o, none⟩ := fun o => k.cell (p := ⟨c, o, none⟩) (Nat.lt_of_lt_of_le hc h0.size)
  have s : ∀ o, w2.cell? ⟨d, o, none⟩ = w1.cell? ⟨d, o, none⟩ := fun o => k.cell (p := ⟨d, o, none⟩) (Nat.lt_of_lt_of_le hd h0.size)
  exact ⟨ext_trans h0 k, (q _).trans h1, (q _).trans h2, (q _).trans h3, (r _).trans h4, (r _).trans h5, (s _).trans h6, (s _).trans h7⟩
set_option maxHeartbeats 8000000 in
theorem law_FnExactFewestLifted (W : World) (q : Sq) (z : Value) (hs : Sl W W.heap.size Slab.c 4 z q.sl) (hq : q.ok) (a1 : Cell) (k_a1 : a1.ok) (a2 : Cell) (k_a2 : a2.ok) :
    Calls Try.prog 7 #[q.v z, a1.v, a2.v] W fun e w' => e = .returned (.bool true) ∧ Below W.heap.size W w' := by
  obtain ⟨A, cap, rfl, -, -, -⟩ := hs.slab
  have HSC := Lib.hid (show ∀ z  W', Sl W' W'.heap.size Slab.c 4 z q.sl → Calls Try.prog 32 #[.agg #[.int .i8 q.w, .int .i8 q.h, z], .agg #[.int .i8 a1.x, .int .i8 a1.y], .agg #[.int .i8 a2.x, .int .i8 a2.y]] W' (RetF2 W' 2 i64c 1 (fewestLifted q.w q.h q.sl a1 a2)) from fun  z  W' h1  => specFewestLifted_calls q.w q.h z q.sl a1 k_a1 a2 k_a2 W' ⟨hq.w0, hq.w1, hq.h0, hq.h1, hq.sl, h1⟩ )
  have HIC := Lib.hid (show ∀ z  W', Sl W' W'.heap.size Slab.c 4 z q.sl → Calls Try.prog 33 #[.agg #[.int .i8 q.w, .int .i8 q.h, z], .agg #[.int .i8 a1.x, .int .i8 a1.y], .agg #[.int .i8 a2.x, .int .i8 a2.y]] W' (RetF2 W' 2 i64c 1 (fewestLifted q.w q.h q.sl a1 a2)) from fun  z  W' h1  => implFewestLifted_calls q.w q.h z q.sl a1 k_a1 a2 k_a2 W' ⟨hq.w0, hq.w1, hq.h0, hq.h1, hq.sl, h1⟩ )
  have HL := Lib.hid (show (fewestLifted q.w q.h q.sl a1 a2).1.length ≤ 23 from fewestLifted_len q.w q.h q.sl a1 a2)
  generalize fewestLifted q.w q.h q.sl a1 a2 = F at HSC HIC HL
  have HB := Lib.hid (ext_alloc (ext_alloc ((Below.refl W.heap.size W).alloc (Nat.le_refl _) (.cells #[.int .i8 q.w, .int .i8 q.h, .slice A q.sl.length cap] 25)) (.cells #[.int .i8 a1.x, .int .i8 a1.y] 27)) (.cells #[.int .i8 a2.x, .int .i8 a2.y] 27))
  have KQ := Lib.hid (((Bk.new W 25 #[.int .i8 q.w, .int .i8 q.h, .slice A q.sl.length cap] (W.heap.size) rfl).alloc (.cells #[.int .i8 a1.x, .int .i8 a1.y] 27)).alloc (.cells #[.int .i8 a2.x, .int .i8 a2.y] 27))
  have K_a1 := Lib.hid ((Bk.new (W.alloc (.cells #[.int .i8 q.w, .int .i8 q.h, .slice A q.sl.length cap] 25)) 27 #[.int .i8 a1.x, .int .i8 a1.y] (W.heap.size + 1) (by simp)).alloc (.cells #[.int .i8 a2.x, .int .i8 a2.y] 27))
  have K_a2 := Lib.hid (Bk.new ((W.alloc (.cells #[.int .i8 q.w, .int .i8 q.h, .slice A q.sl.length cap] 25)).alloc (.cells #[.int .i8 a1.x, .int .i8 a1.y] 27)) 27 #[.int .i8 a2.x, .int .i8 a2.y] (W.heap.size + 1 + 1) (by simp))
  have qtc_a1 := Lib.hid (show ∀ W', Calls Try.prog 13 #[.agg #[.int .i8 a1.x, .int .i8 a1.y]] W' (fun e w' => e = .returned (.agg #[.int .i8 a1.x, .int .i8 a1.y]) ∧ Below W'.heap.size W' w') from fun W' => toCell_calls a1 W')
  have qtc_a2 := Lib.hid (show ∀ W', Calls Try.prog 13 #[.agg #[.int .i8 a2.x, .int .i8 a2.y]] W' (fun e w' => e = .returned (.agg #[.int .i8 a2.x, .int .i8 a2.y]) ∧ Below W'.heap.size W' w') from fun W' => toCell_calls a2 W')
  have HS0 := Lib.hid hs
  clear hs hq k_a1 k_a2
  unfold Sq.v Cell.v
  go_enter Try.func7, Try.ntmps7
  go_wp2_with fail
  refine (szSquare_calls q.w q.h _ q.sl _ _ (by omega) (by omega) (HS0.out.ext HB.out)).mono ?_
  rintro e w1 ⟨rfl, hb1⟩
  have HB := Lib.hid (ext_trans HB.out hb1)
  have KQ := Lib.hid (KQ.out.ext hb1)
  have K_a1 := Lib.hid (K_a1.out.ext hb1)
  have K_a2 := Lib.hid (K_a2.out.ext hb1)
  clear hb1
  by_cases hl : (1048576 : Int) < q.sl.length
  · rw [if_pos hl]
    go_wp2_with fail
    go_ret
    exact ⟨rfl, HB.out⟩
  rw [if_neg hl]
  have hn : q.sl.length ≤ 1048576 := by omega
  have hd0 : decide ((1048576 : Int) - (q.sl.length : Int) < 0) = false := by rw [decide_eq_false_iff_not]; omega
  obtain ⟨W5, hW5⟩ : ∃ W5 : World, W5 = w1 := ⟨_, rfl⟩
  subst hW5
  have hl1 := KQ.out.lt
  have hl2 := K_a1.out.lt
  have hl3 := K_a2.out.lt
  have hS : JwT W5 W.heap.size (W.heap.size + 1) (W.heap.size + 1 + 1) q.w q.h (.slice A q.sl.length cap) a1 a2 W5 := ⟨Below.refl _ _, KQ.out.cell 0 _ rfl, KQ.out.cell 1 _ rfl, KQ.out.cell 2 _ rfl, K_a1.out.cell 0 _ rfl, K_a1.out.cell 1 _ rfl, K_a2.out.cell 0 _ rfl, K_a2.out.cell 1 _ rfl⟩
  go_wp2_with fail
  refine wp_region_held_drew (S := (JwT W5 W.heap.size (W.heap.size + 1) (W.heap.size + 1 + 1) q.w q.h (.slice A q.sl.length cap) a1 a2)) (by kernel_rfl) ?r17_hS0 (fun hHeld => ?r17_rest)
  case r17_hS0 => (try dsimp only); first | assumption | exact JwT.keep hl1 hl2 hl3 (by assumption) ((Below.refl _ _).drew) | exact JwT.keep hl1 hl2 hl3 (by assumption) (by assumption)
  refine wpAnyH_take (i := 0) (v := ?r17_vv0) (by (simp only [List.getElem?_toArray, List.getElem?_cons_succ, List.getElem?_cons_zero]; rfl)) (by kernel_rfl) (by kernel_rfl) (by kernel_rfl) (by exact fun _ _ _ h => h) (Or.inl ⟨by rfl, ?r17_hy0⟩) (by assumption) ?r17_rest0
  case r17_hy0 => intro w hSw; (try dsimp only at hSw); (go_simp <;> (with_reducible rfl))
  try simp only [Act.put, List.setIfInBounds_toArray, List.set_cons_zero, List.set_cons_succ]
  refine wpAnyH_take (i := 2) (v := ?r17_vv2) (by (simp only [List.getElem?_toArray, List.getElem?_cons_succ, List.getElem?_cons_zero]; rfl)) (by kernel_rfl) (by kernel_rfl) (by kernel_rfl) (by exact fun _ _ _ h => h) (Or.inl ⟨by rfl, ?r17_hy2⟩) (by assumption) ?r17_rest2
  case r17_hy2 => intro w hSw; (try dsimp only at hSw); (go_simp <;> (with_reducible rfl))
  try simp only [Act.put, List.setIfInBounds_toArray, List.set_cons_zero, List.set_cons_succ]
  refine wpAnyH_take (i := 4) (v := ?r17_vv4) (by (simp only [List.getElem?_toArray, List.getElem?_cons_succ, List.getElem?_cons_zero]; rfl)) (by kernel_rfl) (by kernel_rfl) (by kernel_rfl) (by exact fun _ _ _ h => h) (Or.inl ⟨by rfl, ?r17_hy4⟩) (by assumption) ?r17_rest4
  case r17_hy4 => intro w hSw; (try dsimp only at hSw); (go_simp <;> (with_reducible rfl))
  try simp only [Act.put, List.setIfInBounds_toArray, List.set_cons_zero, List.set_cons_succ]
  refine wpAnyH_ready (rs := [1]) (by kernel_rfl) (by simp) ?_
  refine AllReadyH.cons (by (simp only [List.getElem?_toArray, List.getElem?_cons_succ, List.getElem?_cons_zero]; rfl)) (fun K hK => ?_) AllReadyH.nil
  go_simp
  (go_at_call 12; refine (toSquare_calls q.w q.h _ q.sl _ (HS0.out.ext (ext_trans HB.out (And.left (b := _) (by assumption)))) hn).mono ?_; rintro e x1 ⟨z1, rfl, hO1, hb1⟩)
  try go_wp2_with fail
  refine hK.out _ _ ?r17_hS1 (fun hHeld => ?r17_r1)
  case r17_hS1 => (try dsimp only); first | assumption | exact JwT.keep hl1 hl2 hl3 (by assumption) ((Below.refl _ _).drew) | exact JwT.keep hl1 hl2 hl3 (by assumption) (by assumption)
  clear hK K
  try simp only [Act.put, List.setIfInBounds_toArray, List.set_cons_zero, List.set_cons_succ]
  refine wpAnyH_ready (rs := [3]) (by kernel_rfl) (by simp) ?_
  refine AllReadyH.cons (by (simp only [List.getElem?_toArray, List.getElem?_cons_succ, List.getElem?_cons_zero]; rfl)) (fun K hK => ?_) AllReadyH.nil
  go_simp
  (go_at_call 13; with_reducible refine (qtc_a1.out _).mono ?_; rintro e x2 ⟨rfl, hb2⟩)
  try go_wp2_with fail
  refine hK.out _ _ ?r17_hS3 (fun hHeld => ?r17_r3)
  case r17_hS3 => (try dsimp only); first | assumption | exact JwT.keep hl1 hl2 hl3 (by assumption) ((Below.refl _ _).drew) | exact JwT.keep hl1 hl2 hl3 (by assumption) (by assumption)
  clear hK K
  try simp only [Act.put, List.setIfInBounds_toArray, List.set_cons_zero, List.set_cons_succ]
  refine wpAnyH_ready (rs := [5]) (by kernel_rfl) (by simp) ?_
  refine AllReadyH.cons (by (simp only [List.getElem?_toArray, List.getElem?_cons_succ, List.getElem?_cons_zero]; rfl)) (fun K hK => ?_) AllReadyH.nil
  go_simp
  (go_at_call 13; with_reducible refine (qtc_a2.out _).mono ?_; rintro e x3 ⟨rfl, hb3⟩)
  try go_wp2_with fail
  refine hK.out _ _ ?r17_hS5 (fun hHeld => ?r17_r5)
  case r17_hS5 => (try dsimp only); first | assumption | exact JwT.keep hl1 hl2 hl3 (by assumption) ((Below.refl _ _).drew) | exact JwT.keep hl1 hl2 hl3 (by assumption) (by assumption)
  clear hK K
  try simp only [Act.put, List.setIfInBounds_toArray, List.set_cons_zero, List.set_cons_succ]
  refine wpAnyH_ready (rs := [6]) (by kernel_rfl) (by simp) ?_
  refine AllReadyH.cons (by (simp only [List.getElem?_toArray, List.getElem?_cons_succ, List.getElem?_cons_zero]; rfl)) (fun K hK => ?_) AllReadyH.nil
  go_simp
  (go_at_call 32; refine (HSC.out _ _ (((hO1.sl Slab.c_len).ext hb2).ext hb3)).mono ?_; rintro e y9 ⟨v_w0, rfl, hO9, hb9⟩)
  try go_wp2_with fail
  refine hK.out _ _ ?r17_hS6 (fun hHeld => ?r17_r6)
  case r17_hS6 => (try dsimp only); first | assumption | exact JwT.keep hl1 hl2 hl3 (by assumption) ((Below.refl _ _).drew) | exact JwT.keep hl1 hl2 hl3 (by assumption) (by assumption)
  clear hK K
  try simp only [Act.put, List.setIfInBounds_toArray, List.set_cons_zero, List.set_cons_succ]
  refine wpAnyH_take (i := 7) (v := ?r17_vv7) (by (simp only [List.getElem?_toArray, List.getElem?_cons_succ, List.getElem?_cons_zero]; rfl)) (by kernel_rfl) (by kernel_rfl) (by kernel_rfl) (by exact fun _ _ _ h => h) (Or.inl ⟨by rfl, ?r17_hy7⟩) (by assumption) ?r17_rest7
  case r17_hy7 => intro w hSw; (try dsimp only at hSw); (go_simp <;> (with_reducible rfl))
  try simp only [Act.put, List.setIfInBounds_toArray, List.set_cons_zero, List.set_cons_succ]
  refine wpAnyH_take (i := 8) (v := ?r17_vv8) (by (simp only [List.getElem?_toArray, List.getElem?_cons_succ, List.getElem?_cons_zero]; rfl)) (by kernel_rfl) (by kernel_rfl) (by kernel_rfl) (by exact fun _ _ _ h => h) (Or.inl ⟨by rfl, ?r17_hy8⟩) (by assumption) ?r17_rest8
  case r17_hy8 => intro w hSw; (try dsimp only at hSw); (go_simp <;> (with_reducible rfl))
  try simp only [Act.put, List.setIfInBounds_toArray, List.set_cons_zero, List.set_cons_succ]
  refine wpAnyH_take (i := 9) (v := ?r17_vv9) (by (simp only [List.getElem?_toArray, List.getElem?_cons_succ, List.getElem?_cons_zero]; rfl)) (by kernel_rfl) (by kernel_rfl) (by kernel_rfl) (by exact fun _ _ _ h => h) (Or.inl ⟨by rfl, ?r17_hy9⟩) (by assumption) ?r17_rest9
  case r17_hy9 => intro w hSw; (try dsimp only at hSw); (go_simp <;> (with_reducible rfl))
  try simp only [Act.put, List.setIfInBounds_toArray, List.set_cons_zero, List.set_cons_succ]
  refine wpAnyH_take (i := 10) (v := ?r17_vv10) (by (simp only [List.getElem?_toArray, List.getElem?_cons_succ, List.getElem?_cons_zero]; rfl)) (by kernel_rfl) (by kernel_rfl) (by kernel_rfl) (by exact fun _ _ _ h => h) (Or.inl ⟨by rfl, ?r17_hy10⟩) (by assumption) ?r17_rest10
  case r17_hy10 => intro w hSw; (try dsimp only at hSw); (go_simp <;> (with_reducible rfl))
  try simp only [Act.put, List.setIfInBounds_toArray, List.set_cons_zero, List.set_cons_succ]
  refine wpAnyH_take (i := 11) (v := ?r17_vv11) (by (simp only [List.getElem?_toArray, List.getElem?_cons_succ, List.getElem?_cons_zero]; rfl)) (by kernel_rfl) (by kernel_rfl) (by kernel_rfl) (by exact fun _ _ _ h => h) (Or.inl ⟨by rfl, ?r17_hy11⟩) (by assumption) ?r17_rest11
  case r17_hy11 => intro w hSw; (try dsimp only at hSw); (go_simp <;> (with_reducible rfl))
  try simp only [Act.put, List.setIfInBounds_toArray, List.set_cons_zero, List.set_cons_succ]
  refine wpAnyH_done (by kernel_rfl) ?_ _
  have h9 := And.left (b := _) (show JwT W5 W.heap.size (W.heap.size + 1) (W.heap.size + 1 + 1) q.w q.h (.slice A q.sl.length cap) a1 a2 y9 by assumption)
  have h8 := And.left (b := _) (show JwT W5 W.heap.size (W.heap.size + 1) (W.heap.size + 1 + 1) q.w q.h (.slice A q.sl.length cap) a1 a2 x3 by assumption)
  have hO9 := hO9.more h8.size
  have Rw0_ := Lib.hid (hO9.more (show W.heap.size + 1 + 1 + 1 ≤ _ from K_a2.out.lt))
  have HB := Lib.hid (ext_trans HB.out h9)
  have KQ := Lib.hid (KQ.out.ext h9)
  have K_a1 := Lib.hid (K_a1.out.ext h9)
  have K_a2 := Lib.hid (K_a2.out.ext h9)
  have Rw0 := Lib.hid Rw0_.out
  clear Rw0_
  clear hS h9 h8 hO9 hl1 hl2 hl3 hb1 hb2 hb3 hb9 hO1
  repeat clear hHeld
  have k0 := KQ.out.cell 0 _ rfl
  have k1 := KQ.out.cell 1 _ rfl
  have k2 := KQ.out.cell 2 _ rfl
  go_wp2_with fail
  refine (toSquare_calls q.w q.h _ q.sl _ (HS0.out.ext HB.out) hn).mono ?_
  rintro e w_1 ⟨z_x0, rfl, hO1, hb1⟩
  obtain ⟨Ax, capx, rfl, -, -, -⟩ := (hO1.sl Slab.c_len).slab
  have Dw0_x0 := Lib.hid (show Apart v_w0 (.slice Ax q.sl.length capx) from fun j h1 h2 => by have := Rw0.out.lt j h1; have := hO1.base j h2; omega)
  have Rx0_ := Lib.hid (hO1.more (show W.heap.size + 1 + 1 + 1 ≤ _ from K_a2.out.lt))
  have KX := Lib.hid (Bk.new w_1 34 #[.int .i8 q.w, .int .i8 q.h, .slice Ax q.sl.length capx] w_1.heap.size rfl)
  have HXrx0 := Lib.hid (show ∀ j, (Value.slice Ax q.sl.length capx).ownBlock = some j → w_1.heap.size = j → False from fun j h1 h2 => by have := hO1.lt j h1; omega)
  have hb1 := ext_alloc hb1 (.cells #[.int .i8 q.w, .int .i8 q.h, .slice Ax q.sl.length capx] 34)
  have Rx0_ := Lib.hid (Rx0_.out.alloc (.cells #[.int .i8 q.w, .int .i8 q.h, .slice Ax q.sl.length capx] 34))
  clear k0 k1 k2
  have HB := Lib.hid (ext_trans HB.out hb1)
  have KQ := Lib.hid (KQ.out.ext hb1)
  have K_a1 := Lib.hid (K_a1.out.ext hb1)
  have K_a2 := Lib.hid (K_a2.out.ext hb1)
  have Rw0 := Lib.hid (Rw0.out.ext hb1)
  have Rx0 := Lib.hid Rx0_.out
  clear Rx0_
  clear hO1 hb1
  go_wp2_with fail
  generalize w_1.alloc (.cells #[.int .i8 q.w, .int .i8 q.h, .slice Ax q.sl.length capx] 34) = wx at *
  generalize hX : w_1.heap.size = X at *
  clear hX
  have hl1 := KX.out.lt
  have hl2 := K_a1.out.lt
  have hl3 := K_a2.out.lt
  have hS : JwT wx X (W.heap.size + 1) (W.heap.size + 1 + 1) q.w q.h (.slice Ax q.sl.length capx) a1 a2 wx := ⟨Below.refl _ _, KX.out.cell 0 _ rfl, KX.out.cell 1 _ rfl, KX.out.cell 2 _ rfl, K_a1.out.cell 0 _ rfl, K_a1.out.cell 1 _ rfl, K_a2.out.cell 0 _ rfl, K_a2.out.cell 1 _ rfl⟩
  refine wp_region_held_drew (S := (JwT wx X (W.heap.size + 1) (W.heap.size + 1 + 1) q.w q.h (.slice Ax q.sl.length capx) a1 a2)) (by kernel_rfl) ?r18_hS0 (fun hHeld => ?r18_rest)
  case r18_hS0 => (try dsimp only); first | assumption | exact JwT.keep hl1 hl2 hl3 (by assumption) ((Below.refl _ _).drew) | exact JwT.keep hl1 hl2 hl3 (by assumption) (by assumption)
  refine wpAnyH_take (i := 0) (v := ?r18_vv0) (by (simp only [List.getElem?_toArray, List.getElem?_cons_succ, List.getElem?_cons_zero]; rfl)) (by kernel_rfl) (by kernel_rfl) (by kernel_rfl) (by exact fun _ _ _ h => h) (Or.inl ⟨by rfl, ?r18_hy0⟩) (by assumption) ?r18_rest0
  case r18_hy0 => intro w hSw; (try dsimp only at hSw); (go_simp <;> (with_reducible rfl))
  try simp only [Act.put, List.setIfInBounds_toArray, List.set_cons_zero, List.set_cons_succ]
  refine wpAnyH_take (i := 1) (v := ?r18_vv1) (by (simp only [List.getElem?_toArray, List.getElem?_cons_succ, List.getElem?_cons_zero]; rfl)) (by kernel_rfl) (by kernel_rfl) (by kernel_rfl) (by exact fun _ _ _ h => h) (Or.inl ⟨by rfl, ?r18_hy1⟩) (by assumption) ?r18_rest1
  case r18_hy1 => intro w hSw; (try dsimp only at hSw); (go_simp <;> (with_reducible rfl))
  try simp only [Act.put, List.setIfInBounds_toArray, List.set_cons_zero, List.set_cons_succ]
  refine wpAnyH_take (i := 3) (v := ?r18_vv3) (by (simp only [List.getElem?_toArray, List.getElem?_cons_succ, List.getElem?_cons_zero]; rfl)) (by kernel_rfl) (by kernel_rfl) (by kernel_rfl) (by exact fun _ _ _ h => h) (Or.inl ⟨by rfl, ?r18_hy3⟩) (by assumption) ?r18_rest3
  case r18_hy3 => intro w hSw; (try dsimp only at hSw); (go_simp <;> (with_reducible rfl))
  try simp only [Act.put, List.setIfInBounds_toArray, List.set_cons_zero, List.set_cons_succ]
  refine wpAnyH_ready (rs := [2]) (by kernel_rfl) (by simp) ?_
  refine AllReadyH.cons (by (simp only [List.getElem?_toArray, List.getElem?_cons_succ, List.getElem?_cons_zero]; rfl)) (fun K hK => ?_) AllReadyH.nil
  go_simp
  (go_at_call 13; with_reducible refine (qtc_a1.out _).mono ?_; rintro e x1 ⟨rfl, hb2⟩)
  try go_wp2_with fail
  refine hK.out _ _ ?r18_hS2 (fun hHeld => ?r18_r2)
  case r18_hS2 => (try dsimp only); first | assumption | exact JwT.keep hl1 hl2 hl3 (by assumption) ((Below.refl _ _).drew) | exact JwT.keep hl1 hl2 hl3 (by assumption) (by assumption)
  clear hK K
  try simp only [Act.put, List.setIfInBounds_toArray, List.set_cons_zero, List.set_cons_succ]
  refine wpAnyH_ready (rs := [4]) (by kernel_rfl) (by simp) ?_
  refine AllReadyH.cons (by (simp only [List.getElem?_toArray, List.getElem?_cons_succ, List.getElem?_cons_zero]; rfl)) (fun K hK => ?_) AllReadyH.nil
  go_simp
  (go_at_call 13; with_reducible refine (qtc_a2.out _).mono ?_; rintro e x2 ⟨rfl, hb3⟩)
  try go_wp2_with fail
  refine hK.out _ _ ?r18_hS4 (fun hHeld => ?r18_r4)
  case r18_hS4 => (try dsimp only); first | assumption | exact JwT.keep hl1 hl2 hl3 (by assumption) ((Below.refl _ _).drew) | exact JwT.keep hl1 hl2 hl3 (by assumption) (by assumption)
  clear hK K
  try simp only [Act.put, List.setIfInBounds_toArray, List.set_cons_zero, List.set_cons_succ]
  refine wpAnyH_ready (rs := [5]) (by kernel_rfl) (by simp) ?_
  refine AllReadyH.cons (by (simp only [List.getElem?_toArray, List.getElem?_cons_succ, List.getElem?_cons_zero]; rfl)) (fun K hK => ?_) AllReadyH.nil
  go_simp
  (go_at_call 33; refine (HIC.out _ _ ((Rx0.out.sl Slab.c_len).ext (And.left (b := _) (by assumption)))).mono ?_; rintro e y9 ⟨v_g0, rfl, hO9, hb9⟩)
  try go_wp2_with fail
  refine hK.out _ _ ?r18_hS5 (fun hHeld => ?r18_r5)
  case r18_hS5 => (try dsimp only); first | assumption | exact JwT.keep hl1 hl2 hl3 (by assumption) ((Below.refl _ _).drew) | exact JwT.keep hl1 hl2 hl3 (by assumption) (by assumption)
  clear hK K
  try simp only [Act.put, List.setIfInBounds_toArray, List.set_cons_zero, List.set_cons_succ]
  refine wpAnyH_take (i := 6) (v := ?r18_vv6) (by (simp only [List.getElem?_toArray, List.getElem?_cons_succ, List.getElem?_cons_zero]; rfl)) (by kernel_rfl) (by kernel_rfl) (by kernel_rfl) (by exact fun _ _ _ h => h) (Or.inl ⟨by rfl, ?r18_hy6⟩) (by assumption) ?r18_rest6
  case r18_hy6 => intro w hSw; (try dsimp only at hSw); (go_simp <;> (with_reducible rfl))
  try simp only [Act.put, List.setIfInBounds_toArray, List.set_cons_zero, List.set_cons_succ]
  refine wpAnyH_take (i := 7) (v := ?r18_vv7) (by (simp only [List.getElem?_toArray, List.getElem?_cons_succ, List.getElem?_cons_zero]; rfl)) (by kernel_rfl) (by kernel_rfl) (by kernel_rfl) (by exact fun _ _ _ h => h) (Or.inl ⟨by rfl, ?r18_hy7⟩) (by assumption) ?r18_rest7
  case r18_hy7 => intro w hSw; (try dsimp only at hSw); (go_simp <;> (with_reducible rfl))
  try simp only [Act.put, List.setIfInBounds_toArray, List.set_cons_zero, List.set_cons_succ]
  refine wpAnyH_take (i := 8) (v := ?r18_vv8) (by (simp only [List.getElem?_toArray, List.getElem?_cons_succ, List.getElem?_cons_zero]; rfl)) (by kernel_rfl) (by kernel_rfl) (by kernel_rfl) (by exact fun _ _ _ h => h) (Or.inl ⟨by rfl, ?r18_hy8⟩) (by assumption) ?r18_rest8
  case r18_hy8 => intro w hSw; (try dsimp only at hSw); (go_simp <;> (with_reducible rfl))
  try simp only [Act.put, List.setIfInBounds_toArray, List.set_cons_zero, List.set_cons_succ]
  refine wpAnyH_take (i := 9) (v := ?r18_vv9) (by (simp only [List.getElem?_toArray, List.getElem?_cons_succ, List.getElem?_cons_zero]; rfl)) (by kernel_rfl) (by kernel_rfl) (by kernel_rfl) (by exact fun _ _ _ h => h) (Or.inl ⟨by rfl, ?r18_hy9⟩) (by assumption) ?r18_rest9
  case r18_hy9 => intro w hSw; (try dsimp only at hSw); (go_simp <;> (with_reducible rfl))
  try simp only [Act.put, List.setIfInBounds_toArray, List.set_cons_zero, List.set_cons_succ]
  refine wpAnyH_take (i := 10) (v := ?r18_vv10) (by (simp only [List.getElem?_toArray, List.getElem?_cons_succ, List.getElem?_cons_zero]; rfl)) (by kernel_rfl) (by kernel_rfl) (by kernel_rfl) (by exact fun _ _ _ h => h) (Or.inl ⟨by rfl, ?r18_hy10⟩) (by assumption) ?r18_rest10
  case r18_hy10 => intro w hSw; (try dsimp only at hSw); (go_simp <;> (with_reducible rfl))
  try simp only [Act.put, List.setIfInBounds_toArray, List.set_cons_zero, List.set_cons_succ]
  refine wpAnyH_done (by kernel_rfl) ?_ _
  have h9 := And.left (b := _) (show JwT wx X (W.heap.size + 1) (W.heap.size + 1 + 1) q.w q.h (.slice Ax q.sl.length capx) a1 a2 y9 by assumption)
  have h8 := And.left (b := _) (show JwT wx X (W.heap.size + 1) (W.heap.size + 1 + 1) q.w q.h (.slice Ax q.sl.length capx) a1 a2 x2 by assumption)
  have hO9 := hO9.more h8.size
  have Dw0_g0 := Lib.hid (show Apart v_w0 v_g0 from fun j h1 h2 => by have := Rw0.out.lt j h1; have := hO9.base j h2; omega)
  have Dx0_g0 := Lib.hid (show Apart (.slice Ax q.sl.length capx) v_g0 from fun j h1 h2 => by have := Rx0.out.lt j h1; have := hO9.base j h2; omega)
  have Rg0_ := Lib.hid (hO9.more (show W.heap.size + 1 + 1 + 1 ≤ _ from K_a2.out.lt))
  have HXrg0 := Lib.hid (show ∀ j, (v_g0).ownBlock = some j → X = j → False from fun j h1 h2 => by have := hO9.base j h1; have := KX.out.lt; omega)
  have HB := Lib.hid (ext_trans HB.out h9)
  have KQ := Lib.hid (KQ.out.ext h9)
  have K_a1 := Lib.hid (K_a1.out.ext h9)
  have K_a2 := Lib.hid (K_a2.out.ext h9)
  have KX := Lib.hid (KX.out.ext h9)
  have Rw0 := Lib.hid (Rw0.out.ext h9)
  have Rx0 := Lib.hid (Rx0.out.ext h9)
  have Rg0 := Lib.hid Rg0_.out
  clear Rg0_
  clear hS h9 h8 hO9 hl1 hl2 hl3 hb2 hb3 hb9
  repeat clear hHeld
  go_wp2_with fail
  refine (eqInt64S_calls F.1 F.1 v_g0 v_w0 _ (Rg0.out.sl i64c_len) (Rw0.out.sl i64c_len)).mono ?_
  rintro e w_3 ⟨rfl, hb3⟩
  have HB := Lib.hid (ext_trans HB.out hb3)
  have KQ := Lib.hid (KQ.out.ext hb3)
  have K_a1 := Lib.hid (K_a1.out.ext hb3)
  have K_a2 := Lib.hid (K_a2.out.ext hb3)
  have KX := Lib.hid (KX.out.ext hb3)
  have Rw0 := Lib.hid (Rw0.out.ext hb3)
  have Rx0 := Lib.hid (Rx0.out.ext hb3)
  have Rg0 := Lib.hid (Rg0.out.ext hb3)
  clear hb3
  have hd : decide (F.1 = F.1) = true := by simp
  rw [hd]
  clear hd
  have hlx := KX.out.lt
  have hlq := KQ.out.lt
  go_wp2_with fail
  obtain ⟨W5, hW5⟩ : ∃ W5 : World, W5 = w_3 := ⟨_, rfl⟩
  subst hW5
  have hS : JxS W5 X W.heap.size q.w q.h (.slice Ax q.sl.length capx) (.slice A q.sl.length cap) W5 := ⟨Below.refl _ _, KX.out.cell 0 _ rfl, KX.out.cell 1 _ rfl, KX.out.cell 2 _ rfl, KQ.out.cell 0 _ rfl, KQ.out.cell 1 _ rfl, KQ.out.cell 2 _ rfl⟩
  refine wp_region_held_drew (S := (JxS W5 X W.heap.size q.w q.h (.slice Ax q.sl.length capx) (.slice A q.sl.length cap))) (by kernel_rfl) ?r19_hS0 (fun hHeld => ?r19_rest)
  case r19_hS0 => (try dsimp only); first | assumption | exact JxS.keep hlx hlq (by assumption) ((Below.refl _ _).drew) | exact JxS.keep hlx hlq (by assumption) (by assumption)
  refine wpAnyH_take (i := 0) (v := ?r19_vv0) (by (simp only [List.getElem?_toArray, List.getElem?_cons_succ, List.getElem?_cons_zero]; rfl)) (by kernel_rfl) (by kernel_rfl) (by kernel_rfl) (by exact fun _ _ _ h => h) (Or.inl ⟨by rfl, ?r19_hy0⟩) (by assumption) ?r19_rest0
  case r19_hy0 => intro w hSw; (try dsimp only at hSw); (go_simp <;> (with_reducible rfl))
  try simp only [Act.put, List.setIfInBounds_toArray, List.set_cons_zero, List.set_cons_succ]
  refine wpAnyH_take (i := 1) (v := ?r19_vv1) (by (simp only [List.getElem?_toArray, List.getElem?_cons_succ, List.getElem?_cons_zero]; rfl)) (by kernel_rfl) (by kernel_rfl) (by kernel_rfl) (by exact fun _ _ _ h => h) (Or.inl ⟨by rfl, ?r19_hy1⟩) (by assumption) ?r19_rest1
  case r19_hy1 => intro w hSw; (try dsimp only at hSw); (go_simp <;> (with_reducible rfl))
  try simp only [Act.put, List.setIfInBounds_toArray, List.set_cons_zero, List.set_cons_succ]
  refine wpAnyH_ready (rs := [2]) (by kernel_rfl) (by simp) ?_
  refine AllReadyH.cons (by (simp only [List.getElem?_toArray, List.getElem?_cons_succ, List.getElem?_cons_zero]; rfl)) (fun K hK => ?_) AllReadyH.nil
  go_simp
  (go_at_call 12; refine (toSquare_calls q.w q.h _ q.sl _ (HS0.out.ext (ext_trans HB.out (And.left (b := _) (by assumption)))) hn).mono ?_; rintro e x9 ⟨z9, rfl, hO9, hb9⟩)
  try go_wp2_with fail
  refine hK.out _ _ ?r19_hS2 (fun hHeld => ?r19_r2)
  case r19_hS2 => (try dsimp only); first | assumption | exact JxS.keep hlx hlq (by assumption) ((Below.refl _ _).drew) | exact JxS.keep hlx hlq (by assumption) (by assumption)
  clear hK K
  try simp only [Act.put, List.setIfInBounds_toArray, List.set_cons_zero, List.set_cons_succ]
  refine wpAnyH_ready (rs := [3]) (by kernel_rfl) (by simp) ?_
  refine AllReadyH.cons (by (simp only [List.getElem?_toArray, List.getElem?_cons_succ, List.getElem?_cons_zero]; rfl)) (fun K hK => ?_) AllReadyH.nil
  go_simp
  (go_at_call 16; refine (eqSquare_calls _ _ _ _ _ _ q.sl q.sl _ ((Rx0.out.sl Slab.c_len).ext (And.left (b := _) (by assumption))) (hO9.sl Slab.c_len) rfl rfl).mono ?_; rintro e w15 ⟨rfl, hb10⟩)
  try go_wp2_with fail
  refine hK.out _ _ ?r19_hS3 (fun hHeld => ?r19_r3)
  case r19_hS3 => (try dsimp only); first | assumption | exact JxS.keep hlx hlq (by assumption) ((Below.refl _ _).drew) | exact JxS.keep hlx hlq (by assumption) (by assumption)
  clear hK K
  try simp only [Act.put, List.setIfInBounds_toArray, List.set_cons_zero, List.set_cons_succ]
  refine wpAnyH_take (i := 4) (v := ?r19_vv4) (by (simp only [List.getElem?_toArray, List.getElem?_cons_succ, List.getElem?_cons_zero]; rfl)) (by kernel_rfl) (by kernel_rfl) (by kernel_rfl) (by exact fun _ _ _ h => h) (Or.inl ⟨by rfl, ?r19_hy4⟩) (by assumption) ?r19_rest4
  case r19_hy4 => intro w hSw; (try dsimp only at hSw); (go_simp <;> (with_reducible rfl))
  try simp only [Act.put, List.setIfInBounds_toArray, List.set_cons_zero, List.set_cons_succ]
  refine wpAnyH_done (by kernel_rfl) ?_ _
  have h9 := And.left (b := _) (show JxS W5 X W.heap.size q.w q.h (.slice Ax q.sl.length capx) (.slice A q.sl.length cap) w15 by assumption)
  have hdq : decide (q.sl = q.sl) = true := by simp
  have HB := Lib.hid (ext_trans HB.out h9)
  have KQ := Lib.hid (KQ.out.ext h9)
  have K_a1 := Lib.hid (K_a1.out.ext h9)
  have K_a2 := Lib.hid (K_a2.out.ext h9)
  have KX := Lib.hid (KX.out.ext h9)
  have Rw0 := Lib.hid (Rw0.out.ext h9)
  have Rx0 := Lib.hid (Rx0.out.ext h9)
  have Rg0 := Lib.hid (Rg0.out.ext h9)
  clear hS h9 hO9 hb9 hb10 hlx hlq
  repeat clear hHeld
  have k0 := KX.out.cell 0 _ rfl
  have k1 := KX.out.cell 1 _ rfl
  have k2 := KX.out.cell 2 _ rfl
  go_wp2_with fail
  refine (markSquareG_calls q.w q.h _ q.sl _ (W.heap.size + 1 + 1 + 1) K_a2.out.lt Rx0.out 1 (by omega) (by omega) hn).mono ?_
  rintro e w_5 ⟨rfl, hg5⟩
  have HG := Lib.hid hg5
  clear hg5
  have HB := Lib.hid (HB.out.grown HG.out HB.out.size (fun j hj => by have := Rx0.out.base j hj; omega))
  have KQ := Lib.hid (show Bk _ _ _ _ from (HG.out.block _ KQ.out.lt (fun e => by have h1 := Rx0.out.base _ e.symm; omega)).trans KQ.out)
  have K_a1 := Lib.hid (show Bk _ _ _ _ from (HG.out.block _ K_a1.out.lt (fun e => by have h1 := Rx0.out.base _ e.symm; omega)).trans K_a1.out)
  have K_a2 := Lib.hid (show Bk _ _ _ _ from (HG.out.block _ K_a2.out.lt (fun e => by have h1 := Rx0.out.base _ e.symm; omega)).trans K_a2.out)
  have KX := Lib.hid (show Bk _ _ _ _ from (HG.out.block _ KX.out.lt (fun e => by have h1 := Rx0.out.base _ e.symm; have := HXrx0.out; exact this _ e.symm rfl)).trans KX.out)
  have Rw0 := Lib.hid (Rw0.out.keep fun j hj => HG.out.block j (Rw0.out.lt j hj) (fun e => Dw0_x0.out j hj e.symm))
  have Rg0 := Lib.hid (Rg0.out.keep fun j hj => HG.out.block j (Rg0.out.lt j hj) (fun e => (fun j h1 h2 => Dx0_g0.out j h2 h1) j hj e.symm))
  clear HG
  clear k0 k1 k2
  clear Rx0
  clear KX
  have hdk : decide ((1 : Int) + 4 * (q.sl.length : Int) < 0) = false := by rw [decide_eq_false_iff_not]; omega
  go_wp2_with fail
  refine (eqInt64S_calls F.1 F.1 v_g0 v_w0 _ (Rg0.out.sl i64c_len) (Rw0.out.sl i64c_len)).mono ?_
  rintro e w_6 ⟨rfl, hb6⟩
  have HB := Lib.hid (ext_trans HB.out hb6)
  have KQ := Lib.hid (KQ.out.ext hb6)
  have K_a1 := Lib.hid (K_a1.out.ext hb6)
  have K_a2 := Lib.hid (K_a2.out.ext hb6)
  have Rw0 := Lib.hid (Rw0.out.ext hb6)
  have Rg0 := Lib.hid (Rg0.out.ext hb6)
  clear hb6
  have hd : decide (F.1 = F.1) = true := by simp
  rw [hd]
  clear hd
  go_wp2_with fail
  refine (markInt64G_calls F.1 _ _ (W.heap.size + 1 + 1 + 1) K_a2.out.lt Rg0.out 1 (by omega) (by omega) (by have := HL.out; omega)).mono ?_
  rintro e w_7 ⟨rfl, hM7, -, hg7⟩
  have HG := Lib.hid hg7
  clear hg7
  have HB := Lib.hid (HB.out.grown HG.out HB.out.size (fun j hj => by have := Rg0.out.base j hj; omega))
  have KQ := Lib.hid (show Bk _ _ _ _ from (HG.out.block _ KQ.out.lt (fun e => by have h1 := Rg0.out.base _ e.symm; omega)).trans KQ.out)
  have K_a1 := Lib.hid (show Bk _ _ _ _ from (HG.out.block _ K_a1.out.lt (fun e => by have h1 := Rg0.out.base _ e.symm; omega)).trans K_a1.out)
  have K_a2 := Lib.hid (show Bk _ _ _ _ from (HG.out.block _ K_a2.out.lt (fun e => by have h1 := Rg0.out.base _ e.symm; omega)).trans K_a2.out)
  have Rw0 := Lib.hid (Rw0.out.keep fun j hj => HG.out.block j (Rw0.out.lt j hj) (fun e => Dw0_g0.out j hj e.symm))
  clear HG
  have Rg0 := Lib.hid hM7
  clear hM7
  go_wp2_with fail
  refine (heldInt64S_calls F.1.length v_g0 _ 1 (Rg0.out.sl i64c_len) (by omega) (by omega) (by have := HL.out; omega)).mono ?_
  rintro e w_8 ⟨rfl, hb8⟩
  have HB := Lib.hid (ext_trans HB.out hb8)
  have KQ := Lib.hid (KQ.out.ext hb8)
  have K_a1 := Lib.hid (K_a1.out.ext hb8)
  have K_a2 := Lib.hid (K_a2.out.ext hb8)
  have Rw0 := Lib.hid (Rw0.out.ext hb8)
  have Rg0 := Lib.hid (Rg0.out.ext hb8)
  clear hb8
  have hh1 : decide ((1 : Int) + (F.1.length : Int) < 0) = false := by rw [decide_eq_false_iff_not]; omega
  have hh2 : (((1 : Int) + (F.1.length : Int)) != (1 + (F.1.length : Int))) = false := by simp
  obtain ⟨W5, hW5⟩ : ∃ W5 : World, W5 = w_8 := ⟨_, rfl⟩
  subst hW5
  have hl1 := KQ.out.lt
  have hl2 := K_a1.out.lt
  have hl3 := K_a2.out.lt
  have hS : JwT W5 W.heap.size (W.heap.size + 1) (W.heap.size + 1 + 1) q.w q.h (.slice A q.sl.length cap) a1 a2 W5 := ⟨Below.refl _ _, KQ.out.cell 0 _ rfl, KQ.out.cell 1 _ rfl, KQ.out.cell 2 _ rfl, K_a1.out.cell 0 _ rfl, K_a1.out.cell 1 _ rfl, K_a2.out.cell 0 _ rfl, K_a2.out.cell 1 _ rfl⟩
  go_wp2_with fail
  refine wp_region_held_drew (S := (JwT W5 W.heap.size (W.heap.size + 1) (W.heap.size + 1 + 1) q.w q.h (.slice A q.sl.length cap) a1 a2)) (by kernel_rfl) ?r20_hS0 (fun hHeld => ?r20_rest)
  case r20_hS0 => (try dsimp only); first | assumption | exact JwT.keep hl1 hl2 hl3 (by assumption) ((Below.refl _ _).drew) | exact JwT.keep hl1 hl2 hl3 (by assumption) (by assumption)
  refine wpAnyH_take (i := 0) (v := ?r20_vv0) (by (simp only [List.getElem?_toArray, List.getElem?_cons_succ, List.getElem?_cons_zero]; rfl)) (by kernel_rfl) (by kernel_rfl) (by kernel_rfl) (by exact fun _ _ _ h => h) (Or.inl ⟨by rfl, ?r20_hy0⟩) (by assumption) ?r20_rest0
  case r20_hy0 => intro w hSw; (try dsimp only at hSw); (go_simp <;> (with_reducible rfl))
  try simp only [Act.put, List.setIfInBounds_toArray, List.set_cons_zero, List.set_cons_succ]
  refine wpAnyH_take (i := 2) (v := ?r20_vv2) (by (simp only [List.getElem?_toArray, List.getElem?_cons_succ, List.getElem?_cons_zero]; rfl)) (by kernel_rfl) (by kernel_rfl) (by kernel_rfl) (by exact fun _ _ _ h => h) (Or.inl ⟨by rfl, ?r20_hy2⟩) (by assumption) ?r20_rest2
  case r20_hy2 => intro w hSw; (try dsimp only at hSw); (go_simp <;> (with_reducible rfl))
  try simp only [Act.put, List.setIfInBounds_toArray, List.set_cons_zero, List.set_cons_succ]
  refine wpAnyH_take (i := 4) (v := ?r20_vv4) (by (simp only [List.getElem?_toArray, List.getElem?_cons_succ, List.getElem?_cons_zero]; rfl)) (by kernel_rfl) (by kernel_rfl) (by kernel_rfl) (by exact fun _ _ _ h => h) (Or.inl ⟨by rfl, ?r20_hy4⟩) (by assumption) ?r20_rest4
  case r20_hy4 => intro w hSw; (try dsimp only at hSw); (go_simp <;> (with_reducible rfl))
  try simp only [Act.put, List.setIfInBounds_toArray, List.set_cons_zero, List.set_cons_succ]
  refine wpAnyH_ready (rs := [1]) (by kernel_rfl) (by simp) ?_
  refine AllReadyH.cons (by (simp only [List.getElem?_toArray, List.getElem?_cons_succ, List.getElem?_cons_zero]; rfl)) (fun K hK => ?_) AllReadyH.nil
  go_simp
  (go_at_call 12; refine (toSquare_calls q.w q.h _ q.sl _ (HS0.out.ext (ext_trans HB.out (And.left (b := _) (by assumption)))) hn).mono ?_; rintro e x1 ⟨z1, rfl, hO1, hb1⟩)
  try go_wp2_with fail
  refine hK.out _ _ ?r20_hS1 (fun hHeld => ?r20_r1)
  case r20_hS1 => (try dsimp only); first | assumption | exact JwT.keep hl1 hl2 hl3 (by assumption) ((Below.refl _ _).drew) | exact JwT.keep hl1 hl2 hl3 (by assumption) (by assumption)
  clear hK K
  try simp only [Act.put, List.setIfInBounds_toArray, List.set_cons_zero, List.set_cons_succ]
  refine wpAnyH_ready (rs := [3]) (by kernel_rfl) (by simp) ?_
  refine AllReadyH.cons (by (simp only [List.getElem?_toArray, List.getElem?_cons_succ, List.getElem?_cons_zero]; rfl)) (fun K hK => ?_) AllReadyH.nil
  go_simp
  (go_at_call 13; with_reducible refine (qtc_a1.out _).mono ?_; rintro e x2 ⟨rfl, hb2⟩)
  try go_wp2_with fail
  refine hK.out _ _ ?r20_hS3 (fun hHeld => ?r20_r3)
  case r20_hS3 => (try dsimp only); first | assumption | exact JwT.keep hl1 hl2 hl3 (by assumption) ((Below.refl _ _).drew) | exact JwT.keep hl1 hl2 hl3 (by assumption) (by assumption)
  clear hK K
  try simp only [Act.put, List.setIfInBounds_toArray, List.set_cons_zero, List.set_cons_succ]
  refine wpAnyH_ready (rs := [5]) (by kernel_rfl) (by simp) ?_
  refine AllReadyH.cons (by (simp only [List.getElem?_toArray, List.getElem?_cons_succ, List.getElem?_cons_zero]; rfl)) (fun K hK => ?_) AllReadyH.nil
  go_simp
  (go_at_call 13; with_reducible refine (qtc_a2.out _).mono ?_; rintro e x3 ⟨rfl, hb3⟩)
  try go_wp2_with fail
  refine hK.out _ _ ?r20_hS5 (fun hHeld => ?r20_r5)
  case r20_hS5 => (try dsimp only); first | assumption | exact JwT.keep hl1 hl2 hl3 (by assumption) ((Below.refl _ _).drew) | exact JwT.keep hl1 hl2 hl3 (by assumption) (by assumption)
  clear hK K
  try simp only [Act.put, List.setIfInBounds_toArray, List.set_cons_zero, List.set_cons_succ]
  refine wpAnyH_ready (rs := [6]) (by kernel_rfl) (by simp) ?_
  refine AllReadyH.cons (by (simp only [List.getElem?_toArray, List.getElem?_cons_succ, List.getElem?_cons_zero]; rfl)) (fun K hK => ?_) AllReadyH.nil
  go_simp
  (go_at_call 33; refine (HIC.out _ _ (((hO1.sl Slab.c_len).ext hb2).ext hb3)).mono ?_; rintro e y9 ⟨v_h0, rfl, hO9, hb9⟩)
  try go_wp2_with fail
  refine hK.out _ _ ?r20_hS6 (fun hHeld => ?r20_r6)
  case r20_hS6 => (try dsimp only); first | assumption | exact JwT.keep hl1 hl2 hl3 (by assumption) ((Below.refl _ _).drew) | exact JwT.keep hl1 hl2 hl3 (by assumption) (by assumption)
  clear hK K
  try simp only [Act.put, List.setIfInBounds_toArray, List.set_cons_zero, List.set_cons_succ]
  refine wpAnyH_take (i := 7) (v := ?r20_vv7) (by (simp only [List.getElem?_toArray, List.getElem?_cons_succ, List.getElem?_cons_zero]; rfl)) (by kernel_rfl) (by kernel_rfl) (by kernel_rfl) (by exact fun _ _ _ h => h) (Or.inl ⟨by rfl, ?r20_hy7⟩) (by assumption) ?r20_rest7
  case r20_hy7 => intro w hSw; (try dsimp only at hSw); (go_simp <;> (with_reducible rfl))
  try simp only [Act.put, List.setIfInBounds_toArray, List.set_cons_zero, List.set_cons_succ]
  refine wpAnyH_take (i := 8) (v := ?r20_vv8) (by (simp only [List.getElem?_toArray, List.getElem?_cons_succ, List.getElem?_cons_zero]; rfl)) (by kernel_rfl) (by kernel_rfl) (by kernel_rfl) (by exact fun _ _ _ h => h) (Or.inl ⟨by rfl, ?r20_hy8⟩) (by assumption) ?r20_rest8
  case r20_hy8 => intro w hSw; (try dsimp only at hSw); (go_simp <;> (with_reducible rfl))
  try simp only [Act.put, List.setIfInBounds_toArray, List.set_cons_zero, List.set_cons_succ]
  refine wpAnyH_take (i := 9) (v := ?r20_vv9) (by (simp only [List.getElem?_toArray, List.getElem?_cons_succ, List.getElem?_cons_zero]; rfl)) (by kernel_rfl) (by kernel_rfl) (by kernel_rfl) (by exact fun _ _ _ h => h) (Or.inl ⟨by rfl, ?r20_hy9⟩) (by assumption) ?r20_rest9
  case r20_hy9 => intro w hSw; (try dsimp only at hSw); (go_simp <;> (with_reducible rfl))
  try simp only [Act.put, List.setIfInBounds_toArray, List.set_cons_zero, List.set_cons_succ]
  refine wpAnyH_take (i := 10) (v := ?r20_vv10) (by (simp only [List.getElem?_toArray, List.getElem?_cons_succ, List.getElem?_cons_zero]; rfl)) (by kernel_rfl) (by kernel_rfl) (by kernel_rfl) (by exact fun _ _ _ h => h) (Or.inl ⟨by rfl, ?r20_hy10⟩) (by assumption) ?r20_rest10
  case r20_hy10 => intro w hSw; (try dsimp only at hSw); (go_simp <;> (with_reducible rfl))
  try simp only [Act.put, List.setIfInBounds_toArray, List.set_cons_zero, List.set_cons_succ]
  refine wpAnyH_take (i := 11) (v := ?r20_vv11) (by (simp only [List.getElem?_toArray, List.getElem?_cons_succ, List.getElem?_cons_zero]; rfl)) (by kernel_rfl) (by kernel_rfl) (by kernel_rfl) (by exact fun _ _ _ h => h) (Or.inl ⟨by rfl, ?r20_hy11⟩) (by assumption) ?r20_rest11
  case r20_hy11 => intro w hSw; (try dsimp only at hSw); (go_simp <;> (with_reducible rfl))
  try simp only [Act.put, List.setIfInBounds_toArray, List.set_cons_zero, List.set_cons_succ]
  refine wpAnyH_done (by kernel_rfl) ?_ _
  have h9 := And.left (b := _) (show JwT W5 W.heap.size (W.heap.size + 1) (W.heap.size + 1 + 1) q.w q.h (.slice A q.sl.length cap) a1 a2 y9 by assumption)
  have h8 := And.left (b := _) (show JwT W5 W.heap.size (W.heap.size + 1) (W.heap.size + 1 + 1) q.w q.h (.slice A q.sl.length cap) a1 a2 x3 by assumption)
  have hO9 := hO9.more h8.size
  have Rh0_ := Lib.hid (hO9.more (show W.heap.size + 1 + 1 + 1 ≤ _ from K_a2.out.lt))
  have HB := Lib.hid (ext_trans HB.out h9)
  have KQ := Lib.hid (KQ.out.ext h9)
  have K_a1 := Lib.hid (K_a1.out.ext h9)
  have K_a2 := Lib.hid (K_a2.out.ext h9)
  have Rw0 := Lib.hid (Rw0.out.ext h9)
  have Rg0 := Lib.hid (Rg0.out.ext h9)
  have Rh0 := Lib.hid Rh0_.out
  clear Rh0_
  clear hS h9 h8 hO9 hl1 hl2 hl3 hb1 hb2 hb3 hb9 hO1
  repeat clear hHeld
  go_wp2_with fail
  refine (eqInt64S_calls F.1 F.1 v_h0 v_w0 _ (Rh0.out.sl i64c_len) (Rw0.out.sl i64c_len)).mono ?_
  rintro e w_9 ⟨rfl, hb9⟩
  have HB := Lib.hid (ext_trans HB.out hb9)
  have KQ := Lib.hid (KQ.out.ext hb9)
  have K_a1 := Lib.hid (K_a1.out.ext hb9)
  have K_a2 := Lib.hid (K_a2.out.ext hb9)
  have Rw0 := Lib.hid (Rw0.out.ext hb9)
  have Rg0 := Lib.hid (Rg0.out.ext hb9)
  have Rh0 := Lib.hid (Rh0.out.ext hb9)
  clear hb9
  have hd : decide (F.1 = F.1) = true := by simp
  rw [hd]
  clear hd
  go_wp2_with fail
  refine (heldInt64S_calls F.1.length v_g0 _ 1 (Rg0.out.sl i64c_len) (by omega) (by omega) (by have := HL.out; omega)).mono ?_
  rintro e w_10 ⟨rfl, hb10⟩
  have HB := Lib.hid (ext_trans HB.out hb10)
  have KQ := Lib.hid (KQ.out.ext hb10)
  have K_a1 := Lib.hid (K_a1.out.ext hb10)
  have K_a2 := Lib.hid (K_a2.out.ext hb10)
  have Rw0 := Lib.hid (Rw0.out.ext hb10)
  have Rg0 := Lib.hid (Rg0.out.ext hb10)
  have Rh0 := Lib.hid (Rh0.out.ext hb10)
  clear hb10
  go_wp2_with fail
  go_ret
  exact ⟨rfl, HB.out⟩
end Go.Proofs.Yteflpdfajfljfaa
