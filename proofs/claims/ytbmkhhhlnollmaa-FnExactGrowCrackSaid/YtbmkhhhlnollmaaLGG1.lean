/-
The law on GrowCrack, walked: it answers true. Conditions: numbers are of their kinds, slices can be read.
-/
import Derived.Test.YtbmkhhhlnollmaaGR5
import Derived.Test.YtbmkhhhlnollmaaMark2
import Derived.Test.YtbmkhhhlnollmaaSQ13
set_option linter.unusedVariables false
set_option linter.unusedSimpArgs false
set_option maxRecDepth 100000
namespace Go.Proofs.Ytbmkhhhlnollmaa
open Go.RowKit
abbrev JwS (W0 : World) (b c : Nat) (w h : Int) (z : Value) (p : Cell) (w' : World) : Prop :=
  Below W0.heap.size W0 w' ∧ w'.cell? ⟨b, 0, none⟩ = some (.int .i8 w) ∧ w'.cell? ⟨b, 1, none⟩ = some (.int .i8 h) ∧ w'.cell? ⟨b, 2, none⟩ = some z ∧ w'.cell? ⟨c, 0, none⟩ = some (.int .i8 p.x) ∧ w'.cell? ⟨c, 1, none⟩ = some (.int .i8 p.y)
theorem JwS.keep {W0 w1 w2 : World} {b c : Nat} {w h : Int} {z : Value} {p : Cell} (hb : b < W0.heap.size) (hc : c < W0.heap.size) (hS : JwS W0 b c w h z p w1) (k : Below w1.heap.size w1 w2) : JwS W0 b c w h z p w2 := by
  obtain ⟨h0, h1, h2, h3, h4, h5⟩ := hS
  have q : ∀ o, w2.cell? ⟨b, o, none⟩ = w1.cell? ⟨b, o, none⟩ := fun o => k.cell (p := ⟨b, o, none⟩) (Nat.lt_of_lt_of_le hb h0.size)
  have r : ∀ o, w2.cell? ⟨c, o, none⟩ = w1.cell? ⟨c, o, none⟩ := fun o => k.cell (p := ⟨c, o, none⟩) (Nat.lt_of_lt_of_le hc h0.size)
  exact ⟨ext_trans h0 k, (q _).trans h1, (q _).trans h2, (q _).trans h3, (r _).trans h4, (r _).trans h5⟩
abbrev JxS (W0 : World) (b c : Nat) (w h : Int) (z u : Value) (w' : World) : Prop :=
  Below W0.heap.size W0 w' ∧ w'.cell? ⟨b, 0, none⟩ = some (.int .i8 w) ∧ w'.cell? ⟨b, 1, none⟩ = some (.int .i8 h) ∧ w'.cell? ⟨b, 2, none⟩ = some z ∧ w'.cell? ⟨c, 0, none⟩ = some (.int .i8 w) ∧ w'.cell? ⟨c, 1, none⟩ = some (.int .i8 h) ∧ w'.cell? ⟨c, 2, none⟩ = some u
theorem JxS.keep {W0 w1 w2 : World} {b c : Nat} {w h : Int} {z u : Value} (hb : b < W0.heap.size) (hc : c < W0.heap.size) (hS : JxS W0 b c w h z u w1) (k : Below w1.heap.size w1 w2) : JxS W0 b c w h z u w2 := by
  obtain ⟨h0, h1, h2, h3, h4, h5, h6⟩ := hS
  have q : ∀ o, w2.cell? ⟨b, o, none⟩ = w1.cell? ⟨b, o, none⟩ := fun o => k.cell (p := ⟨b, o, none⟩) (Nat.lt_of_lt_of_le hb h0.size)
  have r : ∀ o, w2.cell? ⟨c, o, none⟩ = w1.cell? ⟨c, o, none⟩ := fun o => k.cell (p := ⟨c, o, none⟩) (Nat.lt_of_lt_of_le hc h0.size)
  exact ⟨ext_trans h0 k, (q _).trans h1, (q _).trans h2, (q _).trans h3, (r _).trans h4, (r _).trans h5, (r _).trans h6⟩
theorem growL_len (sl : List Slab) : ∀ (n : Nat) (out : List Cell) (p : Cell) (way : Int), (growL sl n out p way).length ≤ out.length + n
  | 0, out, p, way => by simp [growL]
  | n + 1, out, p, way => by
    unfold growL
    split
    · omega
    · split
      · omega
      · have := growL_len sl n (out ++ [aheadC p (turnAt sl p way)]) (aheadC p (turnAt sl p way)) (turnAt sl p way)
        simp at this
        omega
theorem growCrack_len (w h : Int) (sl : List Slab) (p : Cell) (way years : Int) : (growCrack w h sl p way years).1.length ≤ 61 := by
  unfold growCrack
  split
  · rename_i hc
    obtain ⟨_, ⟨y0, y1⟩, _⟩ := growC_ok hc
    have := growL_len sl years.toNat [p] p way
    simp at this
    show (growL sl years.toNat [p] p way).length ≤ 61
    omega
  · simp
set_option maxHeartbeats 4000000 in
theorem law_FnExactGrowCrack (W : World) (q : Sq) (z : Value) (hs : Sl W W.heap.size Slab.c 4 z q.sl) (hq : q.ok) (p : Cell) (hp : p.ok) (way : Int) (t0 : -9223372036854775808 ≤ way) (t1 : way ≤ 9223372036854775807) (years : Int) (u0 : -9223372036854775808 ≤ years) (u1 : years ≤ 9223372036854775807) :
    Calls Try.prog 5 #[q.v z, p.v, .int .i64 way, .int .i64 years] W fun e w' => e = .returned (.bool true) ∧ Below W.heap.size W w' := by
  obtain ⟨A, cap, rfl, -, -, -⟩ := hs.slab
  have HSC := Lib.hid (show ∀ z W', Sl W' W'.heap.size Slab.c 4 z q.sl → Calls Try.prog 30 #[.agg #[.int .i8 q.w, .int .i8 q.h, z], .agg #[.int .i8 p.x, .int .i8 p.y], .int .i64 way, .int .i64 years] W' (RetC2 W' (growCrack q.w q.h q.sl p way years)) from fun z W' h => specGrowCrack_calls q.w q.h z q.sl p hp way years W' ⟨hq.w0, hq.w1, hq.h0, hq.h1, hq.sl, h⟩)
  have HIC := Lib.hid (show ∀ z W', Sl W' W'.heap.size Slab.c 4 z q.sl → Calls Try.prog 31 #[.agg #[.int .i8 q.w, .int .i8 q.h, z], .agg #[.int .i8 p.x, .int .i8 p.y], .int .i64 way, .int .i64 years] W' (RetC2 W' (growCrack q.w q.h q.sl p way years)) from fun z W' h => implGrowCrack_calls q.w q.h z q.sl p hp way years W' ⟨hq.w0, hq.w1, hq.h0, hq.h1, hq.sl, h⟩)
  have HL := Lib.hid (growCrack_len q.w q.h q.sl p way years)
  generalize growCrack q.w q.h q.sl p way years = F at HSC HIC HL
  have qtc := Lib.hid (show ∀ W', Calls Try.prog 17 #[.agg #[.int .i8 p.x, .int .i8 p.y]] W' (fun e w' => e = .returned (.agg #[.int .i8 p.x, .int .i8 p.y]) ∧ Below W'.heap.size W' w') from fun W' => toCell_calls p W')
  have hB := ext_alloc ((Below.refl W.heap.size W).alloc (Nat.le_refl _) (.cells #[.int .i8 q.w, .int .i8 q.h, .slice A q.sl.length cap] 25)) (.cells #[.int .i8 p.x, .int .i8 p.y] 27)
  have HB := Lib.hid hB
  have HS0 := Lib.hid (hs.ext hB)
  have KQ := Lib.hid ((Bk.new W 25 #[.int .i8 q.w, .int .i8 q.h, .slice A q.sl.length cap] W.heap.size rfl).alloc (.cells #[.int .i8 p.x, .int .i8 p.y] 27))
  have KC := Lib.hid (Bk.new (W.alloc (.cells #[.int .i8 q.w, .int .i8 q.h, .slice A q.sl.length cap] 25)) 27 #[.int .i8 p.x, .int .i8 p.y] (W.heap.size + 1) (by simp))
  have hlen := Lib.hid hs.len
  have HS00 := Lib.hid hs
  clear hB hs hq hp
  unfold Sq.v Cell.v
  go_enter Try.func5, Try.ntmps5
  go_wp2_with fail
  refine (szSquare_calls q.w q.h _ q.sl _ _ (by omega) (by omega) HS0.out).mono ?_
  rintro e w1 ⟨rfl, hb1⟩
  have HB := Lib.hid (ext_trans HB.out hb1)
  have HS0 := Lib.hid (HS0.out.ext hb1)
  have KQ := Lib.hid (KQ.out.ext hb1)
  have KC := Lib.hid (KC.out.ext hb1)
  clear hb1
  by_cases hl : (1048576 : Int) < q.sl.length
  · rw [if_pos hl]
    go_wp2_with fail
    go_ret
    exact ⟨rfl, HB.out⟩
  rw [if_neg hl]
  have hn : q.sl.length ≤ 1048576 := by omega
  have hd0 : decide ((1048576 : Int) - (q.sl.length : Int) < 0) = false := by rw [decide_eq_false_iff_not]; omega
  have hl1 := KQ.out.lt
  have hl2 := KC.out.lt
  have hS : JwS w1 W.heap.size (W.heap.size + 1) q.w q.h (.slice A q.sl.length cap) p w1 := ⟨Below.refl _ _, KQ.out.cell 0 _ rfl, KQ.out.cell 1 _ rfl, KQ.out.cell 2 _ rfl, KC.out.cell 0 _ rfl, KC.out.cell 1 _ rfl⟩
  go_wp2_with fail
  refine wp_region_held_drew (S := (JwS w1 W.heap.size (W.heap.size + 1) q.w q.h (.slice A q.sl.length cap) p)) (by kernel_rfl) ?r1_hS0 (fun hHeld => ?r1_rest)
  case r1_hS0 => (try dsimp only); first | assumption | exact JwS.keep hl1 hl2 (by assumption) ((Below.refl _ _).drew) | exact JwS.keep hl1 hl2 (by assumption) (by assumption)
  refine wpAnyH_take (i := 0) (v := ?r1_vv0) (by (simp only [List.getElem?_toArray, List.getElem?_cons_succ, List.getElem?_cons_zero]; rfl)) (by kernel_rfl) (by kernel_rfl) (by kernel_rfl) (by exact fun _ _ _ h => h) (Or.inl ⟨by rfl, ?r1_hy0⟩) (by assumption) ?r1_rest0
  case r1_hy0 => intro w hSw; (try dsimp only at hSw); (go_simp <;> (with_reducible rfl))
  try simp only [Act.put, List.setIfInBounds_toArray, List.set_cons_zero, List.set_cons_succ]
  refine wpAnyH_take (i := 2) (v := ?r1_vv2) (by (simp only [List.getElem?_toArray, List.getElem?_cons_succ, List.getElem?_cons_zero]; rfl)) (by kernel_rfl) (by kernel_rfl) (by kernel_rfl) (by exact fun _ _ _ h => h) (Or.inl ⟨by rfl, ?r1_hy2⟩) (by assumption) ?r1_rest2
  case r1_hy2 => intro w hSw; (try dsimp only at hSw); (go_simp <;> (with_reducible rfl))
  try simp only [Act.put, List.setIfInBounds_toArray, List.set_cons_zero, List.set_cons_succ]
  refine wpAnyH_take (i := 4) (v := ?r1_vv4) (by (simp only [List.getElem?_toArray, List.getElem?_cons_succ, List.getElem?_cons_zero]; rfl)) (by kernel_rfl) (by kernel_rfl) (by kernel_rfl) (by exact fun _ _ _ h => h) (Or.inl ⟨by rfl, ?r1_hy4⟩) (by assumption) ?r1_rest4
  case r1_hy4 => intro w hSw; (try dsimp only at hSw); (go_simp <;> (with_reducible rfl))
  try simp only [Act.put, List.setIfInBounds_toArray, List.set_cons_zero, List.set_cons_succ]
  refine wpAnyH_take (i := 5) (v := ?r1_vv5) (by (simp only [List.getElem?_toArray, List.getElem?_cons_succ, List.getElem?_cons_zero]; rfl)) (by kernel_rfl) (by kernel_rfl) (by kernel_rfl) (by exact fun _ _ _ h => h) (Or.inl ⟨by rfl, ?r1_hy5⟩) (by assumption) ?r1_rest5
  case r1_hy5 => intro w hSw; (try dsimp only at hSw); (go_simp <;> (with_reducible rfl))
  try simp only [Act.put, List.setIfInBounds_toArray, List.set_cons_zero, List.set_cons_succ]
  refine wpAnyH_ready (rs := [1]) (by kernel_rfl) (by simp) ?_
  refine AllReadyH.cons (by (simp only [List.getElem?_toArray, List.getElem?_cons_succ, List.getElem?_cons_zero]; rfl)) (fun K hK => ?_) AllReadyH.nil
  go_simp
  (go_at_call 16; refine (toSquare_calls q.w q.h _ q.sl _ (HS0.out.ext (And.left (b := _) (by assumption))) hn).mono ?_; rintro e x1 ⟨z1, rfl, hO1, hb1⟩)
  try go_wp2_with fail
  refine hK.out _ _ ?r1_hS1 (fun hHeld => ?r1_r1)
  case r1_hS1 => (try dsimp only); first | assumption | exact JwS.keep hl1 hl2 (by assumption) ((Below.refl _ _).drew) | exact JwS.keep hl1 hl2 (by assumption) (by assumption)
  clear hK K
  try simp only [Act.put, List.setIfInBounds_toArray, List.set_cons_zero, List.set_cons_succ]
  refine wpAnyH_ready (rs := [3]) (by kernel_rfl) (by simp) ?_
  refine AllReadyH.cons (by (simp only [List.getElem?_toArray, List.getElem?_cons_succ, List.getElem?_cons_zero]; rfl)) (fun K hK => ?_) AllReadyH.nil
  go_simp
  (go_at_call 17; with_reducible refine (qtc.out _).mono ?_; rintro e x2 ⟨rfl, hb2⟩)
  try go_wp2_with fail
  refine hK.out _ _ ?r1_hS3 (fun hHeld => ?r1_r3)
  case r1_hS3 => (try dsimp only); first | assumption | exact JwS.keep hl1 hl2 (by assumption) ((Below.refl _ _).drew) | exact JwS.keep hl1 hl2 (by assumption) (by assumption)
  clear hK K
  try simp only [Act.put, List.setIfInBounds_toArray, List.set_cons_zero, List.set_cons_succ]
  refine wpAnyH_ready (rs := [6]) (by kernel_rfl) (by simp) ?_
  refine AllReadyH.cons (by (simp only [List.getElem?_toArray, List.getElem?_cons_succ, List.getElem?_cons_zero]; rfl)) (fun K hK => ?_) AllReadyH.nil
  go_simp
  (go_at_call 30; refine (HSC.out z1 _ ((hO1.sl Slab.c_len).ext hb2)).mono ?_; rintro e x3 ⟨v4, rfl, hO4, hb3⟩)
  try go_wp2_with fail
  refine hK.out _ _ ?r1_hS6 (fun hHeld => ?r1_r6)
  case r1_hS6 => (try dsimp only); first | assumption | exact JwS.keep hl1 hl2 (by assumption) ((Below.refl _ _).drew) | exact JwS.keep hl1 hl2 (by assumption) (by assumption)
  clear hK K
  try simp only [Act.put, List.setIfInBounds_toArray, List.set_cons_zero, List.set_cons_succ]
  refine wpAnyH_take (i := 7) (v := ?r1_vv7) (by (simp only [List.getElem?_toArray, List.getElem?_cons_succ, List.getElem?_cons_zero]; rfl)) (by kernel_rfl) (by kernel_rfl) (by kernel_rfl) (by exact fun _ _ _ h => h) (Or.inl ⟨by rfl, ?r1_hy7⟩) (by assumption) ?r1_rest7
  case r1_hy7 => intro w hSw; (try dsimp only at hSw); (go_simp <;> (with_reducible rfl))
  try simp only [Act.put, List.setIfInBounds_toArray, List.set_cons_zero, List.set_cons_succ]
  refine wpAnyH_take (i := 8) (v := ?r1_vv8) (by (simp only [List.getElem?_toArray, List.getElem?_cons_succ, List.getElem?_cons_zero]; rfl)) (by kernel_rfl) (by kernel_rfl) (by kernel_rfl) (by exact fun _ _ _ h => h) (Or.inl ⟨by rfl, ?r1_hy8⟩) (by assumption) ?r1_rest8
  case r1_hy8 => intro w hSw; (try dsimp only at hSw); (go_simp <;> (with_reducible rfl))
  try simp only [Act.put, List.setIfInBounds_toArray, List.set_cons_zero, List.set_cons_succ]
  refine wpAnyH_take (i := 9) (v := ?r1_vv9) (by (simp only [List.getElem?_toArray, List.getElem?_cons_succ, List.getElem?_cons_zero]; rfl)) (by kernel_rfl) (by kernel_rfl) (by kernel_rfl) (by exact fun _ _ _ h => h) (Or.inl ⟨by rfl, ?r1_hy9⟩) (by assumption) ?r1_rest9
  case r1_hy9 => intro w hSw; (try dsimp only at hSw); (go_simp <;> (with_reducible rfl))
  try simp only [Act.put, List.setIfInBounds_toArray, List.set_cons_zero, List.set_cons_succ]
  refine wpAnyH_take (i := 10) (v := ?r1_vv10) (by (simp only [List.getElem?_toArray, List.getElem?_cons_succ, List.getElem?_cons_zero]; rfl)) (by kernel_rfl) (by kernel_rfl) (by kernel_rfl) (by exact fun _ _ _ h => h) (Or.inl ⟨by rfl, ?r1_hy10⟩) (by assumption) ?r1_rest10
  case r1_hy10 => intro w hSw; (try dsimp only at hSw); (go_simp <;> (with_reducible rfl))
  try simp only [Act.put, List.setIfInBounds_toArray, List.set_cons_zero, List.set_cons_succ]
  refine wpAnyH_take (i := 11) (v := ?r1_vv11) (by (simp only [List.getElem?_toArray, List.getElem?_cons_succ, List.getElem?_cons_zero]; rfl)) (by kernel_rfl) (by kernel_rfl) (by kernel_rfl) (by exact fun _ _ _ h => h) (Or.inl ⟨by rfl, ?r1_hy11⟩) (by assumption) ?r1_rest11
  case r1_hy11 => intro w hSw; (try dsimp only at hSw); (go_simp <;> (with_reducible rfl))
  try simp only [Act.put, List.setIfInBounds_toArray, List.set_cons_zero, List.set_cons_succ]
  refine wpAnyH_done (by kernel_rfl) ?_ _
  have h9 := And.left (b := _) (show JwS w1 W.heap.size (W.heap.size + 1) q.w q.h (.slice A q.sl.length cap) p x3 by assumption)
  have HB4 := Lib.hid (ext_trans HB.out h9)
  have HS4 := Lib.hid (HS0.out.ext h9)
  have KQ := Lib.hid (KQ.out.ext h9)
  have KC := Lib.hid (KC.out.ext h9)
  have hs4 := Lib.hid (hO4.sl Cell.c_len)
  have KC4 := Lib.hid KC.out.lt
  clear hS h9 hO1 hO4 hb1 hb2 hb3 hl1 hl2 HS0 HB
  repeat clear hHeld
  have k0 := KQ.out.cell 0 _ rfl
  have k1 := KQ.out.cell 1 _ rfl
  have k2 := KQ.out.cell 2 _ rfl
  go_wp2_with fail
  refine (toSquare_calls q.w q.h _ q.sl _ HS4.out hn).mono ?_
  rintro e w5 ⟨z5, rfl, hO5, hb5⟩
  obtain ⟨A5, cap5, rfl, -, -, -⟩ := (hO5.sl Slab.c_len).slab
  have hbx := ext_alloc hb5 (.cells #[.int .i8 q.w, .int .i8 q.h, .slice A5 q.sl.length cap5] 34)
  have KX := Lib.hid (Bk.new w5 34 #[.int .i8 q.w, .int .i8 q.h, .slice A5 q.sl.length cap5] w5.heap.size rfl)
  have HB5 := Lib.hid (ext_trans HB4.out hbx)
  have HS5 := Lib.hid (HS4.out.ext hbx)
  have KQ := Lib.hid (KQ.out.ext hbx)
  have KC := Lib.hid (KC.out.ext hbx)
  have hs5 := Lib.hid (hs4.out.keep hbx)
  have KB4 := Lib.hid (show W.heap.size + 1 < x3.heap.size from KC4.out)
  have B5' := Lib.hid (show W.heap.size ≤ x3.heap.size from HB4.out.size)
  have Z5 := Lib.hid (show x3.heap.size < (w5.alloc (.cells #[.int .i8 q.w, .int .i8 q.h, .slice A5 q.sl.length cap5] 34)).heap.size from by have := hb5.size; simp; omega)
  have T5 := Lib.hid (show ∀ k, (Value.slice A5 q.sl.length cap5).ownBlock = some k → k < w5.heap.size from fun k hk => hO5.lt k hk)
  have hO5 := Lib.hid (hO5.alloc (.cells #[.int .i8 q.w, .int .i8 q.h, .slice A5 q.sl.length cap5] 34))
  have T5' := Lib.hid (show w5.heap.size < (w5.alloc (.cells #[.int .i8 q.w, .int .i8 q.h, .slice A5 q.sl.length cap5] 34)).heap.size from by simp)
  clear hb5 hbx hs4 HB4 HS4 k0 k1 k2
  generalize hB4 : x3.heap.size = B4 at *
  clear hB4
  go_wp2_with fail
  generalize hX : w5.heap.size = X at *
  generalize w5.alloc (.cells #[.int .i8 q.w, .int .i8 q.h, .slice A5 q.sl.length cap5] 34) = w6 at *
  clear hX
  have hl1 := KX.out.lt
  have hl2 := KC.out.lt
  have hS : JwS w6 X (W.heap.size + 1) q.w q.h (.slice A5 q.sl.length cap5) p w6 := ⟨Below.refl _ _, KX.out.cell 0 _ rfl, KX.out.cell 1 _ rfl, KX.out.cell 2 _ rfl, KC.out.cell 0 _ rfl, KC.out.cell 1 _ rfl⟩
  refine wp_region_held_drew (S := (JwS w6 X (W.heap.size + 1) q.w q.h (.slice A5 q.sl.length cap5) p)) (by kernel_rfl) ?r2_hS0 (fun hHeld => ?r2_rest)
  case r2_hS0 => (try dsimp only); first | assumption | exact JwS.keep hl1 hl2 (by assumption) ((Below.refl _ _).drew) | exact JwS.keep hl1 hl2 (by assumption) (by assumption)
  refine wpAnyH_take (i := 0) (v := ?r2_vv0) (by (simp only [List.getElem?_toArray, List.getElem?_cons_succ, List.getElem?_cons_zero]; rfl)) (by kernel_rfl) (by kernel_rfl) (by kernel_rfl) (by exact fun _ _ _ h => h) (Or.inl ⟨by rfl, ?r2_hy0⟩) (by assumption) ?r2_rest0
  case r2_hy0 => intro w hSw; (try dsimp only at hSw); (go_simp <;> (with_reducible rfl))
  try simp only [Act.put, List.setIfInBounds_toArray, List.set_cons_zero, List.set_cons_succ]
  refine wpAnyH_take (i := 1) (v := ?r2_vv1) (by (simp only [List.getElem?_toArray, List.getElem?_cons_succ, List.getElem?_cons_zero]; rfl)) (by kernel_rfl) (by kernel_rfl) (by kernel_rfl) (by exact fun _ _ _ h => h) (Or.inl ⟨by rfl, ?r2_hy1⟩) (by assumption) ?r2_rest1
  case r2_hy1 => intro w hSw; (try dsimp only at hSw); (go_simp <;> (with_reducible rfl))
  try simp only [Act.put, List.setIfInBounds_toArray, List.set_cons_zero, List.set_cons_succ]
  refine wpAnyH_take (i := 3) (v := ?r2_vv3) (by (simp only [List.getElem?_toArray, List.getElem?_cons_succ, List.getElem?_cons_zero]; rfl)) (by kernel_rfl) (by kernel_rfl) (by kernel_rfl) (by exact fun _ _ _ h => h) (Or.inl ⟨by rfl, ?r2_hy3⟩) (by assumption) ?r2_rest3
  case r2_hy3 => intro w hSw; (try dsimp only at hSw); (go_simp <;> (with_reducible rfl))
  try simp only [Act.put, List.setIfInBounds_toArray, List.set_cons_zero, List.set_cons_succ]
  refine wpAnyH_take (i := 4) (v := ?r2_vv4) (by (simp only [List.getElem?_toArray, List.getElem?_cons_succ, List.getElem?_cons_zero]; rfl)) (by kernel_rfl) (by kernel_rfl) (by kernel_rfl) (by exact fun _ _ _ h => h) (Or.inl ⟨by rfl, ?r2_hy4⟩) (by assumption) ?r2_rest4
  case r2_hy4 => intro w hSw; (try dsimp only at hSw); (go_simp <;> (with_reducible rfl))
  try simp only [Act.put, List.setIfInBounds_toArray, List.set_cons_zero, List.set_cons_succ]
  refine wpAnyH_ready (rs := [2]) (by kernel_rfl) (by simp) ?_
  refine AllReadyH.cons (by (simp only [List.getElem?_toArray, List.getElem?_cons_succ, List.getElem?_cons_zero]; rfl)) (fun K hK => ?_) AllReadyH.nil
  go_simp
  (go_at_call 17; with_reducible refine (qtc.out _).mono ?_; rintro e x7 ⟨rfl, hb7⟩)
  try go_wp2_with fail
  refine hK.out _ _ ?r2_hS2 (fun hHeld => ?r2_r2)
  case r2_hS2 => (try dsimp only); first | assumption | exact JwS.keep hl1 hl2 (by assumption) ((Below.refl _ _).drew) | exact JwS.keep hl1 hl2 (by assumption) (by assumption)
  clear hK K
  try simp only [Act.put, List.setIfInBounds_toArray, List.set_cons_zero, List.set_cons_succ]
  refine wpAnyH_ready (rs := [5]) (by kernel_rfl) (by simp) ?_
  refine AllReadyH.cons (by (simp only [List.getElem?_toArray, List.getElem?_cons_succ, List.getElem?_cons_zero]; rfl)) (fun K hK => ?_) AllReadyH.nil
  go_simp
  (go_at_call 31; refine (HIC.out _ _ ((hO5.out.sl Slab.c_len).ext (And.left (b := _) (by assumption)))).mono ?_; rintro e w7 ⟨v7, rfl, hO7, hb8⟩)
  try go_wp2_with fail
  refine hK.out _ _ ?r2_hS5 (fun hHeld => ?r2_r5)
  case r2_hS5 => (try dsimp only); first | assumption | exact JwS.keep hl1 hl2 (by assumption) ((Below.refl _ _).drew) | exact JwS.keep hl1 hl2 (by assumption) (by assumption)
  clear hK K
  try simp only [Act.put, List.setIfInBounds_toArray, List.set_cons_zero, List.set_cons_succ]
  refine wpAnyH_take (i := 6) (v := ?r2_vv6) (by (simp only [List.getElem?_toArray, List.getElem?_cons_succ, List.getElem?_cons_zero]; rfl)) (by kernel_rfl) (by kernel_rfl) (by kernel_rfl) (by exact fun _ _ _ h => h) (Or.inl ⟨by rfl, ?r2_hy6⟩) (by assumption) ?r2_rest6
  case r2_hy6 => intro w hSw; (try dsimp only at hSw); (go_simp <;> (with_reducible rfl))
  try simp only [Act.put, List.setIfInBounds_toArray, List.set_cons_zero, List.set_cons_succ]
  refine wpAnyH_take (i := 7) (v := ?r2_vv7) (by (simp only [List.getElem?_toArray, List.getElem?_cons_succ, List.getElem?_cons_zero]; rfl)) (by kernel_rfl) (by kernel_rfl) (by kernel_rfl) (by exact fun _ _ _ h => h) (Or.inl ⟨by rfl, ?r2_hy7⟩) (by assumption) ?r2_rest7
  case r2_hy7 => intro w hSw; (try dsimp only at hSw); (go_simp <;> (with_reducible rfl))
  try simp only [Act.put, List.setIfInBounds_toArray, List.set_cons_zero, List.set_cons_succ]
  refine wpAnyH_take (i := 8) (v := ?r2_vv8) (by (simp only [List.getElem?_toArray, List.getElem?_cons_succ, List.getElem?_cons_zero]; rfl)) (by kernel_rfl) (by kernel_rfl) (by kernel_rfl) (by exact fun _ _ _ h => h) (Or.inl ⟨by rfl, ?r2_hy8⟩) (by assumption) ?r2_rest8
  case r2_hy8 => intro w hSw; (try dsimp only at hSw); (go_simp <;> (with_reducible rfl))
  try simp only [Act.put, List.setIfInBounds_toArray, List.set_cons_zero, List.set_cons_succ]
  refine wpAnyH_take (i := 9) (v := ?r2_vv9) (by (simp only [List.getElem?_toArray, List.getElem?_cons_succ, List.getElem?_cons_zero]; rfl)) (by kernel_rfl) (by kernel_rfl) (by kernel_rfl) (by exact fun _ _ _ h => h) (Or.inl ⟨by rfl, ?r2_hy9⟩) (by assumption) ?r2_rest9
  case r2_hy9 => intro w hSw; (try dsimp only at hSw); (go_simp <;> (with_reducible rfl))
  try simp only [Act.put, List.setIfInBounds_toArray, List.set_cons_zero, List.set_cons_succ]
  refine wpAnyH_take (i := 10) (v := ?r2_vv10) (by (simp only [List.getElem?_toArray, List.getElem?_cons_succ, List.getElem?_cons_zero]; rfl)) (by kernel_rfl) (by kernel_rfl) (by kernel_rfl) (by exact fun _ _ _ h => h) (Or.inl ⟨by rfl, ?r2_hy10⟩) (by assumption) ?r2_rest10
  case r2_hy10 => intro w hSw; (try dsimp only at hSw); (go_simp <;> (with_reducible rfl))
  try simp only [Act.put, List.setIfInBounds_toArray, List.set_cons_zero, List.set_cons_succ]
  refine wpAnyH_done (by kernel_rfl) ?_ _
  have h9 := And.left (b := _) (show JwS w6 X (W.heap.size + 1) q.w q.h (.slice A5 q.sl.length cap5) p w7 by assumption)
  have h8 := And.left (b := _) (show JwS w6 X (W.heap.size + 1) q.w q.h (.slice A5 q.sl.length cap5) p x7 by assumption)
  have HB7 := Lib.hid (ext_trans HB5.out h9)
  have HS7 := Lib.hid (HS5.out.ext h9)
  have KQ := Lib.hid (KQ.out.ext h9)
  have KC := Lib.hid (KC.out.ext h9)
  have KX := Lib.hid (KX.out.ext h9)
  have hs7 := Lib.hid (hs5.out.keep (h9.mono (Nat.le_of_lt Z5.out)))
  have hO5 := Lib.hid (hO5.out.ext h9)
  have hO7 := Lib.hid (hO7.more h8.size)
  have Z7 := Lib.hid h9.size
  generalize hB6 : w6.heap.size = B6 at *
  clear hS h9 h8 hb7 hb8 hl1 hl2 HB5 HS5 hs5 hB6
  repeat clear hHeld
  go_wp2_with fail
  refine (eqCellS_calls F.1 F.1 v7 v4 _ (hO7.out.sl Cell.c_len) (hs7.out.more (by have := Z5.out; have := Z7.out; omega))).mono ?_
  rintro e w8 ⟨rfl, b8⟩
  have HB8 := Lib.hid (ext_trans HB7.out b8)
  have HS8 := Lib.hid (HS7.out.ext b8)
  have KQ := Lib.hid (KQ.out.ext b8)
  have KC := Lib.hid (KC.out.ext b8)
  have KX := Lib.hid (KX.out.ext b8)
  have hs8 := Lib.hid (hs7.out.keep (b8.mono (by have := Z5.out; have := Z7.out; omega)))
  have hO5 := Lib.hid (hO5.out.ext b8)
  have hO7 := Lib.hid (hO7.out.ext b8)
  have Z8 := Lib.hid (Nat.le_trans Z7.out b8.size)
  have hd : decide (F.1 = F.1) = true := by simp
  rw [hd]
  clear b8 HB7 HS7 hs7
  have hl1 := KX.out.lt
  have hl2 := KQ.out.lt
  have hS : JxS w8 X W.heap.size q.w q.h (.slice A5 q.sl.length cap5) (.slice A q.sl.length cap) w8 := ⟨Below.refl _ _, KX.out.cell 0 _ rfl, KX.out.cell 1 _ rfl, KX.out.cell 2 _ rfl, KQ.out.cell 0 _ rfl, KQ.out.cell 1 _ rfl, KQ.out.cell 2 _ rfl⟩
  go_wp2_with fail
  refine wp_region_held_drew (S := (JxS w8 X W.heap.size q.w q.h (.slice A5 q.sl.length cap5) (.slice A q.sl.length cap))) (by kernel_rfl) ?r3_hS0 (fun hHeld => ?r3_rest)
  case r3_hS0 => (try dsimp only); first | assumption | exact JxS.keep hl1 hl2 (by assumption) ((Below.refl _ _).drew) | exact JxS.keep hl1 hl2 (by assumption) (by assumption)
  refine wpAnyH_take (i := 0) (v := ?r3_vv0) (by (simp only [List.getElem?_toArray, List.getElem?_cons_succ, List.getElem?_cons_zero]; rfl)) (by kernel_rfl) (by kernel_rfl) (by kernel_rfl) (by exact fun _ _ _ h => h) (Or.inl ⟨by rfl, ?r3_hy0⟩) (by assumption) ?r3_rest0
  case r3_hy0 => intro w hSw; (try dsimp only at hSw); (go_simp <;> (with_reducible rfl))
  try simp only [Act.put, List.setIfInBounds_toArray, List.set_cons_zero, List.set_cons_succ]
  refine wpAnyH_take (i := 1) (v := ?r3_vv1) (by (simp only [List.getElem?_toArray, List.getElem?_cons_succ, List.getElem?_cons_zero]; rfl)) (by kernel_rfl) (by kernel_rfl) (by kernel_rfl) (by exact fun _ _ _ h => h) (Or.inl ⟨by rfl, ?r3_hy1⟩) (by assumption) ?r3_rest1
  case r3_hy1 => intro w hSw; (try dsimp only at hSw); (go_simp <;> (with_reducible rfl))
  try simp only [Act.put, List.setIfInBounds_toArray, List.set_cons_zero, List.set_cons_succ]
  refine wpAnyH_ready (rs := [2]) (by kernel_rfl) (by simp) ?_
  refine AllReadyH.cons (by (simp only [List.getElem?_toArray, List.getElem?_cons_succ, List.getElem?_cons_zero]; rfl)) (fun K hK => ?_) AllReadyH.nil
  go_simp
  (go_at_call 16; refine (toSquare_calls q.w q.h _ q.sl _ (HS8.out.ext (And.left (b := _) (by assumption))) hn).mono ?_; rintro e x9 ⟨z9, rfl, hO9, hb9⟩)
  try go_wp2_with fail
  refine hK.out _ _ ?r3_hS2 (fun hHeld => ?r3_r2)
  case r3_hS2 => (try dsimp only); first | assumption | exact JxS.keep hl1 hl2 (by assumption) ((Below.refl _ _).drew) | exact JxS.keep hl1 hl2 (by assumption) (by assumption)
  clear hK K
  try simp only [Act.put, List.setIfInBounds_toArray, List.set_cons_zero, List.set_cons_succ]
  refine wpAnyH_ready (rs := [3]) (by kernel_rfl) (by simp) ?_
  refine AllReadyH.cons (by (simp only [List.getElem?_toArray, List.getElem?_cons_succ, List.getElem?_cons_zero]; rfl)) (fun K hK => ?_) AllReadyH.nil
  go_simp
  (go_at_call 20; refine (eqSquare_calls _ _ _ _ _ _ q.sl q.sl _ ((hO5.out.sl Slab.c_len).ext (And.left (b := _) (by assumption))) (hO9.sl Slab.c_len) rfl rfl).mono ?_; rintro e w10 ⟨rfl, hb10⟩)
  try go_wp2_with fail
  refine hK.out _ _ ?r3_hS3 (fun hHeld => ?r3_r3)
  case r3_hS3 => (try dsimp only); first | assumption | exact JxS.keep hl1 hl2 (by assumption) ((Below.refl _ _).drew) | exact JxS.keep hl1 hl2 (by assumption) (by assumption)
  clear hK K
  try simp only [Act.put, List.setIfInBounds_toArray, List.set_cons_zero, List.set_cons_succ]
  refine wpAnyH_take (i := 4) (v := ?r3_vv4) (by (simp only [List.getElem?_toArray, List.getElem?_cons_succ, List.getElem?_cons_zero]; rfl)) (by kernel_rfl) (by kernel_rfl) (by kernel_rfl) (by exact fun _ _ _ h => h) (Or.inl ⟨by rfl, ?r3_hy4⟩) (by assumption) ?r3_rest4
  case r3_hy4 => intro w hSw; (try dsimp only at hSw); (go_simp <;> (with_reducible rfl))
  try simp only [Act.put, List.setIfInBounds_toArray, List.set_cons_zero, List.set_cons_succ]
  refine wpAnyH_done (by kernel_rfl) ?_ _
  have h9 := And.left (b := _) (show JxS w8 X W.heap.size q.w q.h (.slice A5 q.sl.length cap5) (.slice A q.sl.length cap) w10 by assumption)
  have HB10 := Lib.hid (ext_trans HB8.out h9)
  have HS10 := Lib.hid (HS8.out.ext h9)
  have KQ := Lib.hid (KQ.out.ext h9)
  have KC := Lib.hid (KC.out.ext h9)
  have KX := Lib.hid (KX.out.ext h9)
  have hs10 := Lib.hid (hs8.out.keep (h9.mono (by have := Z5.out; have := Z8.out; omega)))
  have hO5 := Lib.hid (hO5.out.ext h9)
  have hO7 := Lib.hid (hO7.out.ext h9)
  have Z10 := Lib.hid (Nat.le_trans Z8.out h9.size)
  clear hS h9 hO9 hb9 hb10 hl1 hl2 HB8 HS8 hs8
  repeat clear hHeld
  have hdq : decide (q.sl = q.sl) = true := by simp
  have k0 := KX.out.cell 0 _ rfl
  have k1 := KX.out.cell 1 _ rfl
  have k2 := KX.out.cell 2 _ rfl
  go_wp2_with fail
  refine (markSquare_calls q.w q.h _ q.sl _ B4 (by have := Z5.out; have := Z10.out; omega) hO5.out 1 (by omega) (by omega) hn).mono ?_
  rintro e w13 ⟨rfl, b13, g13⟩
  have HB13 := Lib.hid (HB10.out.trans (b13.mono B5'.out))
  have hs13 := Lib.hid (hs10.out.keep b13)
  have hO7 := Lib.hid (hO7.out.keep fun k hk => g13 k (hO7.out.lt k hk) (fun he => by have h1 := T5.out k he; have h2 := hO7.out.base k hk; have := T5'.out; omega))
  have KQ := Lib.hid (show Bk w13 W.heap.size 25 #[.int .i8 q.w, .int .i8 q.h, .slice A q.sl.length cap] from (b13.block _ (by have := KB4.out; omega)).trans KQ.out)
  have KC := Lib.hid (show Bk w13 (W.heap.size + 1) 27 #[.int .i8 p.x, .int .i8 p.y] from (b13.block _ (by have := KB4.out; omega)).trans KC.out)
  have HS13 := Lib.hid (show Sl w13 w13.heap.size Slab.c 4 (.slice A q.sl.length cap) q.sl from (HS00.out.keep HB13.out).more HB13.out.size)
  have Z13 := Lib.hid (Nat.le_trans Z10.out b13.size)
  have k14 : decide ((1 : Int) + 4 * q.sl.length < 0) = false := by rw [decide_eq_false_iff_not]; omega
  clear b13 g13 hs10 HB10 HS10 hO5 k0 k1 k2 KX
  go_wp2_with fail
  refine (eqCellS_calls F.1 F.1 v7 v4 _ (hO7.out.sl Cell.c_len) (hs13.out.more (by have := Z5.out; have := Z13.out; omega))).mono ?_
  rintro e w15 ⟨rfl, b15⟩
  have HB15 := Lib.hid (ext_trans HB13.out b15)
  have HS15 := Lib.hid (HS13.out.ext b15)
  have KQ := Lib.hid (KQ.out.ext b15)
  have KC := Lib.hid (KC.out.ext b15)
  have hO7 := Lib.hid (hO7.out.ext b15)
  have hs15 := Lib.hid (hs13.out.keep (b15.mono (by have := Z5.out; have := Z13.out; omega)))
  have Z15 := Lib.hid (Nat.le_trans Z13.out b15.size)
  have hd : decide (F.1 = F.1) = true := by simp
  rw [hd]
  clear b15 hs13 HB13 HS13
  go_wp2_with fail
  refine (markCellS_calls F.1 v7 _ B6 Z15.out hO7.out 1 (by omega) (by omega) (by have := HL.out; omega)).mono ?_
  rintro e w16 ⟨rfl, hO8, b16, -⟩
  have HB16 := Lib.hid (HB15.out.trans (b16.mono (by have := Z5.out; have := B5'.out; omega)))
  have HS16 := Lib.hid (show Sl w16 w16.heap.size Slab.c 4 (.slice A q.sl.length cap) q.sl from (HS00.out.keep HB16.out).more HB16.out.size)
  have KQ := Lib.hid (KQ.out.keep (by have := KB4.out; have := Z5.out; omega) b16)
  have KC := Lib.hid (KC.out.keep (by have := KB4.out; have := Z5.out; omega) b16)
  have hs16 := Lib.hid (hs15.out.keep (b16.mono (Nat.le_of_lt Z5.out)))
  have Z16 := Lib.hid (Nat.le_trans Z15.out b16.size)
  have hO8 := Lib.hid hO8
  clear b16 hs15 HB15 HS15 hO7
  go_wp2_with fail
  refine (heldCellS_calls F.1.length v7 _ 1 (hO8.out.sl Cell.c_len) (by omega) (by omega) (by have := HL.out; omega)).mono ?_
  rintro e w17 ⟨rfl, b17⟩
  have HB17 := Lib.hid (ext_trans HB16.out b17)
  have HS17 := Lib.hid (HS16.out.ext b17)
  have KQ := Lib.hid (KQ.out.ext b17)
  have KC := Lib.hid (KC.out.ext b17)
  have hs17 := Lib.hid (hs16.out.keep (b17.mono (by have := Z5.out; have := Z16.out; omega)))
  have hO8 := Lib.hid (hO8.out.ext b17)
  have Z17 := Lib.hid (Nat.le_trans Z16.out b17.size)
  have hl1' : decide ((1 : Int) + 2 * F.1.length < 0) = false := by rw [decide_eq_false_iff_not]; omega
  have hl2' : ((1 : Int) + 2 * F.1.length != 1 + 2 * F.1.length) = false := by simp
  clear b17 hs16 HB16 HS16
  have hl1 := KQ.out.lt
  have hl2 := KC.out.lt
  have hS : JwS w17 W.heap.size (W.heap.size + 1) q.w q.h (.slice A q.sl.length cap) p w17 := ⟨Below.refl _ _, KQ.out.cell 0 _ rfl, KQ.out.cell 1 _ rfl, KQ.out.cell 2 _ rfl, KC.out.cell 0 _ rfl, KC.out.cell 1 _ rfl⟩
  go_wp2_with fail
  refine wp_region_held_drew (S := (JwS w17 W.heap.size (W.heap.size + 1) q.w q.h (.slice A q.sl.length cap) p)) (by kernel_rfl) ?r4_hS0 (fun hHeld => ?r4_rest)
  case r4_hS0 => (try dsimp only); first | assumption | exact JwS.keep hl1 hl2 (by assumption) ((Below.refl _ _).drew) | exact JwS.keep hl1 hl2 (by assumption) (by assumption)
  refine wpAnyH_take (i := 0) (v := ?r4_vv0) (by (simp only [List.getElem?_toArray, List.getElem?_cons_succ, List.getElem?_cons_zero]; rfl)) (by kernel_rfl) (by kernel_rfl) (by kernel_rfl) (by exact fun _ _ _ h => h) (Or.inl ⟨by rfl, ?r4_hy0⟩) (by assumption) ?r4_rest0
  case r4_hy0 => intro w hSw; (try dsimp only at hSw); (go_simp <;> (with_reducible rfl))
  try simp only [Act.put, List.setIfInBounds_toArray, List.set_cons_zero, List.set_cons_succ]
  refine wpAnyH_take (i := 2) (v := ?r4_vv2) (by (simp only [List.getElem?_toArray, List.getElem?_cons_succ, List.getElem?_cons_zero]; rfl)) (by kernel_rfl) (by kernel_rfl) (by kernel_rfl) (by exact fun _ _ _ h => h) (Or.inl ⟨by rfl, ?r4_hy2⟩) (by assumption) ?r4_rest2
  case r4_hy2 => intro w hSw; (try dsimp only at hSw); (go_simp <;> (with_reducible rfl))
  try simp only [Act.put, List.setIfInBounds_toArray, List.set_cons_zero, List.set_cons_succ]
  refine wpAnyH_take (i := 4) (v := ?r4_vv4) (by (simp only [List.getElem?_toArray, List.getElem?_cons_succ, List.getElem?_cons_zero]; rfl)) (by kernel_rfl) (by kernel_rfl) (by kernel_rfl) (by exact fun _ _ _ h => h) (Or.inl ⟨by rfl, ?r4_hy4⟩) (by assumption) ?r4_rest4
  case r4_hy4 => intro w hSw; (try dsimp only at hSw); (go_simp <;> (with_reducible rfl))
  try simp only [Act.put, List.setIfInBounds_toArray, List.set_cons_zero, List.set_cons_succ]
  refine wpAnyH_take (i := 5) (v := ?r4_vv5) (by (simp only [List.getElem?_toArray, List.getElem?_cons_succ, List.getElem?_cons_zero]; rfl)) (by kernel_rfl) (by kernel_rfl) (by kernel_rfl) (by exact fun _ _ _ h => h) (Or.inl ⟨by rfl, ?r4_hy5⟩) (by assumption) ?r4_rest5
  case r4_hy5 => intro w hSw; (try dsimp only at hSw); (go_simp <;> (with_reducible rfl))
  try simp only [Act.put, List.setIfInBounds_toArray, List.set_cons_zero, List.set_cons_succ]
  refine wpAnyH_ready (rs := [1]) (by kernel_rfl) (by simp) ?_
  refine AllReadyH.cons (by (simp only [List.getElem?_toArray, List.getElem?_cons_succ, List.getElem?_cons_zero]; rfl)) (fun K hK => ?_) AllReadyH.nil
  go_simp
  (go_at_call 16; refine (toSquare_calls q.w q.h _ q.sl _ (HS17.out.ext (And.left (b := _) (by assumption))) hn).mono ?_; rintro e x1 ⟨z1, rfl, hO1, hb1⟩)
  try go_wp2_with fail
  refine hK.out _ _ ?r4_hS1 (fun hHeld => ?r4_r1)
  case r4_hS1 => (try dsimp only); first | assumption | exact JwS.keep hl1 hl2 (by assumption) ((Below.refl _ _).drew) | exact JwS.keep hl1 hl2 (by assumption) (by assumption)
  clear hK K
  try simp only [Act.put, List.setIfInBounds_toArray, List.set_cons_zero, List.set_cons_succ]
  refine wpAnyH_ready (rs := [3]) (by kernel_rfl) (by simp) ?_
  refine AllReadyH.cons (by (simp only [List.getElem?_toArray, List.getElem?_cons_succ, List.getElem?_cons_zero]; rfl)) (fun K hK => ?_) AllReadyH.nil
  go_simp
  (go_at_call 17; with_reducible refine (qtc.out _).mono ?_; rintro e x2 ⟨rfl, hb2⟩)
  try go_wp2_with fail
  refine hK.out _ _ ?r4_hS3 (fun hHeld => ?r4_r3)
  case r4_hS3 => (try dsimp only); first | assumption | exact JwS.keep hl1 hl2 (by assumption) ((Below.refl _ _).drew) | exact JwS.keep hl1 hl2 (by assumption) (by assumption)
  clear hK K
  try simp only [Act.put, List.setIfInBounds_toArray, List.set_cons_zero, List.set_cons_succ]
  refine wpAnyH_ready (rs := [6]) (by kernel_rfl) (by simp) ?_
  refine AllReadyH.cons (by (simp only [List.getElem?_toArray, List.getElem?_cons_succ, List.getElem?_cons_zero]; rfl)) (fun K hK => ?_) AllReadyH.nil
  go_simp
  (go_at_call 31; refine (HIC.out z1 _ ((hO1.sl Slab.c_len).ext hb2)).mono ?_; rintro e x3 ⟨v20, rfl, hO20, hb3⟩)
  try go_wp2_with fail
  refine hK.out _ _ ?r4_hS6 (fun hHeld => ?r4_r6)
  case r4_hS6 => (try dsimp only); first | assumption | exact JwS.keep hl1 hl2 (by assumption) ((Below.refl _ _).drew) | exact JwS.keep hl1 hl2 (by assumption) (by assumption)
  clear hK K
  try simp only [Act.put, List.setIfInBounds_toArray, List.set_cons_zero, List.set_cons_succ]
  refine wpAnyH_take (i := 7) (v := ?r4_vv7) (by (simp only [List.getElem?_toArray, List.getElem?_cons_succ, List.getElem?_cons_zero]; rfl)) (by kernel_rfl) (by kernel_rfl) (by kernel_rfl) (by exact fun _ _ _ h => h) (Or.inl ⟨by rfl, ?r4_hy7⟩) (by assumption) ?r4_rest7
  case r4_hy7 => intro w hSw; (try dsimp only at hSw); (go_simp <;> (with_reducible rfl))
  try simp only [Act.put, List.setIfInBounds_toArray, List.set_cons_zero, List.set_cons_succ]
  refine wpAnyH_take (i := 8) (v := ?r4_vv8) (by (simp only [List.getElem?_toArray, List.getElem?_cons_succ, List.getElem?_cons_zero]; rfl)) (by kernel_rfl) (by kernel_rfl) (by kernel_rfl) (by exact fun _ _ _ h => h) (Or.inl ⟨by rfl, ?r4_hy8⟩) (by assumption) ?r4_rest8
  case r4_hy8 => intro w hSw; (try dsimp only at hSw); (go_simp <;> (with_reducible rfl))
  try simp only [Act.put, List.setIfInBounds_toArray, List.set_cons_zero, List.set_cons_succ]
  refine wpAnyH_take (i := 9) (v := ?r4_vv9) (by (simp only [List.getElem?_toArray, List.getElem?_cons_succ, List.getElem?_cons_zero]; rfl)) (by kernel_rfl) (by kernel_rfl) (by kernel_rfl) (by exact fun _ _ _ h => h) (Or.inl ⟨by rfl, ?r4_hy9⟩) (by assumption) ?r4_rest9
  case r4_hy9 => intro w hSw; (try dsimp only at hSw); (go_simp <;> (with_reducible rfl))
  try simp only [Act.put, List.setIfInBounds_toArray, List.set_cons_zero, List.set_cons_succ]
  refine wpAnyH_take (i := 10) (v := ?r4_vv10) (by (simp only [List.getElem?_toArray, List.getElem?_cons_succ, List.getElem?_cons_zero]; rfl)) (by kernel_rfl) (by kernel_rfl) (by kernel_rfl) (by exact fun _ _ _ h => h) (Or.inl ⟨by rfl, ?r4_hy10⟩) (by assumption) ?r4_rest10
  case r4_hy10 => intro w hSw; (try dsimp only at hSw); (go_simp <;> (with_reducible rfl))
  try simp only [Act.put, List.setIfInBounds_toArray, List.set_cons_zero, List.set_cons_succ]
  refine wpAnyH_take (i := 11) (v := ?r4_vv11) (by (simp only [List.getElem?_toArray, List.getElem?_cons_succ, List.getElem?_cons_zero]; rfl)) (by kernel_rfl) (by kernel_rfl) (by kernel_rfl) (by exact fun _ _ _ h => h) (Or.inl ⟨by rfl, ?r4_hy11⟩) (by assumption) ?r4_rest11
  case r4_hy11 => intro w hSw; (try dsimp only at hSw); (go_simp <;> (with_reducible rfl))
  try simp only [Act.put, List.setIfInBounds_toArray, List.set_cons_zero, List.set_cons_succ]
  refine wpAnyH_done (by kernel_rfl) ?_ _
  have h9 := And.left (b := _) (show JwS w17 W.heap.size (W.heap.size + 1) q.w q.h (.slice A q.sl.length cap) p x3 by assumption)
  have HB20 := Lib.hid (ext_trans HB17.out h9)
  have hs20 := Lib.hid (hs17.out.keep (h9.mono (by have := Z5.out; have := Z17.out; omega)))
  have hO8 := Lib.hid (hO8.out.ext h9)
  have Z20 := Lib.hid (Nat.le_trans Z17.out h9.size)
  have hO20 := Lib.hid hO20
  clear hS h9 hO1 hb1 hb2 hb3 hl1 hl2 HB17 HS17 hs17
  repeat clear hHeld
  go_wp2_with fail
  refine (eqCellS_calls F.1 F.1 v20 v4 _ (hO20.out.sl Cell.c_len) (hs20.out.more (by have := Z5.out; have := Z20.out; omega))).mono ?_
  rintro e w21 ⟨rfl, b21⟩
  have c21 := ext_trans HB20.out b21
  have hO8 := Lib.hid (hO8.out.ext b21)
  have hd : decide (F.1 = F.1) = true := by simp
  rw [hd]
  clear b21 hs20 HB20 hO20
  go_wp2_with fail
  refine (heldCellS_calls F.1.length v7 _ 1 (hO8.out.sl Cell.c_len) (by omega) (by omega) (by have := HL.out; omega)).mono ?_
  rintro e w22 ⟨rfl, b22⟩
  have c22 := ext_trans c21 b22
  go_wp2_with fail
  go_ret
  exact ⟨rfl, c22⟩
end Go.Proofs.Ytbmkhhhlnollmaa
