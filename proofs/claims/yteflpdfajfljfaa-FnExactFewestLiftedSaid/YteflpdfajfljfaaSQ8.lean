/-
Joints between points: of the program. Conditions: numbers are of their kinds; slices can be read.
-/
import Derived.Test.YteflpdfajfljfaaSQ7
set_option linter.unusedVariables false
set_option linter.unusedSimpArgs false
set_option maxRecDepth 100000
namespace Go.Proofs.Yteflpdfajfljfaa
open Go.RowKit
def sides2 (sl : List Slab) (c d : Cell) : Int × Int × Bool :=
  if c.y = d.y ∧ d.x = c.x + 1 then (atI sl c.x c.y, atI sl c.x (c.y - 1), jointB sl c.x c.y c.x (c.y - 1))
  else if c.x = d.x ∧ d.y = c.y + 1 then (atI sl c.x c.y, atI sl (c.x - 1) c.y, jointB sl c.x c.y (c.x - 1) c.y) else (0, 0, false)
def sidesAt (sl : List Slab) (a b : Cell) : Int × Int × Bool := if decide (0 < cmpC a b) = true then sides2 sl b a else sides2 sl a b
theorem gby_set (w : World) (g j : Nat) (u : Value) : w.grownBy (w.setCell ⟨g, j, none⟩ u) (some g) := ⟨rfl, rfl, rfl, by simp [World.setCell], fun k hk hne => Below.heap_setCell _ _ _ _ (fun e => hne (by rw [e]))⟩
set_option maxHeartbeats 8000000 in
theorem sidesOf_calls (w h : Int) (z : Value) (sl : List Slab) (a b : Cell) (ha : a.ok) (hb : b.ok) (W : World) (hq : SqIn W w h z sl) :
    Calls Try.prog 62 #[sqv w h z, a.v, b.v] W fun e w' => e = .returned (.tuple #[.int .i64 (sidesAt sl a b).1, .int .i64 (sidesAt sl a b).2.1, .bool (sidesAt sl a b).2.2]) ∧ Below W.heap.size W w' := by
  obtain ⟨A, cap, hz, -, -, -⟩ := hq.sl.slab
  subst hz
  have hB := ext_alloc (ext_alloc ((Below.refl W.heap.size W).alloc (Nat.le_refl _) (.cells #[.int .i8 w, .int .i8 h, .slice A sl.length cap] 34)) (.cells #[.int .i8 a.x, .int .i8 a.y] 36)) (.cells #[.int .i8 b.x, .int .i8 b.y] 36)
  have K0 := Lib.hid (((Bk.new W 34 #[.int .i8 w, .int .i8 h, .slice A sl.length cap] W.heap.size rfl).alloc (.cells #[.int .i8 a.x, .int .i8 a.y] 36)).alloc (.cells #[.int .i8 b.x, .int .i8 b.y] 36))
  have K1 := Lib.hid ((Bk.new (W.alloc (.cells #[.int .i8 w, .int .i8 h, .slice A sl.length cap] 34)) 36 #[.int .i8 a.x, .int .i8 a.y] (W.heap.size + 1) (by simp)).alloc (.cells #[.int .i8 b.x, .int .i8 b.y] 36))
  have K2 := Lib.hid (Bk.new ((W.alloc (.cells #[.int .i8 w, .int .i8 h, .slice A sl.length cap] 34)).alloc (.cells #[.int .i8 a.x, .int .i8 a.y] 36)) 36 #[.int .i8 b.x, .int .i8 b.y] (W.heap.size + 1 + 1) (by simp))
  have HB := Lib.hid hB
  have HQ := Lib.hid (hq.ext hB)
  have HQ0 := Lib.hid hq
  have qcmp := Lib.hid (fun W => cmpCells_calls a b W)
  obtain ⟨a0, a1, a2, a3⟩ := ha
  obtain ⟨b0, b1, b2, b3⟩ := hb
  clear hB hq
  obtain ⟨R, hR⟩ : ∃ R, R = sidesAt sl a b := ⟨_, rfl⟩
  rw [← hR]
  have hR' := Lib.hid hR
  clear hR
  have hR := hR'
  clear hR'
  unfold sqv Cell.v at *
  go_enter Try.func62, Try.ntmps62
  go_wp2_with fail
  generalize ((W.alloc (.cells #[.int .i8 w, .int .i8 h, .slice A sl.length cap] 34)).alloc (.cells #[.int .i8 a.x, .int .i8 a.y] 36)).alloc (.cells #[.int .i8 b.x, .int .i8 b.y] 36) = W1 at *
  refine (qcmp.out _).mono ?_
  rintro e w1 ⟨rfl, hb1⟩
  have HB1 := Lib.hid (ext_trans HB.out hb1)
  have HQ1 := Lib.hid (HQ.out.ext hb1)
  have k0 := K0.out.ext hb1
  have k1 := K1.out.ext hb1
  have k2 := K2.out.ext hb1
  have K0 := Lib.hid k0
  have K1 := Lib.hid k1
  have K2 := Lib.hid k2
  have s0 := k0.cell 0 _ rfl
  have s1 := k0.cell 1 _ rfl
  have s2 := k0.cell 2 _ rfl
  have t0 := k1.cell 0 _ rfl
  have t1 := k1.cell 1 _ rfl
  have f0 := k1.frz 0
  have f1 := k1.frz 1
  have u0 := k2.cell 0 _ rfl
  have u1 := k2.cell 1 _ rfl
  have g0 := k2.frz 0
  have g1 := k2.frz 1
  clear hb1 k0 k1 k2
  have hlt := Lib.hid K0.out.lt
  cases hsw : decide (0 < cmpC a b)
  · have hsw := Lib.hid hsw
    obtain ⟨w2, hw2⟩ : ∃ w2 : World, w2 = w1 := ⟨_, rfl⟩
    rw [← hw2] at HB1 HQ1 s0 s1 s2 t0 t1 u0 u1 hlt ⊢
    clear K0 K1 K2 f0 f1 g0 g1 hw2
    by_cases e1 : a.y = b.y
    · have e1B : (a.y == b.y) = true := by simpa using e1
      by_cases e2 : b.x = a.x + 1
      · have e2B : (b.x == a.x + 1) = true := by simpa using e2
        have hE := Lib.hid (show R = (atI sl a.x a.y, atI sl a.x (a.y - 1), jointB sl a.x a.y a.x (a.y - 1)) from by rw [hR.out, sidesAt, if_neg (by rw [hsw.out]; simp), sides2, if_pos ⟨e1, e2⟩])
        clear e1 e2
        try go_wp2_with fail
        go_quiet (fail)
        go_wp2_with fail
        have HQ2 := Lib.hid (HQ1.out.ext (ext_drewN (Below.refl _ _) nq))
        have HB2 := Lib.hid (ext_drewN HB1.out nq)
        have hlb : W.heap.size < (w2.drewN nq).heap.size := hlt.out
        have HS2 : SqS (w2.drewN nq) W.heap.size w h (.slice A sl.length cap) (w2.drewN nq) := ⟨Below.refl _ _, s0, s1, s2⟩
        clear s0 s1 s2 t0 t1 u0 u1 hlt
        generalize w2.drewN nq = W2 at *
        have qa := Lib.hid (show ∀ W', SqS W2 W.heap.size w h (.slice A sl.length cap) W' → Calls Try.prog 99 #[.agg #[.int .i8 w, .int .i8 h, .slice A sl.length cap], .int .i64 (a.x), .int .i64 (a.y)] W' (fun e w' => e = .returned (.int .i64 (atI sl a.x a.y)) ∧ Below W'.heap.size W' w') from fun W' h' => at_calls w h _ sl _ _ W' (HQ2.out.ext h'.1))
        have qb := Lib.hid (show ∀ W', SqS W2 W.heap.size w h (.slice A sl.length cap) W' → Calls Try.prog 99 #[.agg #[.int .i8 w, .int .i8 h, .slice A sl.length cap], .int .i64 (a.x), .int .i64 ((a.y - 1))] W' (fun e w' => e = .returned (.int .i64 (atI sl a.x (a.y - 1))) ∧ Below W'.heap.size W' w') from fun W' h' => at_calls w h _ sl _ _ W' (HQ2.out.ext h'.1))
        have qc := Lib.hid (show ∀ W', SqS W2 W.heap.size w h (.slice A sl.length cap) W' → Calls Try.prog 121 #[.agg #[.int .i8 w, .int .i8 h, .slice A sl.length cap], .int .i64 (a.x), .int .i64 (a.y), .int .i64 (a.x), .int .i64 ((a.y - 1))] W' (fun e w' => e = .returned (.bool (jointB sl a.x a.y a.x (a.y - 1))) ∧ Below W'.heap.size W' w') from fun W' h' => joint_calls w h _ sl _ _ _ _ W' (HQ2.out.ext h'.1))
        refine wp_region_held_drew (S := (SqS W2 W.heap.size w h (.slice A sl.length cap))) (by kernel_rfl) ?r7_hS0 (fun hHeld => ?r7_rest)
        case r7_hS0 => (try dsimp only); first | assumption | exact SqS.keep hlb (by assumption) ((Below.refl _ _).drew) | exact SqS.keep hlb (by assumption) (by assumption)
        refine wpAnyH_take (i := 0) (v := ?r7_vv0) (by (simp only [List.getElem?_toArray, List.getElem?_cons_succ, List.getElem?_cons_zero]; rfl)) (by kernel_rfl) (by kernel_rfl) (by kernel_rfl) (by exact fun _ _ _ h => h) (Or.inl ⟨by rfl, ?r7_hy0⟩) (by assumption) ?r7_rest0
        case r7_hy0 => intro w hSw; (try dsimp only at hSw); (go_simp <;> (with_reducible rfl))
        try simp only [Act.put, List.setIfInBounds_toArray, List.set_cons_zero, List.set_cons_succ]
        refine wpAnyH_take (i := 1) (v := ?r7_vv1) (by (simp only [List.getElem?_toArray, List.getElem?_cons_succ, List.getElem?_cons_zero]; rfl)) (by kernel_rfl) (by kernel_rfl) (by kernel_rfl) (by exact fun _ _ _ h => h) (Or.inl ⟨by rfl, ?r7_hy1⟩) (by assumption) ?r7_rest1
        case r7_hy1 => intro w hSw; (try dsimp only at hSw); (go_simp <;> (with_reducible rfl))
        try simp only [Act.put, List.setIfInBounds_toArray, List.set_cons_zero, List.set_cons_succ]
        refine wpAnyH_take (i := 2) (v := ?r7_vv2) (by (simp only [List.getElem?_toArray, List.getElem?_cons_succ, List.getElem?_cons_zero]; rfl)) (by kernel_rfl) (by kernel_rfl) (by kernel_rfl) (by exact fun _ _ _ h => h) (Or.inl ⟨by rfl, ?r7_hy2⟩) (by assumption) ?r7_rest2
        case r7_hy2 => intro w hSw; (try dsimp only at hSw); (go_simp <;> (with_reducible rfl))
        try simp only [Act.put, List.setIfInBounds_toArray, List.set_cons_zero, List.set_cons_succ]
        refine wpAnyH_take (i := 4) (v := ?r7_vv4) (by (simp only [List.getElem?_toArray, List.getElem?_cons_succ, List.getElem?_cons_zero]; rfl)) (by kernel_rfl) (by kernel_rfl) (by kernel_rfl) (by exact fun _ _ _ h => h) (Or.inl ⟨by rfl, ?r7_hy4⟩) (by assumption) ?r7_rest4
        case r7_hy4 => intro w hSw; (try dsimp only at hSw); (go_simp <;> (with_reducible rfl))
        try simp only [Act.put, List.setIfInBounds_toArray, List.set_cons_zero, List.set_cons_succ]
        refine wpAnyH_take (i := 5) (v := ?r7_vv5) (by (simp only [List.getElem?_toArray, List.getElem?_cons_succ, List.getElem?_cons_zero]; rfl)) (by kernel_rfl) (by kernel_rfl) (by kernel_rfl) (by exact fun _ _ _ h => h) (Or.inl ⟨by rfl, ?r7_hy5⟩) (by assumption) ?r7_rest5
        case r7_hy5 => intro w hSw; (try dsimp only at hSw); (go_simp <;> (with_reducible rfl))
        try simp only [Act.put, List.setIfInBounds_toArray, List.set_cons_zero, List.set_cons_succ]
        refine wpAnyH_take (i := 6) (v := ?r7_vv6) (by (simp only [List.getElem?_toArray, List.getElem?_cons_succ, List.getElem?_cons_zero]; rfl)) (by kernel_rfl) (by kernel_rfl) (by kernel_rfl) (by exact fun _ _ _ h => h) (Or.inl ⟨by rfl, ?r7_hy6⟩) (by assumption) ?r7_rest6
        case r7_hy6 => intro w hSw; (try dsimp only at hSw); (go_simp <;> (with_reducible rfl))
        try simp only [Act.put, List.setIfInBounds_toArray, List.set_cons_zero, List.set_cons_succ]
        refine wpAnyH_take (i := 8) (v := ?r7_vv8) (by (simp only [List.getElem?_toArray, List.getElem?_cons_succ, List.getElem?_cons_zero]; rfl)) (by kernel_rfl) (by kernel_rfl) (by kernel_rfl) (by exact fun _ _ _ h => h) (Or.inl ⟨by rfl, ?r7_hy8⟩) (by assumption) ?r7_rest8
        case r7_hy8 => intro w hSw; (try dsimp only at hSw); (go_simp <;> (with_reducible rfl))
        try simp only [Act.put, List.setIfInBounds_toArray, List.set_cons_zero, List.set_cons_succ]
        refine wpAnyH_take (i := 9) (v := ?r7_vv9) (by (simp only [List.getElem?_toArray, List.getElem?_cons_succ, List.getElem?_cons_zero]; rfl)) (by kernel_rfl) (by kernel_rfl) (by kernel_rfl) (by exact fun _ _ _ h => h) (Or.inl ⟨by rfl, ?r7_hy9⟩) (by assumption) ?r7_rest9
        case r7_hy9 => intro w hSw; (try dsimp only at hSw); (go_simp <;> (with_reducible rfl))
        try simp only [Act.put, List.setIfInBounds_toArray, List.set_cons_zero, List.set_cons_succ]
        refine wpAnyH_take (i := 10) (v := ?r7_vv10) (by (simp only [List.getElem?_toArray, List.getElem?_cons_succ, List.getElem?_cons_zero]; rfl)) (by kernel_rfl) (by kernel_rfl) (by kernel_rfl) (by exact fun _ _ _ h => h) (Or.inl ⟨by rfl, ?r7_hy10⟩) (by assumption) ?r7_rest10
        case r7_hy10 => intro w hSw; (try dsimp only at hSw); (go_simp <;> (with_reducible rfl))
        try simp only [Act.put, List.setIfInBounds_toArray, List.set_cons_zero, List.set_cons_succ]
        refine wpAnyH_take (i := 11) (v := ?r7_vv11) (by (simp only [List.getElem?_toArray, List.getElem?_cons_succ, List.getElem?_cons_zero]; rfl)) (by kernel_rfl) (by kernel_rfl) (by kernel_rfl) (by exact fun _ _ _ h => h) (Or.inl ⟨by rfl, ?r7_hy11⟩) (by assumption) ?r7_rest11
        case r7_hy11 => intro w hSw; (try dsimp only at hSw); (go_simp <;> (with_reducible rfl))
        try simp only [Act.put, List.setIfInBounds_toArray, List.set_cons_zero, List.set_cons_succ]
        refine wpAnyH_take (i := 12) (v := ?r7_vv12) (by (simp only [List.getElem?_toArray, List.getElem?_cons_succ, List.getElem?_cons_zero]; rfl)) (by kernel_rfl) (by kernel_rfl) (by kernel_rfl) (by exact fun _ _ _ h => h) (Or.inl ⟨by rfl, ?r7_hy12⟩) (by assumption) ?r7_rest12
        case r7_hy12 => intro w hSw; (try dsimp only at hSw); (go_simp <;> (with_reducible rfl))
        try simp only [Act.put, List.setIfInBounds_toArray, List.set_cons_zero, List.set_cons_succ]
        refine wpAnyH_ready (rs := [3]) (by kernel_rfl) (by simp) ?_
        refine AllReadyH.cons (by (simp only [List.getElem?_toArray, List.getElem?_cons_succ, List.getElem?_cons_zero]; rfl)) (fun K hK => ?_) AllReadyH.nil
        go_simp
        (go_at_call 99; with_reducible refine (qa.out _ (by assumption)).mono ?_; rintro e w9 ⟨rfl, hb9⟩)
        try go_wp2_with fail
        refine hK.out _ _ ?r7_hS3 (fun hHeld => ?r7_r3)
        case r7_hS3 => (try dsimp only); first | assumption | exact SqS.keep hlb (by assumption) ((Below.refl _ _).drew) | exact SqS.keep hlb (by assumption) (by assumption)
        clear hK K
        try simp only [Act.put, List.setIfInBounds_toArray, List.set_cons_zero, List.set_cons_succ]
        refine wpAnyH_ready (rs := [7]) (by kernel_rfl) (by simp) ?_
        refine AllReadyH.cons (by (simp only [List.getElem?_toArray, List.getElem?_cons_succ, List.getElem?_cons_zero]; rfl)) (fun K hK => ?_) AllReadyH.nil
        go_simp
        (go_at_call 99; with_reducible refine (qb.out _ (by assumption)).mono ?_; rintro e w10 ⟨rfl, hb10⟩)
        try go_wp2_with fail
        refine hK.out _ _ ?r7_hS7 (fun hHeld => ?r7_r7)
        case r7_hS7 => (try dsimp only); first | assumption | exact SqS.keep hlb (by assumption) ((Below.refl _ _).drew) | exact SqS.keep hlb (by assumption) (by assumption)
        clear hK K
        try simp only [Act.put, List.setIfInBounds_toArray, List.set_cons_zero, List.set_cons_succ]
        refine wpAnyH_ready (rs := [13]) (by kernel_rfl) (by simp) ?_
        refine AllReadyH.cons (by (simp only [List.getElem?_toArray, List.getElem?_cons_succ, List.getElem?_cons_zero]; rfl)) (fun K hK => ?_) AllReadyH.nil
        go_simp
        (go_at_call 121; with_reducible refine (qc.out _ (by assumption)).mono ?_; rintro e w11 ⟨rfl, hb11⟩)
        try go_wp2_with fail
        refine hK.out _ _ ?r7_hS13 (fun hHeld => ?r7_r13)
        case r7_hS13 => (try dsimp only); first | assumption | exact SqS.keep hlb (by assumption) ((Below.refl _ _).drew) | exact SqS.keep hlb (by assumption) (by assumption)
        clear hK K
        try simp only [Act.put, List.setIfInBounds_toArray, List.set_cons_zero, List.set_cons_succ]
        refine wpAnyH_take (i := 14) (v := ?r7_vv14) (by (simp only [List.getElem?_toArray, List.getElem?_cons_succ, List.getElem?_cons_zero]; rfl)) (by kernel_rfl) (by kernel_rfl) (by kernel_rfl) (by exact fun _ _ _ h => h) (Or.inl ⟨by rfl, ?r7_hy14⟩) (by assumption) ?r7_rest14
        case r7_hy14 => intro w hSw; (try dsimp only at hSw); (go_simp <;> (with_reducible rfl))
        try simp only [Act.put, List.setIfInBounds_toArray, List.set_cons_zero, List.set_cons_succ]
        refine wpAnyH_take (i := 15) (v := ?r7_vv15) (by (simp only [List.getElem?_toArray, List.getElem?_cons_succ, List.getElem?_cons_zero]; rfl)) (by kernel_rfl) (by kernel_rfl) (by kernel_rfl) (by exact fun _ _ _ h => h) (Or.inl ⟨by rfl, ?r7_hy15⟩) (by assumption) ?r7_rest15
        case r7_hy15 => intro w hSw; (try dsimp only at hSw); (go_simp <;> (with_reducible rfl))
        try simp only [Act.put, List.setIfInBounds_toArray, List.set_cons_zero, List.set_cons_succ]
        refine wpAnyH_take (i := 16) (v := ?r7_vv16) (by (simp only [List.getElem?_toArray, List.getElem?_cons_succ, List.getElem?_cons_zero]; rfl)) (by kernel_rfl) (by kernel_rfl) (by kernel_rfl) (by exact fun _ _ _ h => h) (Or.inl ⟨by rfl, ?r7_hy16⟩) (by assumption) ?r7_rest16
        case r7_hy16 => intro w hSw; (try dsimp only at hSw); (go_simp <;> (with_reducible rfl))
        try simp only [Act.put, List.setIfInBounds_toArray, List.set_cons_zero, List.set_cons_succ]
        refine wpAnyH_done (by kernel_rfl) ?_ _
        have HB9 := Lib.hid (HB2.out.trans (Below.mono (And.left (b := _) (by assumption)) HB2.out.size))
        go_wp2_with fail
        go_ret3
        exact ⟨by rw [hE.out]; rfl, HB9.out⟩
      · have e2B : (b.x == a.x + 1) = false := by simpa using e2
        by_cases e3 : a.x = b.x
        · have e3B : (a.x == b.x) = true := by simpa using e3
          have e4 : ¬ b.y = a.y + 1 := by omega
          have e4B : (b.y == a.y + 1) = false := by simpa using e4
          have hE := Lib.hid (show R = (0, 0, false) from by rw [hR.out, sidesAt, if_neg (by rw [hsw.out]; simp), sides2, if_neg (by omega), if_neg (by omega)])
          clear e1 e2 e3 e4
          try go_wp2_with fail
          go_quiet (fail)
          go_wp2_with fail
          go_ret3
          exact ⟨by rw [hE.out]; rfl, ext_drewN HB1.out _⟩
        · have e3B : (a.x == b.x) = false := by simpa using e3
          have hE := Lib.hid (show R = (0, 0, false) from by rw [hR.out, sidesAt, if_neg (by rw [hsw.out]; simp), sides2, if_neg (by omega), if_neg (by omega)])
          clear e1 e2 e3
          try go_wp2_with fail
          go_quiet (fail)
          go_wp2_with fail
          go_ret3
          exact ⟨by rw [hE.out]; rfl, ext_drewN HB1.out _⟩
    · have e1B : (a.y == b.y) = false := by simpa using e1
      by_cases e3 : a.x = b.x
      · have e3B : (a.x == b.x) = true := by simpa using e3
        by_cases e4 : b.y = a.y + 1
        · have e4B : (b.y == a.y + 1) = true := by simpa using e4
          have hE := Lib.hid (show R = (atI sl a.x a.y, atI sl (a.x - 1) a.y, jointB sl a.x a.y (a.x - 1) a.y) from by rw [hR.out, sidesAt, if_neg (by rw [hsw.out]; simp), sides2, if_neg (by omega), if_pos ⟨e3, e4⟩])
          clear e1 e3 e4
          try go_wp2_with fail
          go_quiet (fail)
          go_wp2_with fail
          have HQ2 := Lib.hid (HQ1.out.ext (ext_drewN (Below.refl _ _) nq))
          have HB2 := Lib.hid (ext_drewN HB1.out nq)
          have hlb : W.heap.size < (w2.drewN nq).heap.size := hlt.out
          have HS2 : SqS (w2.drewN nq) W.heap.size w h (.slice A sl.length cap) (w2.drewN nq) := ⟨Below.refl _ _, s0, s1, s2⟩
          clear s0 s1 s2 t0 t1 u0 u1 hlt
          generalize w2.drewN nq = W2 at *
          have qa := Lib.hid (show ∀ W', SqS W2 W.heap.size w h (.slice A sl.length cap) W' → Calls Try.prog 99 #[.agg #[.int .i8 w, .int .i8 h, .slice A sl.length cap], .int .i64 (a.x), .int .i64 (a.y)] W' (fun e w' => e = .returned (.int .i64 (atI sl a.x a.y)) ∧ Below W'.heap.size W' w') from fun W' h' => at_calls w h _ sl _ _ W' (HQ2.out.ext h'.1))
          have qb := Lib.hid (show ∀ W', SqS W2 W.heap.size w h (.slice A sl.length cap) W' → Calls Try.prog 99 #[.agg #[.int .i8 w, .int .i8 h, .slice A sl.length cap], .int .i64 ((a.x - 1)), .int .i64 (a.y)] W' (fun e w' => e = .returned (.int .i64 (atI sl (a.x - 1) a.y)) ∧ Below W'.heap.size W' w') from fun W' h' => at_calls w h _ sl _ _ W' (HQ2.out.ext h'.1))
          have qc := Lib.hid (show ∀ W', SqS W2 W.heap.size w h (.slice A sl.length cap) W' → Calls Try.prog 121 #[.agg #[.int .i8 w, .int .i8 h, .slice A sl.length cap], .int .i64 (a.x), .int .i64 (a.y), .int .i64 ((a.x - 1)), .int .i64 (a.y)] W' (fun e w' => e = .returned (.bool (jointB sl a.x a.y (a.x - 1) a.y)) ∧ Below W'.heap.size W' w') from fun W' h' => joint_calls w h _ sl _ _ _ _ W' (HQ2.out.ext h'.1))
          refine wp_region_held_drew (S := (SqS W2 W.heap.size w h (.slice A sl.length cap))) (by kernel_rfl) ?r8_hS0 (fun hHeld => ?r8_rest)
          case r8_hS0 => (try dsimp only); first | assumption | exact SqS.keep hlb (by assumption) ((Below.refl _ _).drew) | exact SqS.keep hlb (by assumption) (by assumption)
          refine wpAnyH_take (i := 0) (v := ?r8_vv0) (by (simp only [List.getElem?_toArray, List.getElem?_cons_succ, List.getElem?_cons_zero]; rfl)) (by kernel_rfl) (by kernel_rfl) (by kernel_rfl) (by exact fun _ _ _ h => h) (Or.inl ⟨by rfl, ?r8_hy0⟩) (by assumption) ?r8_rest0
          case r8_hy0 => intro w hSw; (try dsimp only at hSw); (go_simp <;> (with_reducible rfl))
          try simp only [Act.put, List.setIfInBounds_toArray, List.set_cons_zero, List.set_cons_succ]
          refine wpAnyH_take (i := 1) (v := ?r8_vv1) (by (simp only [List.getElem?_toArray, List.getElem?_cons_succ, List.getElem?_cons_zero]; rfl)) (by kernel_rfl) (by kernel_rfl) (by kernel_rfl) (by exact fun _ _ _ h => h) (Or.inl ⟨by rfl, ?r8_hy1⟩) (by assumption) ?r8_rest1
          case r8_hy1 => intro w hSw; (try dsimp only at hSw); (go_simp <;> (with_reducible rfl))
          try simp only [Act.put, List.setIfInBounds_toArray, List.set_cons_zero, List.set_cons_succ]
          refine wpAnyH_take (i := 2) (v := ?r8_vv2) (by (simp only [List.getElem?_toArray, List.getElem?_cons_succ, List.getElem?_cons_zero]; rfl)) (by kernel_rfl) (by kernel_rfl) (by kernel_rfl) (by exact fun _ _ _ h => h) (Or.inl ⟨by rfl, ?r8_hy2⟩) (by assumption) ?r8_rest2
          case r8_hy2 => intro w hSw; (try dsimp only at hSw); (go_simp <;> (with_reducible rfl))
          try simp only [Act.put, List.setIfInBounds_toArray, List.set_cons_zero, List.set_cons_succ]
          refine wpAnyH_take (i := 4) (v := ?r8_vv4) (by (simp only [List.getElem?_toArray, List.getElem?_cons_succ, List.getElem?_cons_zero]; rfl)) (by kernel_rfl) (by kernel_rfl) (by kernel_rfl) (by exact fun _ _ _ h => h) (Or.inl ⟨by rfl, ?r8_hy4⟩) (by assumption) ?r8_rest4
          case r8_hy4 => intro w hSw; (try dsimp only at hSw); (go_simp <;> (with_reducible rfl))
          try simp only [Act.put, List.setIfInBounds_toArray, List.set_cons_zero, List.set_cons_succ]
          refine wpAnyH_take (i := 5) (v := ?r8_vv5) (by (simp only [List.getElem?_toArray, List.getElem?_cons_succ, List.getElem?_cons_zero]; rfl)) (by kernel_rfl) (by kernel_rfl) (by kernel_rfl) (by exact fun _ _ _ h => h) (Or.inl ⟨by rfl, ?r8_hy5⟩) (by assumption) ?r8_rest5
          case r8_hy5 => intro w hSw; (try dsimp only at hSw); (go_simp <;> (with_reducible rfl))
          try simp only [Act.put, List.setIfInBounds_toArray, List.set_cons_zero, List.set_cons_succ]
          refine wpAnyH_take (i := 6) (v := ?r8_vv6) (by (simp only [List.getElem?_toArray, List.getElem?_cons_succ, List.getElem?_cons_zero]; rfl)) (by kernel_rfl) (by kernel_rfl) (by kernel_rfl) (by exact fun _ _ _ h => h) (Or.inl ⟨by rfl, ?r8_hy6⟩) (by assumption) ?r8_rest6
          case r8_hy6 => intro w hSw; (try dsimp only at hSw); (go_simp <;> (with_reducible rfl))
          try simp only [Act.put, List.setIfInBounds_toArray, List.set_cons_zero, List.set_cons_succ]
          refine wpAnyH_take (i := 8) (v := ?r8_vv8) (by (simp only [List.getElem?_toArray, List.getElem?_cons_succ, List.getElem?_cons_zero]; rfl)) (by kernel_rfl) (by kernel_rfl) (by kernel_rfl) (by exact fun _ _ _ h => h) (Or.inl ⟨by rfl, ?r8_hy8⟩) (by assumption) ?r8_rest8
          case r8_hy8 => intro w hSw; (try dsimp only at hSw); (go_simp <;> (with_reducible rfl))
          try simp only [Act.put, List.setIfInBounds_toArray, List.set_cons_zero, List.set_cons_succ]
          refine wpAnyH_take (i := 9) (v := ?r8_vv9) (by (simp only [List.getElem?_toArray, List.getElem?_cons_succ, List.getElem?_cons_zero]; rfl)) (by kernel_rfl) (by kernel_rfl) (by kernel_rfl) (by exact fun _ _ _ h => h) (Or.inl ⟨by rfl, ?r8_hy9⟩) (by assumption) ?r8_rest9
          case r8_hy9 => intro w hSw; (try dsimp only at hSw); (go_simp <;> (with_reducible rfl))
          try simp only [Act.put, List.setIfInBounds_toArray, List.set_cons_zero, List.set_cons_succ]
          refine wpAnyH_take (i := 10) (v := ?r8_vv10) (by (simp only [List.getElem?_toArray, List.getElem?_cons_succ, List.getElem?_cons_zero]; rfl)) (by kernel_rfl) (by kernel_rfl) (by kernel_rfl) (by exact fun _ _ _ h => h) (Or.inl ⟨by rfl, ?r8_hy10⟩) (by assumption) ?r8_rest10
          case r8_hy10 => intro w hSw; (try dsimp only at hSw); (go_simp <;> (with_reducible rfl))
          try simp only [Act.put, List.setIfInBounds_toArray, List.set_cons_zero, List.set_cons_succ]
          refine wpAnyH_take (i := 11) (v := ?r8_vv11) (by (simp only [List.getElem?_toArray, List.getElem?_cons_succ, List.getElem?_cons_zero]; rfl)) (by kernel_rfl) (by kernel_rfl) (by kernel_rfl) (by exact fun _ _ _ h => h) (Or.inl ⟨by rfl, ?r8_hy11⟩) (by assumption) ?r8_rest11
          case r8_hy11 => intro w hSw; (try dsimp only at hSw); (go_simp <;> (with_reducible rfl))
          try simp only [Act.put, List.setIfInBounds_toArray, List.set_cons_zero, List.set_cons_succ]
          refine wpAnyH_take (i := 12) (v := ?r8_vv12) (by (simp only [List.getElem?_toArray, List.getElem?_cons_succ, List.getElem?_cons_zero]; rfl)) (by kernel_rfl) (by kernel_rfl) (by kernel_rfl) (by exact fun _ _ _ h => h) (Or.inl ⟨by rfl, ?r8_hy12⟩) (by assumption) ?r8_rest12
          case r8_hy12 => intro w hSw; (try dsimp only at hSw); (go_simp <;> (with_reducible rfl))
          try simp only [Act.put, List.setIfInBounds_toArray, List.set_cons_zero, List.set_cons_succ]
          refine wpAnyH_ready (rs := [3]) (by kernel_rfl) (by simp) ?_
          refine AllReadyH.cons (by (simp only [List.getElem?_toArray, List.getElem?_cons_succ, List.getElem?_cons_zero]; rfl)) (fun K hK => ?_) AllReadyH.nil
          go_simp
          (go_at_call 99; with_reducible refine (qa.out _ (by assumption)).mono ?_; rintro e w9 ⟨rfl, hb9⟩)
          try go_wp2_with fail
          refine hK.out _ _ ?r8_hS3 (fun hHeld => ?r8_r3)
          case r8_hS3 => (try dsimp only); first | assumption | exact SqS.keep hlb (by assumption) ((Below.refl _ _).drew) | exact SqS.keep hlb (by assumption) (by assumption)
          clear hK K
          try simp only [Act.put, List.setIfInBounds_toArray, List.set_cons_zero, List.set_cons_succ]
          refine wpAnyH_ready (rs := [7]) (by kernel_rfl) (by simp) ?_
          refine AllReadyH.cons (by (simp only [List.getElem?_toArray, List.getElem?_cons_succ, List.getElem?_cons_zero]; rfl)) (fun K hK => ?_) AllReadyH.nil
          go_simp
          (go_at_call 99; with_reducible refine (qb.out _ (by assumption)).mono ?_; rintro e w10 ⟨rfl, hb10⟩)
          try go_wp2_with fail
          refine hK.out _ _ ?r8_hS7 (fun hHeld => ?r8_r7)
          case r8_hS7 => (try dsimp only); first | assumption | exact SqS.keep hlb (by assumption) ((Below.refl _ _).drew) | exact SqS.keep hlb (by assumption) (by assumption)
          clear hK K
          try simp only [Act.put, List.setIfInBounds_toArray, List.set_cons_zero, List.set_cons_succ]
          refine wpAnyH_ready (rs := [13]) (by kernel_rfl) (by simp) ?_
          refine AllReadyH.cons (by (simp only [List.getElem?_toArray, List.getElem?_cons_succ, List.getElem?_cons_zero]; rfl)) (fun K hK => ?_) AllReadyH.nil
          go_simp
          (go_at_call 121; with_reducible refine (qc.out _ (by assumption)).mono ?_; rintro e w11 ⟨rfl, hb11⟩)
          try go_wp2_with fail
          refine hK.out _ _ ?r8_hS13 (fun hHeld => ?r8_r13)
          case r8_hS13 => (try dsimp only); first | assumption | exact SqS.keep hlb (by assumption) ((Below.refl _ _).drew) | exact SqS.keep hlb (by assumption) (by assumption)
          clear hK K
          try simp only [Act.put, List.setIfInBounds_toArray, List.set_cons_zero, List.set_cons_succ]
          refine wpAnyH_take (i := 14) (v := ?r8_vv14) (by (simp only [List.getElem?_toArray, List.getElem?_cons_succ, List.getElem?_cons_zero]; rfl)) (by kernel_rfl) (by kernel_rfl) (by kernel_rfl) (by exact fun _ _ _ h => h) (Or.inl ⟨by rfl, ?r8_hy14⟩) (by assumption) ?r8_rest14
          case r8_hy14 => intro w hSw; (try dsimp only at hSw); (go_simp <;> (with_reducible rfl))
          try simp only [Act.put, List.setIfInBounds_toArray, List.set_cons_zero, List.set_cons_succ]
          refine wpAnyH_take (i := 15) (v := ?r8_vv15) (by (simp only [List.getElem?_toArray, List.getElem?_cons_succ, List.getElem?_cons_zero]; rfl)) (by kernel_rfl) (by kernel_rfl) (by kernel_rfl) (by exact fun _ _ _ h => h) (Or.inl ⟨by rfl, ?r8_hy15⟩) (by assumption) ?r8_rest15
          case r8_hy15 => intro w hSw; (try dsimp only at hSw); (go_simp <;> (with_reducible rfl))
          try simp only [Act.put, List.setIfInBounds_toArray, List.set_cons_zero, List.set_cons_succ]
          refine wpAnyH_take (i := 16) (v := ?r8_vv16) (by (simp only [List.getElem?_toArray, List.getElem?_cons_succ, List.getElem?_cons_zero]; rfl)) (by kernel_rfl) (by kernel_rfl) (by kernel_rfl) (by exact fun _ _ _ h => h) (Or.inl ⟨by rfl, ?r8_hy16⟩) (by assumption) ?r8_rest16
          case r8_hy16 => intro w hSw; (try dsimp only at hSw); (go_simp <;> (with_reducible rfl))
          try simp only [Act.put, List.setIfInBounds_toArray, List.set_cons_zero, List.set_cons_succ]
          refine wpAnyH_done (by kernel_rfl) ?_ _
          have HB9 := Lib.hid (HB2.out.trans (Below.mono (And.left (b := _) (by assumption)) HB2.out.size))
          go_wp2_with fail
          go_ret3
          exact ⟨by rw [hE.out]; rfl, HB9.out⟩
        · have e4B : (b.y == a.y + 1) = false := by simpa using e4
          have hE := Lib.hid (show R = (0, 0, false) from by rw [hR.out, sidesAt, if_neg (by rw [hsw.out]; simp), sides2, if_neg (by omega), if_neg (by omega)])
          clear e1 e3 e4
          try go_wp2_with fail
          go_quiet (fail)
          go_wp2_with fail
          go_ret3
          exact ⟨by rw [hE.out]; rfl, ext_drewN HB1.out _⟩
      · have e3B : (a.x == b.x) = false := by simpa using e3
        have hE := Lib.hid (show R = (0, 0, false) from by rw [hR.out, sidesAt, if_neg (by rw [hsw.out]; simp), sides2, if_neg (by omega), if_neg (by omega)])
        clear e1 e3
        try go_wp2_with fail
        go_quiet (fail)
        go_wp2_with fail
        go_ret3
        exact ⟨by rw [hE.out]; rfl, ext_drewN HB1.out _⟩
  · have hsw := Lib.hid hsw
    have M0 := Lib.hid ((((K0.out.oth 0 (.int .i8 b.x) (show W.heap.size ≠ W.heap.size + 1 by omega)).oth 1 (.int .i8 b.y) (show W.heap.size ≠ W.heap.size + 1 by omega)).oth 0 (.int .i8 a.x) (show W.heap.size ≠ W.heap.size + 1 + 1 by omega)).oth 1 (.int .i8 a.y) (show W.heap.size ≠ W.heap.size + 1 + 1 by omega))
    have M1 := Lib.hid ((((K1.out.set 0 (.int .i8 b.x)).set 1 (.int .i8 b.y)).oth 0 (.int .i8 a.x) (show W.heap.size + 1 ≠ W.heap.size + 1 + 1 by omega)).oth 1 (.int .i8 a.y) (show W.heap.size + 1 ≠ W.heap.size + 1 + 1 by omega))
    have M2 := Lib.hid ((((K2.out.oth 0 (.int .i8 b.x) (show W.heap.size + 1 + 1 ≠ W.heap.size + 1 by omega)).oth 1 (.int .i8 b.y) (show W.heap.size + 1 + 1 ≠ W.heap.size + 1 by omega)).set 0 (.int .i8 a.x)).set 1 (.int .i8 a.y))
    have G := Lib.hid (show Below W1.heap.size W1 ((((w1.setCell ⟨W.heap.size + 1, 0, none⟩ (.int .i8 b.x)).setCell ⟨W.heap.size + 1, 1, none⟩ (.int .i8 b.y)).setCell ⟨W.heap.size + 1 + 1, 0, none⟩ (.int .i8 a.x)).setCell ⟨W.heap.size + 1 + 1, 1, none⟩ (.int .i8 a.y)) ∨ True from Or.inr trivial)
    have HBn := Lib.hid (show Below W.heap.size W ((((w1.setCell ⟨W.heap.size + 1, 0, none⟩ (.int .i8 b.x)).setCell ⟨W.heap.size + 1, 1, none⟩ (.int .i8 b.y)).setCell ⟨W.heap.size + 1 + 1, 0, none⟩ (.int .i8 a.x)).setCell ⟨W.heap.size + 1 + 1, 1, none⟩ (.int .i8 a.y)) from
      (((HB1.out.grown (gby_set _ _ _ _) (by have := HB1.out.size; simpa using this) (fun j hj => by injection hj with hj; omega)).grown (gby_set _ _ _ _) (by have := HB1.out.size; simpa [World.setCell] using this) (fun j hj => by injection hj with hj; omega)).grown (gby_set _ _ _ _) (by have := HB1.out.size; simpa [World.setCell] using this) (fun j hj => by injection hj with hj; omega)).grown (gby_set _ _ _ _) (by have := HB1.out.size; simpa [World.setCell] using this) (fun j hj => by injection hj with hj; omega))
    go_wp2_with fail
    clear s0 s1 s2 t0 t1 u0 u1 f0 f1 g0 g1
    have s0 := M0.out.cell 0 _ rfl
    have s1 := M0.out.cell 1 _ rfl
    have s2 := M0.out.cell 2 _ rfl
    have t0' := Lib.hid (M1.out.cell 0 (.int .i8 b.x) (by simp))
    have t1' := Lib.hid (M1.out.cell 1 (.int .i8 b.y) (by simp))
    have u0' := Lib.hid (M2.out.cell 0 (.int .i8 a.x) (by simp))
    have u1' := Lib.hid (M2.out.cell 1 (.int .i8 a.y) (by simp))
    have hlt' := Lib.hid M0.out.lt
    have HQn := Lib.hid (show SqIn _ w h (.slice A sl.length cap) sl from ⟨HQ1.out.w0, HQ1.out.w1, HQ1.out.h0, HQ1.out.h1, HQ1.out.ok, ((HQ0.out.sl.keep HBn.out).more HBn.out.size)⟩)
    have HB1 := Lib.hid HBn.out
    have HQ1 := Lib.hid HQn.out
    have hlt := Lib.hid hlt'.out
    clear G HBn HQn M0 M1 M2 K0 K1 K2 hlt'
    generalize (((w1.setCell ⟨W.heap.size + 1, 0, none⟩ (.int .i8 b.x)).setCell ⟨W.heap.size + 1, 1, none⟩ (.int .i8 b.y)).setCell ⟨W.heap.size + 1 + 1, 0, none⟩ (.int .i8 a.x)).setCell ⟨W.heap.size + 1 + 1, 1, none⟩ (.int .i8 a.y) = w2 at *
    have t0 := t0'.out
    have t1 := t1'.out
    have u0 := u0'.out
    have u1 := u1'.out
    clear t0' t1' u0' u1'
    by_cases e1 : b.y = a.y
    · have e1B : (b.y == a.y) = true := by simpa using e1
      by_cases e2 : a.x = b.x + 1
      · have e2B : (a.x == b.x + 1) = true := by simpa using e2
        have hE := Lib.hid (show R = (atI sl b.x b.y, atI sl b.x (b.y - 1), jointB sl b.x b.y b.x (b.y - 1)) from by rw [hR.out, sidesAt, if_pos hsw.out, sides2, if_pos ⟨e1, e2⟩])
        clear e1 e2
        try go_wp2_with fail
        go_quiet (fail)
        go_wp2_with fail
        have HQ2 := Lib.hid (HQ1.out.ext (ext_drewN (Below.refl _ _) nq))
        have HB2 := Lib.hid (ext_drewN HB1.out nq)
        have hlb : W.heap.size < (w2.drewN nq).heap.size := hlt.out
        have HS2 : SqS (w2.drewN nq) W.heap.size w h (.slice A sl.length cap) (w2.drewN nq) := ⟨Below.refl _ _, s0, s1, s2⟩
        clear s0 s1 s2 t0 t1 u0 u1 hlt
        generalize w2.drewN nq = W2 at *
        have qa := Lib.hid (show ∀ W', SqS W2 W.heap.size w h (.slice A sl.length cap) W' → Calls Try.prog 99 #[.agg #[.int .i8 w, .int .i8 h, .slice A sl.length cap], .int .i64 (b.x), .int .i64 (b.y)] W' (fun e w' => e = .returned (.int .i64 (atI sl b.x b.y)) ∧ Below W'.heap.size W' w') from fun W' h' => at_calls w h _ sl _ _ W' (HQ2.out.ext h'.1))
        have qb := Lib.hid (show ∀ W', SqS W2 W.heap.size w h (.slice A sl.length cap) W' → Calls Try.prog 99 #[.agg #[.int .i8 w, .int .i8 h, .slice A sl.length cap], .int .i64 (b.x), .int .i64 ((b.y - 1))] W' (fun e w' => e = .returned (.int .i64 (atI sl b.x (b.y - 1))) ∧ Below W'.heap.size W' w') from fun W' h' => at_calls w h _ sl _ _ W' (HQ2.out.ext h'.1))
        have qc := Lib.hid (show ∀ W', SqS W2 W.heap.size w h (.slice A sl.length cap) W' → Calls Try.prog 121 #[.agg #[.int .i8 w, .int .i8 h, .slice A sl.length cap], .int .i64 (b.x), .int .i64 (b.y), .int .i64 (b.x), .int .i64 ((b.y - 1))] W' (fun e w' => e = .returned (.bool (jointB sl b.x b.y b.x (b.y - 1))) ∧ Below W'.heap.size W' w') from fun W' h' => joint_calls w h _ sl _ _ _ _ W' (HQ2.out.ext h'.1))
        refine wp_region_held_drew (S := (SqS W2 W.heap.size w h (.slice A sl.length cap))) (by kernel_rfl) ?r9_hS0 (fun hHeld => ?r9_rest)
        case r9_hS0 => (try dsimp only); first | assumption | exact SqS.keep hlb (by assumption) ((Below.refl _ _).drew) | exact SqS.keep hlb (by assumption) (by assumption)
        refine wpAnyH_take (i := 0) (v := ?r9_vv0) (by (simp only [List.getElem?_toArray, List.getElem?_cons_succ, List.getElem?_cons_zero]; rfl)) (by kernel_rfl) (by kernel_rfl) (by kernel_rfl) (by exact fun _ _ _ h => h) (Or.inl ⟨by rfl, ?r9_hy0⟩) (by assumption) ?r9_rest0
        case r9_hy0 => intro w hSw; (try dsimp only at hSw); (go_simp <;> (with_reducible rfl))
        try simp only [Act.put, List.setIfInBounds_toArray, List.set_cons_zero, List.set_cons_succ]
        refine wpAnyH_take (i := 1) (v := ?r9_vv1) (by (simp only [List.getElem?_toArray, List.getElem?_cons_succ, List.getElem?_cons_zero]; rfl)) (by kernel_rfl) (by kernel_rfl) (by kernel_rfl) (by exact fun _ _ _ h => h) (Or.inl ⟨by rfl, ?r9_hy1⟩) (by assumption) ?r9_rest1
        case r9_hy1 => intro w hSw; (try dsimp only at hSw); (go_simp <;> (with_reducible rfl))
        try simp only [Act.put, List.setIfInBounds_toArray, List.set_cons_zero, List.set_cons_succ]
        refine wpAnyH_take (i := 2) (v := ?r9_vv2) (by (simp only [List.getElem?_toArray, List.getElem?_cons_succ, List.getElem?_cons_zero]; rfl)) (by kernel_rfl) (by kernel_rfl) (by kernel_rfl) (by exact fun _ _ _ h => h) (Or.inl ⟨by rfl, ?r9_hy2⟩) (by assumption) ?r9_rest2
        case r9_hy2 => intro w hSw; (try dsimp only at hSw); (go_simp <;> (with_reducible rfl))
        try simp only [Act.put, List.setIfInBounds_toArray, List.set_cons_zero, List.set_cons_succ]
        refine wpAnyH_take (i := 4) (v := ?r9_vv4) (by (simp only [List.getElem?_toArray, List.getElem?_cons_succ, List.getElem?_cons_zero]; rfl)) (by kernel_rfl) (by kernel_rfl) (by kernel_rfl) (by exact fun _ _ _ h => h) (Or.inl ⟨by rfl, ?r9_hy4⟩) (by assumption) ?r9_rest4
        case r9_hy4 => intro w hSw; (try dsimp only at hSw); (go_simp <;> (with_reducible rfl))
        try simp only [Act.put, List.setIfInBounds_toArray, List.set_cons_zero, List.set_cons_succ]
        refine wpAnyH_take (i := 5) (v := ?r9_vv5) (by (simp only [List.getElem?_toArray, List.getElem?_cons_succ, List.getElem?_cons_zero]; rfl)) (by kernel_rfl) (by kernel_rfl) (by kernel_rfl) (by exact fun _ _ _ h => h) (Or.inl ⟨by rfl, ?r9_hy5⟩) (by assumption) ?r9_rest5
        case r9_hy5 => intro w hSw; (try dsimp only at hSw); (go_simp <;> (with_reducible rfl))
        try simp only [Act.put, List.setIfInBounds_toArray, List.set_cons_zero, List.set_cons_succ]
        refine wpAnyH_take (i := 6) (v := ?r9_vv6) (by (simp only [List.getElem?_toArray, List.getElem?_cons_succ, List.getElem?_cons_zero]; rfl)) (by kernel_rfl) (by kernel_rfl) (by kernel_rfl) (by exact fun _ _ _ h => h) (Or.inl ⟨by rfl, ?r9_hy6⟩) (by assumption) ?r9_rest6
        case r9_hy6 => intro w hSw; (try dsimp only at hSw); (go_simp <;> (with_reducible rfl))
        try simp only [Act.put, List.setIfInBounds_toArray, List.set_cons_zero, List.set_cons_succ]
        refine wpAnyH_take (i := 8) (v := ?r9_vv8) (by (simp only [List.getElem?_toArray, List.getElem?_cons_succ, List.getElem?_cons_zero]; rfl)) (by kernel_rfl) (by kernel_rfl) (by kernel_rfl) (by exact fun _ _ _ h => h) (Or.inl ⟨by rfl, ?r9_hy8⟩) (by assumption) ?r9_rest8
        case r9_hy8 => intro w hSw; (try dsimp only at hSw); (go_simp <;> (with_reducible rfl))
        try simp only [Act.put, List.setIfInBounds_toArray, List.set_cons_zero, List.set_cons_succ]
        refine wpAnyH_take (i := 9) (v := ?r9_vv9) (by (simp only [List.getElem?_toArray, List.getElem?_cons_succ, List.getElem?_cons_zero]; rfl)) (by kernel_rfl) (by kernel_rfl) (by kernel_rfl) (by exact fun _ _ _ h => h) (Or.inl ⟨by rfl, ?r9_hy9⟩) (by assumption) ?r9_rest9
        case r9_hy9 => intro w hSw; (try dsimp only at hSw); (go_simp <;> (with_reducible rfl))
        try simp only [Act.put, List.setIfInBounds_toArray, List.set_cons_zero, List.set_cons_succ]
        refine wpAnyH_take (i := 10) (v := ?r9_vv10) (by (simp only [List.getElem?_toArray, List.getElem?_cons_succ, List.getElem?_cons_zero]; rfl)) (by kernel_rfl) (by kernel_rfl) (by kernel_rfl) (by exact fun _ _ _ h => h) (Or.inl ⟨by rfl, ?r9_hy10⟩) (by assumption) ?r9_rest10
        case r9_hy10 => intro w hSw; (try dsimp only at hSw); (go_simp <;> (with_reducible rfl))
        try simp only [Act.put, List.setIfInBounds_toArray, List.set_cons_zero, List.set_cons_succ]
        refine wpAnyH_take (i := 11) (v := ?r9_vv11) (by (simp only [List.getElem?_toArray, List.getElem?_cons_succ, List.getElem?_cons_zero]; rfl)) (by kernel_rfl) (by kernel_rfl) (by kernel_rfl) (by exact fun _ _ _ h => h) (Or.inl ⟨by rfl, ?r9_hy11⟩) (by assumption) ?r9_rest11
        case r9_hy11 => intro w hSw; (try dsimp only at hSw); (go_simp <;> (with_reducible rfl))
        try simp only [Act.put, List.setIfInBounds_toArray, List.set_cons_zero, List.set_cons_succ]
        refine wpAnyH_take (i := 12) (v := ?r9_vv12) (by (simp only [List.getElem?_toArray, List.getElem?_cons_succ, List.getElem?_cons_zero]; rfl)) (by kernel_rfl) (by kernel_rfl) (by kernel_rfl) (by exact fun _ _ _ h => h) (Or.inl ⟨by rfl, ?r9_hy12⟩) (by assumption) ?r9_rest12
        case r9_hy12 => intro w hSw; (try dsimp only at hSw); (go_simp <;> (with_reducible rfl))
        try simp only [Act.put, List.setIfInBounds_toArray, List.set_cons_zero, List.set_cons_succ]
        refine wpAnyH_ready (rs := [3]) (by kernel_rfl) (by simp) ?_
        refine AllReadyH.cons (by (simp only [List.getElem?_toArray, List.getElem?_cons_succ, List.getElem?_cons_zero]; rfl)) (fun K hK => ?_) AllReadyH.nil
        go_simp
        (go_at_call 99; with_reducible refine (qa.out _ (by assumption)).mono ?_; rintro e w9 ⟨rfl, hb9⟩)
        try go_wp2_with fail
        refine hK.out _ _ ?r9_hS3 (fun hHeld => ?r9_r3)
        case r9_hS3 => (try dsimp only); first | assumption | exact SqS.keep hlb (by assumption) ((Below.refl _ _).drew) | exact SqS.keep hlb (by assumption) (by assumption)
        clear hK K
        try simp only [Act.put, List.setIfInBounds_toArray, List.set_cons_zero, List.set_cons_succ]
        refine wpAnyH_ready (rs := [7]) (by kernel_rfl) (by simp) ?_
        refine AllReadyH.cons (by (simp only [List.getElem?_toArray, List.getElem?_cons_succ, List.getElem?_cons_zero]; rfl)) (fun K hK => ?_) AllReadyH.nil
        go_simp
        (go_at_call 99; with_reducible refine (qb.out _ (by assumption)).mono ?_; rintro e w10 ⟨rfl, hb10⟩)
        try go_wp2_with fail
        refine hK.out _ _ ?r9_hS7 (fun hHeld => ?r9_r7)
        case r9_hS7 => (try dsimp only); first | assumption | exact SqS.keep hlb (by assumption) ((Below.refl _ _).drew) | exact SqS.keep hlb (by assumption) (by assumption)
        clear hK K
        try simp only [Act.put, List.setIfInBounds_toArray, List.set_cons_zero, List.set_cons_succ]
        refine wpAnyH_ready (rs := [13]) (by kernel_rfl) (by simp) ?_
        refine AllReadyH.cons (by (simp only [List.getElem?_toArray, List.getElem?_cons_succ, List.getElem?_cons_zero]; rfl)) (fun K hK => ?_) AllReadyH.nil
        go_simp
        (go_at_call 121; with_reducible refine (qc.out _ (by assumption)).mono ?_; rintro e w11 ⟨rfl, hb11⟩)
        try go_wp2_with fail
        refine hK.out _ _ ?r9_hS13 (fun hHeld => ?r9_r13)
        case r9_hS13 => (try dsimp only); first | assumption | exact SqS.keep hlb (by assumption) ((Below.refl _ _).drew) | exact SqS.keep hlb (by assumption) (by assumption)
        clear hK K
        try simp only [Act.put, List.setIfInBounds_toArray, List.set_cons_zero, List.set_cons_succ]
        refine wpAnyH_take (i := 14) (v := ?r9_vv14) (by (simp only [List.getElem?_toArray, List.getElem?_cons_succ, List.getElem?_cons_zero]; rfl)) (by kernel_rfl) (by kernel_rfl) (by kernel_rfl) (by exact fun _ _ _ h => h) (Or.inl ⟨by rfl, ?r9_hy14⟩) (by assumption) ?r9_rest14
        case r9_hy14 => intro w hSw; (try dsimp only at hSw); (go_simp <;> (with_reducible rfl))
        try simp only [Act.put, List.setIfInBounds_toArray, List.set_cons_zero, List.set_cons_succ]
        refine wpAnyH_take (i := 15) (v := ?r9_vv15) (by (simp only [List.getElem?_toArray, List.getElem?_cons_succ, List.getElem?_cons_zero]; rfl)) (by kernel_rfl) (by kernel_rfl) (by kernel_rfl) (by exact fun _ _ _ h => h) (Or.inl ⟨by rfl, ?r9_hy15⟩) (by assumption) ?r9_rest15
        case r9_hy15 => intro w hSw; (try dsimp only at hSw); (go_simp <;> (with_reducible rfl))
        try simp only [Act.put, List.setIfInBounds_toArray, List.set_cons_zero, List.set_cons_succ]
        refine wpAnyH_take (i := 16) (v := ?r9_vv16) (by (simp only [List.getElem?_toArray, List.getElem?_cons_succ, List.getElem?_cons_zero]; rfl)) (by kernel_rfl) (by kernel_rfl) (by kernel_rfl) (by exact fun _ _ _ h => h) (Or.inl ⟨by rfl, ?r9_hy16⟩) (by assumption) ?r9_rest16
        case r9_hy16 => intro w hSw; (try dsimp only at hSw); (go_simp <;> (with_reducible rfl))
        try simp only [Act.put, List.setIfInBounds_toArray, List.set_cons_zero, List.set_cons_succ]
        refine wpAnyH_done (by kernel_rfl) ?_ _
        have HB9 := Lib.hid (HB2.out.trans (Below.mono (And.left (b := _) (by assumption)) HB2.out.size))
        go_wp2_with fail
        go_ret3
        exact ⟨by rw [hE.out]; rfl, HB9.out⟩
      · have e2B : (a.x == b.x + 1) = false := by simpa using e2
        by_cases e3 : b.x = a.x
        · have e3B : (b.x == a.x) = true := by simpa using e3
          have e4 : ¬ a.y = b.y + 1 := by omega
          have e4B : (a.y == b.y + 1) = false := by simpa using e4
          have hE := Lib.hid (show R = (0, 0, false) from by rw [hR.out, sidesAt, if_pos hsw.out, sides2, if_neg (by omega), if_neg (by omega)])
          clear e1 e2 e3 e4
          try go_wp2_with fail
          go_quiet (fail)
          go_wp2_with fail
          go_ret3
          exact ⟨by rw [hE.out]; rfl, ext_drewN HB1.out _⟩
        · have e3B : (b.x == a.x) = false := by simpa using e3
          have hE := Lib.hid (show R = (0, 0, false) from by rw [hR.out, sidesAt, if_pos hsw.out, sides2, if_neg (by omega), if_neg (by omega)])
          clear e1 e2 e3
          try go_wp2_with fail
          go_quiet (fail)
          go_wp2_with fail
          go_ret3
          exact ⟨by rw [hE.out]; rfl, ext_drewN HB1.out _⟩
    · have e1B : (b.y == a.y) = false := by simpa using e1
      by_cases e3 : b.x = a.x
      · have e3B : (b.x == a.x) = true := by simpa using e3
        by_cases e4 : a.y = b.y + 1
        · have e4B : (a.y == b.y + 1) = true := by simpa using e4
          have hE := Lib.hid (show R = (atI sl b.x b.y, atI sl (b.x - 1) b.y, jointB sl b.x b.y (b.x - 1) b.y) from by rw [hR.out, sidesAt, if_pos hsw.out, sides2, if_neg (by omega), if_pos ⟨e3, e4⟩])
          clear e1 e3 e4
          try go_wp2_with fail
          go_quiet (fail)
          go_wp2_with fail
          have HQ2 := Lib.hid (HQ1.out.ext (ext_drewN (Below.refl _ _) nq))
          have HB2 := Lib.hid (ext_drewN HB1.out nq)
          have hlb : W.heap.size < (w2.drewN nq).heap.size := hlt.out
          have HS2 : SqS (w2.drewN nq) W.heap.size w h (.slice A sl.length cap) (w2.drewN nq) := ⟨Below.refl _ _, s0, s1, s2⟩
          clear s0 s1 s2 t0 t1 u0 u1 hlt
          generalize w2.drewN nq = W2 at *
          have qa := Lib.hid (show ∀ W', SqS W2 W.heap.size w h (.slice A sl.length cap) W' → Calls Try.prog 99 #[.agg #[.int .i8 w, .int .i8 h, .slice A sl.length cap], .int .i64 (b.x), .int .i64 (b.y)] W' (fun e w' => e = .returned (.int .i64 (atI sl b.x b.y)) ∧ Below W'.heap.size W' w') from fun W' h' => at_calls w h _ sl _ _ W' (HQ2.out.ext h'.1))
          have qb := Lib.hid (show ∀ W', SqS W2 W.heap.size w h (.slice A sl.length cap) W' → Calls Try.prog 99 #[.agg #[.int .i8 w, .int .i8 h, .slice A sl.length cap], .int .i64 ((b.x - 1)), .int .i64 (b.y)] W' (fun e w' => e = .returned (.int .i64 (atI sl (b.x - 1) b.y)) ∧ Below W'.heap.size W' w') from fun W' h' => at_calls w h _ sl _ _ W' (HQ2.out.ext h'.1))
          have qc := Lib.hid (show ∀ W', SqS W2 W.heap.size w h (.slice A sl.length cap) W' → Calls Try.prog 121 #[.agg #[.int .i8 w, .int .i8 h, .slice A sl.length cap], .int .i64 (b.x), .int .i64 (b.y), .int .i64 ((b.x - 1)), .int .i64 (b.y)] W' (fun e w' => e = .returned (.bool (jointB sl b.x b.y (b.x - 1) b.y)) ∧ Below W'.heap.size W' w') from fun W' h' => joint_calls w h _ sl _ _ _ _ W' (HQ2.out.ext h'.1))
          refine wp_region_held_drew (S := (SqS W2 W.heap.size w h (.slice A sl.length cap))) (by kernel_rfl) ?r10_hS0 (fun hHeld => ?r10_rest)
          case r10_hS0 => (try dsimp only); first | assumption | exact SqS.keep hlb (by assumption) ((Below.refl _ _).drew) | exact SqS.keep hlb (by assumption) (by assumption)
          refine wpAnyH_take (i := 0) (v := ?r10_vv0) (by (simp only [List.getElem?_toArray, List.getElem?_cons_succ, List.getElem?_cons_zero]; rfl)) (by kernel_rfl) (by kernel_rfl) (by kernel_rfl) (by exact fun _ _ _ h => h) (Or.inl ⟨by rfl, ?r10_hy0⟩) (by assumption) ?r10_rest0
          case r10_hy0 => intro w hSw; (try dsimp only at hSw); (go_simp <;> (with_reducible rfl))
          try simp only [Act.put, List.setIfInBounds_toArray, List.set_cons_zero, List.set_cons_succ]
          refine wpAnyH_take (i := 1) (v := ?r10_vv1) (by (simp only [List.getElem?_toArray, List.getElem?_cons_succ, List.getElem?_cons_zero]; rfl)) (by kernel_rfl) (by kernel_rfl) (by kernel_rfl) (by exact fun _ _ _ h => h) (Or.inl ⟨by rfl, ?r10_hy1⟩) (by assumption) ?r10_rest1
          case r10_hy1 => intro w hSw; (try dsimp only at hSw); (go_simp <;> (with_reducible rfl))
          try simp only [Act.put, List.setIfInBounds_toArray, List.set_cons_zero, List.set_cons_succ]
          refine wpAnyH_take (i := 2) (v := ?r10_vv2) (by (simp only [List.getElem?_toArray, List.getElem?_cons_succ, List.getElem?_cons_zero]; rfl)) (by kernel_rfl) (by kernel_rfl) (by kernel_rfl) (by exact fun _ _ _ h => h) (Or.inl ⟨by rfl, ?r10_hy2⟩) (by assumption) ?r10_rest2
          case r10_hy2 => intro w hSw; (try dsimp only at hSw); (go_simp <;> (with_reducible rfl))
          try simp only [Act.put, List.setIfInBounds_toArray, List.set_cons_zero, List.set_cons_succ]
          refine wpAnyH_take (i := 4) (v := ?r10_vv4) (by (simp only [List.getElem?_toArray, List.getElem?_cons_succ, List.getElem?_cons_zero]; rfl)) (by kernel_rfl) (by kernel_rfl) (by kernel_rfl) (by exact fun _ _ _ h => h) (Or.inl ⟨by rfl, ?r10_hy4⟩) (by assumption) ?r10_rest4
          case r10_hy4 => intro w hSw; (try dsimp only at hSw); (go_simp <;> (with_reducible rfl))
          try simp only [Act.put, List.setIfInBounds_toArray, List.set_cons_zero, List.set_cons_succ]
          refine wpAnyH_take (i := 5) (v := ?r10_vv5) (by (simp only [List.getElem?_toArray, List.getElem?_cons_succ, List.getElem?_cons_zero]; rfl)) (by kernel_rfl) (by kernel_rfl) (by kernel_rfl) (by exact fun _ _ _ h => h) (Or.inl ⟨by rfl, ?r10_hy5⟩) (by assumption) ?r10_rest5
          case r10_hy5 => intro w hSw; (try dsimp only at hSw); (go_simp <;> (with_reducible rfl))
          try simp only [Act.put, List.setIfInBounds_toArray, List.set_cons_zero, List.set_cons_succ]
          refine wpAnyH_take (i := 6) (v := ?r10_vv6) (by (simp only [List.getElem?_toArray, List.getElem?_cons_succ, List.getElem?_cons_zero]; rfl)) (by kernel_rfl) (by kernel_rfl) (by kernel_rfl) (by exact fun _ _ _ h => h) (Or.inl ⟨by rfl, ?r10_hy6⟩) (by assumption) ?r10_rest6
          case r10_hy6 => intro w hSw; (try dsimp only at hSw); (go_simp <;> (with_reducible rfl))
          try simp only [Act.put, List.setIfInBounds_toArray, List.set_cons_zero, List.set_cons_succ]
          refine wpAnyH_take (i := 8) (v := ?r10_vv8) (by (simp only [List.getElem?_toArray, List.getElem?_cons_succ, List.getElem?_cons_zero]; rfl)) (by kernel_rfl) (by kernel_rfl) (by kernel_rfl) (by exact fun _ _ _ h => h) (Or.inl ⟨by rfl, ?r10_hy8⟩) (by assumption) ?r10_rest8
          case r10_hy8 => intro w hSw; (try dsimp only at hSw); (go_simp <;> (with_reducible rfl))
          try simp only [Act.put, List.setIfInBounds_toArray, List.set_cons_zero, List.set_cons_succ]
          refine wpAnyH_take (i := 9) (v := ?r10_vv9) (by (simp only [List.getElem?_toArray, List.getElem?_cons_succ, List.getElem?_cons_zero]; rfl)) (by kernel_rfl) (by kernel_rfl) (by kernel_rfl) (by exact fun _ _ _ h => h) (Or.inl ⟨by rfl, ?r10_hy9⟩) (by assumption) ?r10_rest9
          case r10_hy9 => intro w hSw; (try dsimp only at hSw); (go_simp <;> (with_reducible rfl))
          try simp only [Act.put, List.setIfInBounds_toArray, List.set_cons_zero, List.set_cons_succ]
          refine wpAnyH_take (i := 10) (v := ?r10_vv10) (by (simp only [List.getElem?_toArray, List.getElem?_cons_succ, List.getElem?_cons_zero]; rfl)) (by kernel_rfl) (by kernel_rfl) (by kernel_rfl) (by exact fun _ _ _ h => h) (Or.inl ⟨by rfl, ?r10_hy10⟩) (by assumption) ?r10_rest10
          case r10_hy10 => intro w hSw; (try dsimp only at hSw); (go_simp <;> (with_reducible rfl))
          try simp only [Act.put, List.setIfInBounds_toArray, List.set_cons_zero, List.set_cons_succ]
          refine wpAnyH_take (i := 11) (v := ?r10_vv11) (by (simp only [List.getElem?_toArray, List.getElem?_cons_succ, List.getElem?_cons_zero]; rfl)) (by kernel_rfl) (by kernel_rfl) (by kernel_rfl) (by exact fun _ _ _ h => h) (Or.inl ⟨by rfl, ?r10_hy11⟩) (by assumption) ?r10_rest11
          case r10_hy11 => intro w hSw; (try dsimp only at hSw); (go_simp <;> (with_reducible rfl))
          try simp only [Act.put, List.setIfInBounds_toArray, List.set_cons_zero, List.set_cons_succ]
          refine wpAnyH_take (i := 12) (v := ?r10_vv12) (by (simp only [List.getElem?_toArray, List.getElem?_cons_succ, List.getElem?_cons_zero]; rfl)) (by kernel_rfl) (by kernel_rfl) (by kernel_rfl) (by exact fun _ _ _ h => h) (Or.inl ⟨by rfl, ?r10_hy12⟩) (by assumption) ?r10_rest12
          case r10_hy12 => intro w hSw; (try dsimp only at hSw); (go_simp <;> (with_reducible rfl))
          try simp only [Act.put, List.setIfInBounds_toArray, List.set_cons_zero, List.set_cons_succ]
          refine wpAnyH_ready (rs := [3]) (by kernel_rfl) (by simp) ?_
          refine AllReadyH.cons (by (simp only [List.getElem?_toArray, List.getElem?_cons_succ, List.getElem?_cons_zero]; rfl)) (fun K hK => ?_) AllReadyH.nil
          go_simp
          (go_at_call 99; with_reducible refine (qa.out _ (by assumption)).mono ?_; rintro e w9 ⟨rfl, hb9⟩)
          try go_wp2_with fail
          refine hK.out _ _ ?r10_hS3 (fun hHeld => ?r10_r3)
          case r10_hS3 => (try dsimp only); first | assumption | exact SqS.keep hlb (by assumption) ((Below.refl _ _).drew) | exact SqS.keep hlb (by assumption) (by assumption)
          clear hK K
          try simp only [Act.put, List.setIfInBounds_toArray, List.set_cons_zero, List.set_cons_succ]
          refine wpAnyH_ready (rs := [7]) (by kernel_rfl) (by simp) ?_
          refine AllReadyH.cons (by (simp only [List.getElem?_toArray, List.getElem?_cons_succ, List.getElem?_cons_zero]; rfl)) (fun K hK => ?_) AllReadyH.nil
          go_simp
          (go_at_call 99; with_reducible refine (qb.out _ (by assumption)).mono ?_; rintro e w10 ⟨rfl, hb10⟩)
          try go_wp2_with fail
          refine hK.out _ _ ?r10_hS7 (fun hHeld => ?r10_r7)
          case r10_hS7 => (try dsimp only); first | assumption | exact SqS.keep hlb (by assumption) ((Below.refl _ _).drew) | exact SqS.keep hlb (by assumption) (by assumption)
          clear hK K
          try simp only [Act.put, List.setIfInBounds_toArray, List.set_cons_zero, List.set_cons_succ]
          refine wpAnyH_ready (rs := [13]) (by kernel_rfl) (by simp) ?_
          refine AllReadyH.cons (by (simp only [List.getElem?_toArray, List.getElem?_cons_succ, List.getElem?_cons_zero]; rfl)) (fun K hK => ?_) AllReadyH.nil
          go_simp
          (go_at_call 121; with_reducible refine (qc.out _ (by assumption)).mono ?_; rintro e w11 ⟨rfl, hb11⟩)
          try go_wp2_with fail
          refine hK.out _ _ ?r10_hS13 (fun hHeld => ?r10_r13)
          case r10_hS13 => (try dsimp only); first | assumption | exact SqS.keep hlb (by assumption) ((Below.refl _ _).drew) | exact SqS.keep hlb (by assumption) (by assumption)
          clear hK K
          try simp only [Act.put, List.setIfInBounds_toArray, List.set_cons_zero, List.set_cons_succ]
          refine wpAnyH_take (i := 14) (v := ?r10_vv14) (by (simp only [List.getElem?_toArray, List.getElem?_cons_succ, List.getElem?_cons_zero]; rfl)) (by kernel_rfl) (by kernel_rfl) (by kernel_rfl) (by exact fun _ _ _ h => h) (Or.inl ⟨by rfl, ?r10_hy14⟩) (by assumption) ?r10_rest14
          case r10_hy14 => intro w hSw; (try dsimp only at hSw); (go_simp <;> (with_reducible rfl))
          try simp only [Act.put, List.setIfInBounds_toArray, List.set_cons_zero, List.set_cons_succ]
          refine wpAnyH_take (i := 15) (v := ?r10_vv15) (by (simp only [List.getElem?_toArray, List.getElem?_cons_succ, List.getElem?_cons_zero]; rfl)) (by kernel_rfl) (by kernel_rfl) (by kernel_rfl) (by exact fun _ _ _ h => h) (Or.inl ⟨by rfl, ?r10_hy15⟩) (by assumption) ?r10_rest15
          case r10_hy15 => intro w hSw; (try dsimp only at hSw); (go_simp <;> (with_reducible rfl))
          try simp only [Act.put, List.setIfInBounds_toArray, List.set_cons_zero, List.set_cons_succ]
          refine wpAnyH_take (i := 16) (v := ?r10_vv16) (by (simp only [List.getElem?_toArray, List.getElem?_cons_succ, List.getElem?_cons_zero]; rfl)) (by kernel_rfl) (by kernel_rfl) (by kernel_rfl) (by exact fun _ _ _ h => h) (Or.inl ⟨by rfl, ?r10_hy16⟩) (by assumption) ?r10_rest16
          case r10_hy16 => intro w hSw; (try dsimp only at hSw); (go_simp <;> (with_reducible rfl))
          try simp only [Act.put, List.setIfInBounds_toArray, List.set_cons_zero, List.set_cons_succ]
          refine wpAnyH_done (by kernel_rfl) ?_ _
          have HB9 := Lib.hid (HB2.out.trans (Below.mono (And.left (b := _) (by assumption)) HB2.out.size))
          go_wp2_with fail
          go_ret3
          exact ⟨by rw [hE.out]; rfl, HB9.out⟩
        · have e4B : (a.y == b.y + 1) = false := by simpa using e4
          have hE := Lib.hid (show R = (0, 0, false) from by rw [hR.out, sidesAt, if_pos hsw.out, sides2, if_neg (by omega), if_neg (by omega)])
          clear e1 e3 e4
          try go_wp2_with fail
          go_quiet (fail)
          go_wp2_with fail
          go_ret3
          exact ⟨by rw [hE.out]; rfl, ext_drewN HB1.out _⟩
      · have e3B : (b.x == a.x) = false := by simpa using e3
        have hE := Lib.hid (show R = (0, 0, false) from by rw [hR.out, sidesAt, if_pos hsw.out, sides2, if_neg (by omega), if_neg (by omega)])
        clear e1 e3
        try go_wp2_with fail
        go_quiet (fail)
        go_wp2_with fail
        go_ret3
        exact ⟨by rw [hE.out]; rfl, ext_drewN HB1.out _⟩
end Go.Proofs.Yteflpdfajfljfaa
