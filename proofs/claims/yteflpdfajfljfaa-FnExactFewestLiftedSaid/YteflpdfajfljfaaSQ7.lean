/-
Which slab covers a place; joints; corners: of the program. Conditions: numbers are of their kinds; slices can be read.
-/
import Derived.Test.YteflpdfajfljfaaSQ3
import Derived.Test.YteflpdfajfljfaaSQ4
set_option linter.unusedVariables false
set_option linter.unusedSimpArgs false
set_option maxRecDepth 100000
namespace Go.Proofs.Yteflpdfajfljfaa
open Go.RowKit
/-- A square's value. -/
def sqv (w h : Int) (z : Value) : Value := .agg #[.int .i8 w, .int .i8 h, z]
/-- What a square is, in a world. -/
structure SqIn (W : World) (w h : Int) (z : Value) (sl : List Slab) : Prop where
  w0 : -128 ≤ w
  w1 : w ≤ 127
  h0 : -128 ≤ h
  h1 : h ≤ 127
  ok : ∀ x ∈ sl, x.ok
  sl : Sl W W.heap.size Slab.c 4 z sl
theorem SqIn.ext {W W' : World} {w h : Int} {z : Value} {sl : List Slab} (q : SqIn W w h z sl) (hb : Below W.heap.size W W') : SqIn W' w h z sl := ⟨q.w0, q.w1, q.h0, q.h1, q.ok, q.sl.ext hb⟩
theorem atFn (x y : Int) (b1 b2 : Nat) (w : World) (hb1 : b1 < w.heap.size) (hb2 : b2 < w.heap.size) (h1 : w.cell? ⟨b1, 0, none⟩ = some (.int .i64 x)) (h2 : w.cell? ⟨b2, 0, none⟩ = some (.int .i64 y)) (s : Slab) (hs : s.ok) :
    Tells Try.prog 164 #[.pointer (some ⟨b1, 0, none⟩), .pointer (some ⟨b2, 0, none⟩)] Slab.v (fun s => covB s x y) w s := by
  intro W hW
  have c1 := (hW.cell (p := ⟨b1, 0, none⟩) hb1).trans h1
  have c2 := (hW.cell (p := ⟨b2, 0, none⟩) hb2).trans h2
  have l1 := Nat.lt_of_lt_of_le hb1 hW.size
  have l2 := Nat.lt_of_lt_of_le hb2 hW.size
  have hc := Lib.hid (fun W => covers_calls s hs x y W)
  unfold Slab.v at hc ⊢
  go_enter Try.func164, Try.ntmps164
  go_wp2_with fail
  refine (hc.out _).mono ?_
  rintro e w1 ⟨rfl, hb⟩
  go_wp2_with fail
  go_ret
  exact ⟨rfl, ext_of_alloc hb⟩
theorem at_calls (w h : Int) (z : Value) (sl : List Slab) (x y : Int) (W : World) (hq : SqIn W w h z sl) :
    Calls Try.prog 99 #[sqv w h z, .int .i64 x, .int .i64 y] W fun e w' => e = .returned (.int .i64 (atI sl x y)) ∧ Below W.heap.size W w' := by
  obtain ⟨A, cap, hz, -, -, -⟩ := hq.sl.slab
  subst hz
  have eg := Lib.hid (enters_of Try.func164 (by kernel_rfl) rfl)
  have hb := ext_alloc (ext_alloc ((Below.refl W.heap.size W).alloc (Nat.le_refl _) (.cells #[.int .i8 w, .int .i8 h, .slice A sl.length cap] 34)) (.cells #[.int .i64 x] 3)) (.cells #[.int .i64 y] 3)
  have hs := Lib.hid (hq.sl.ext hb)
  have k1 := ((Bk.new (W.alloc (.cells #[.int .i8 w, .int .i8 h, .slice A sl.length cap] 34)) 3 #[.int .i64 x] (W.heap.size + 1) (by simp)).alloc (.cells #[.int .i64 y] 3))
  have k2 := (Bk.new ((W.alloc (.cells #[.int .i8 w, .int .i8 h, .slice A sl.length cap] 34)).alloc (.cells #[.int .i64 x] 3)) 3 #[.int .i64 y] (W.heap.size + 1 + 1) (by simp))
  have K1 := Lib.hid k1
  have K2 := Lib.hid k2
  have HB := Lib.hid hb
  have HOK := Lib.hid hq.ok
  clear k1 k2 hb hq
  unfold sqv
  go_enter Try.func99, Try.ntmps99
  go_wp2_with fail
  refine (indexFuncSlab sl _ _ hs.out _ _ _ eg.out (fun s hs' => atFn x y _ _ _ K1.out.lt K2.out.lt (K1.out.cell 0 _ rfl) (K2.out.cell 0 _ rfl) s (HOK.out s hs'))).mono ?_
  rintro e w1 ⟨rfl, hb1⟩
  go_wp2_with fail
  go_ret
  exact ⟨rfl, ext_trans HB.out hb1⟩
abbrev SqS (W0 : World) (b : Nat) (w h : Int) (z : Value) (w' : World) : Prop :=
  Below W0.heap.size W0 w' ∧ w'.cell? ⟨b, 0, none⟩ = some (.int .i8 w) ∧ w'.cell? ⟨b, 1, none⟩ = some (.int .i8 h) ∧ w'.cell? ⟨b, 2, none⟩ = some z
theorem SqS.keep {W0 w1 w2 : World} {b : Nat} {w h : Int} {z : Value} (hb : b < W0.heap.size) (hS : SqS W0 b w h z w1) (k : Below w1.heap.size w1 w2) : SqS W0 b w h z w2 := by
  obtain ⟨h0, h1, h2, h3⟩ := hS
  have q : ∀ o, w2.cell? ⟨b, o, none⟩ = w1.cell? ⟨b, o, none⟩ := fun o => k.cell (p := ⟨b, o, none⟩) (Nat.lt_of_lt_of_le hb h0.size)
  exact ⟨ext_trans h0 k, (q _).trans h1, (q _).trans h2, (q _).trans h3⟩
set_option maxHeartbeats 1000000 in
theorem joint_calls (w h : Int) (z : Value) (sl : List Slab) (x y u v : Int) (W : World) (hq : SqIn W w h z sl) :
    Calls Try.prog 121 #[sqv w h z, .int .i64 x, .int .i64 y, .int .i64 u, .int .i64 v] W fun e w' => e = .returned (.bool (jointB sl x y u v)) ∧ Below W.heap.size W w' := by
  have hR := Lib.hid (show jointB sl x y u v = (decide (0 ≤ atI sl x y) && decide (0 ≤ atI sl u v) && decide (atI sl x y ≠ atI sl u v)) from rfl)
  obtain ⟨A, cap, hz, -, -, -⟩ := hq.sl.slab
  subst hz
  have hB := (Below.refl W.heap.size W).alloc (Nat.le_refl _) (.cells #[.int .i8 w, .int .i8 h, .slice A sl.length cap] 34)
  have HB := Lib.hid hB
  have HQ := Lib.hid (hq.ext hB)
  have hlb : W.heap.size < (W.alloc (.cells #[.int .i8 w, .int .i8 h, .slice A sl.length cap] 34)).heap.size := by simp
  have hS : SqS (W.alloc (.cells #[.int .i8 w, .int .i8 h, .slice A sl.length cap] 34)) W.heap.size w h (.slice A sl.length cap) (W.alloc (.cells #[.int .i8 w, .int .i8 h, .slice A sl.length cap] 34)) := ⟨Below.refl _ _, by simp, by simp, by simp⟩
  clear hB hq
  unfold sqv
  go_enter Try.func121, Try.ntmps121
  go_wp2_with fail
  generalize W.alloc (.cells #[.int .i8 w, .int .i8 h, .slice A sl.length cap] 34) = W2 at *
  have qa := Lib.hid (show ∀ W', SqS W2 W.heap.size w h (.slice A sl.length cap) W' → Calls Try.prog 99 #[.agg #[.int .i8 w, .int .i8 h, .slice A sl.length cap], .int .i64 x, .int .i64 y] W' (fun e w' => e = .returned (.int .i64 (atI sl x y)) ∧ Below W'.heap.size W' w') from fun W' h' => at_calls w h _ sl x y W' (HQ.out.ext h'.1))
  have qb := Lib.hid (show ∀ W', SqS W2 W.heap.size w h (.slice A sl.length cap) W' → Calls Try.prog 99 #[.agg #[.int .i8 w, .int .i8 h, .slice A sl.length cap], .int .i64 u, .int .i64 v] W' (fun e w' => e = .returned (.int .i64 (atI sl u v)) ∧ Below W'.heap.size W' w') from fun W' h' => at_calls w h _ sl u v W' (HQ.out.ext h'.1))
  generalize atI sl x y = n at *
  generalize atI sl u v = m at *
  refine wp_region_held_drew (S := (SqS W2 W.heap.size w h (.slice A sl.length cap))) (by kernel_rfl) ?r6_hS0 (fun hHeld => ?r6_rest)
  case r6_hS0 => (try dsimp only); first | assumption | exact SqS.keep hlb (by assumption) ((Below.refl _ _).drew) | exact SqS.keep hlb (by assumption) (by assumption)
  refine wpAnyH_take (i := 0) (v := ?r6_vv0) (by (simp only [List.getElem?_toArray, List.getElem?_cons_succ, List.getElem?_cons_zero]; rfl)) (by kernel_rfl) (by kernel_rfl) (by kernel_rfl) (by exact fun _ _ _ h => h) (Or.inl ⟨by rfl, ?r6_hy0⟩) (by assumption) ?r6_rest0
  case r6_hy0 => intro w hSw; (try dsimp only at hSw); (go_simp <;> (with_reducible rfl))
  try simp only [Act.put, List.setIfInBounds_toArray, List.set_cons_zero, List.set_cons_succ]
  refine wpAnyH_take (i := 1) (v := ?r6_vv1) (by (simp only [List.getElem?_toArray, List.getElem?_cons_succ, List.getElem?_cons_zero]; rfl)) (by kernel_rfl) (by kernel_rfl) (by kernel_rfl) (by exact fun _ _ _ h => h) (Or.inl ⟨by rfl, ?r6_hy1⟩) (by assumption) ?r6_rest1
  case r6_hy1 => intro w hSw; (try dsimp only at hSw); (go_simp <;> (with_reducible rfl))
  try simp only [Act.put, List.setIfInBounds_toArray, List.set_cons_zero, List.set_cons_succ]
  refine wpAnyH_take (i := 2) (v := ?r6_vv2) (by (simp only [List.getElem?_toArray, List.getElem?_cons_succ, List.getElem?_cons_zero]; rfl)) (by kernel_rfl) (by kernel_rfl) (by kernel_rfl) (by exact fun _ _ _ h => h) (Or.inl ⟨by rfl, ?r6_hy2⟩) (by assumption) ?r6_rest2
  case r6_hy2 => intro w hSw; (try dsimp only at hSw); (go_simp <;> (with_reducible rfl))
  try simp only [Act.put, List.setIfInBounds_toArray, List.set_cons_zero, List.set_cons_succ]
  refine wpAnyH_take (i := 4) (v := ?r6_vv4) (by (simp only [List.getElem?_toArray, List.getElem?_cons_succ, List.getElem?_cons_zero]; rfl)) (by kernel_rfl) (by kernel_rfl) (by kernel_rfl) (by exact fun _ _ _ h => h) (Or.inl ⟨by rfl, ?r6_hy4⟩) (by assumption) ?r6_rest4
  case r6_hy4 => intro w hSw; (try dsimp only at hSw); (go_simp <;> (with_reducible rfl))
  try simp only [Act.put, List.setIfInBounds_toArray, List.set_cons_zero, List.set_cons_succ]
  refine wpAnyH_take (i := 5) (v := ?r6_vv5) (by (simp only [List.getElem?_toArray, List.getElem?_cons_succ, List.getElem?_cons_zero]; rfl)) (by kernel_rfl) (by kernel_rfl) (by kernel_rfl) (by exact fun _ _ _ h => h) (Or.inl ⟨by rfl, ?r6_hy5⟩) (by assumption) ?r6_rest5
  case r6_hy5 => intro w hSw; (try dsimp only at hSw); (go_simp <;> (with_reducible rfl))
  try simp only [Act.put, List.setIfInBounds_toArray, List.set_cons_zero, List.set_cons_succ]
  refine wpAnyH_take (i := 6) (v := ?r6_vv6) (by (simp only [List.getElem?_toArray, List.getElem?_cons_succ, List.getElem?_cons_zero]; rfl)) (by kernel_rfl) (by kernel_rfl) (by kernel_rfl) (by exact fun _ _ _ h => h) (Or.inl ⟨by rfl, ?r6_hy6⟩) (by assumption) ?r6_rest6
  case r6_hy6 => intro w hSw; (try dsimp only at hSw); (go_simp <;> (with_reducible rfl))
  try simp only [Act.put, List.setIfInBounds_toArray, List.set_cons_zero, List.set_cons_succ]
  refine wpAnyH_ready (rs := [3]) (by kernel_rfl) (by simp) ?_
  refine AllReadyH.cons (by (simp only [List.getElem?_toArray, List.getElem?_cons_succ, List.getElem?_cons_zero]; rfl)) (fun K hK => ?_) AllReadyH.nil
  go_simp
  (go_at_call 99; with_reducible refine (qa.out _ (by assumption)).mono ?_; rintro e w9 ⟨rfl, hb9⟩)
  try go_wp2_with fail
  refine hK.out _ _ ?r6_hS3 (fun hHeld => ?r6_r3)
  case r6_hS3 => (try dsimp only); first | assumption | exact SqS.keep hlb (by assumption) ((Below.refl _ _).drew) | exact SqS.keep hlb (by assumption) (by assumption)
  clear hK K
  try simp only [Act.put, List.setIfInBounds_toArray, List.set_cons_zero, List.set_cons_succ]
  refine wpAnyH_ready (rs := [7]) (by kernel_rfl) (by simp) ?_
  refine AllReadyH.cons (by (simp only [List.getElem?_toArray, List.getElem?_cons_succ, List.getElem?_cons_zero]; rfl)) (fun K hK => ?_) AllReadyH.nil
  go_simp
  (go_at_call 99; with_reducible refine (qb.out _ (by assumption)).mono ?_; rintro e w10 ⟨rfl, hb10⟩)
  try go_wp2_with fail
  refine hK.out _ _ ?r6_hS7 (fun hHeld => ?r6_r7)
  case r6_hS7 => (try dsimp only); first | assumption | exact SqS.keep hlb (by assumption) ((Below.refl _ _).drew) | exact SqS.keep hlb (by assumption) (by assumption)
  clear hK K
  try simp only [Act.put, List.setIfInBounds_toArray, List.set_cons_zero, List.set_cons_succ]
  refine wpAnyH_take (i := 8) (v := ?r6_vv8) (by (simp only [List.getElem?_toArray, List.getElem?_cons_succ, List.getElem?_cons_zero]; rfl)) (by kernel_rfl) (by kernel_rfl) (by kernel_rfl) (by exact fun _ _ _ h => h) (Or.inl ⟨by rfl, ?r6_hy8⟩) (by assumption) ?r6_rest8
  case r6_hy8 => intro w hSw; (try dsimp only at hSw); (go_simp <;> (with_reducible rfl))
  try simp only [Act.put, List.setIfInBounds_toArray, List.set_cons_zero, List.set_cons_succ]
  refine wpAnyH_take (i := 9) (v := ?r6_vv9) (by (simp only [List.getElem?_toArray, List.getElem?_cons_succ, List.getElem?_cons_zero]; rfl)) (by kernel_rfl) (by kernel_rfl) (by kernel_rfl) (by exact fun _ _ _ h => h) (Or.inl ⟨by rfl, ?r6_hy9⟩) (by assumption) ?r6_rest9
  case r6_hy9 => intro w hSw; (try dsimp only at hSw); (go_simp <;> (with_reducible rfl))
  try simp only [Act.put, List.setIfInBounds_toArray, List.set_cons_zero, List.set_cons_succ]
  refine wpAnyH_done (by kernel_rfl) ?_ _
  have HB9 := Lib.hid (ext_trans HB.out (And.left (b := _) (by assumption)))
  go_wp2
  all_goals (go_ret; refine ⟨ret_bool ?_, HB9.out⟩; rw [hR.out]; simp [*]; first | done | rfl | omega)
theorem isPoint_calls (w h : Int) (z : Value) (sl : List Slab) (p : Cell) (hp : p.ok) (W : World) (hq : SqIn W w h z sl) :
    Calls Try.prog 106 #[sqv w h z, p.v] W fun e w' => e = .returned (.bool (inB p.x 0 w && inB p.y 0 h)) ∧ Below W.heap.size W w' := by
  obtain ⟨A, cap, hz, -, -, -⟩ := hq.sl.slab
  subst hz
  obtain ⟨x0, x1, y0, y1⟩ := hp
  obtain ⟨w0, w1, h0, h1, -, -⟩ := hq
  have hb := Lib.hid (ext_alloc ((Below.refl W.heap.size W).alloc (Nat.le_refl _) (.cells #[.int .i8 w, .int .i8 h, .slice A sl.length cap] 34)) (.cells #[.int .i8 p.x, .int .i8 p.y] 36))
  unfold sqv Cell.v
  cases hx : inB p.x 0 w
  · have HX := Lib.hid hx
    clear hx
    go_enter Try.func106, Try.ntmps106
    go_wp2_with fail
    refine (within_calls _ _ _ _).mono ?_
    rintro e w1 ⟨rfl, rfl⟩
    rw [HX.out]
    go_wp2_with fail
    go_ret
    exact ⟨rfl, hb.out⟩
  · have HX := Lib.hid hx
    clear hx
    go_enter Try.func106, Try.ntmps106
    go_wp2_with fail
    refine (within_calls _ _ _ _).mono ?_
    rintro e w1 ⟨rfl, rfl⟩
    rw [HX.out]
    go_wp2_with fail
    refine (within_calls _ _ _ _).mono ?_
    rintro e w1 ⟨rfl, rfl⟩
    go_wp2_with fail
    go_ret
    exact ⟨by simp, hb.out⟩
def aheadC (p : Cell) (way : Int) : Cell := if way = 0 then ⟨p.x, p.y - 1⟩ else if way = 1 then ⟨p.x + 1, p.y⟩ else if way = 2 then ⟨p.x, p.y + 1⟩ else ⟨p.x - 1, p.y⟩
theorem wrap8In' (x : Int) (h0 : -128 ≤ x) (h1 : x ≤ 127) : IntKind.i8.wrap x = x := by simp [IntKind.wrap, IntKind.signed, IntKind.bits]; omega
theorem ahead_calls (p : Cell) (way : Int) (hx : 0 ≤ p.x ∧ p.x ≤ 100) (hy : 0 ≤ p.y ∧ p.y ≤ 100) (W : World) :
    Calls Try.prog 108 #[p.v, .int .i64 way] W fun e w' => e = .returned (aheadC p way).v ∧ Below W.heap.size W w' := by
  have hb := Lib.hid (ext_alloc ((Below.refl W.heap.size W).alloc (Nat.le_refl _) (.cells #[.int .i8 p.x, .int .i8 p.y] 36)) (.cells #[.int .i8 0, .int .i8 0] 36))
  have a1 : IntKind.i8.wrap (p.y - 1) = p.y - 1 := wrap8In' _ (by omega) (by omega)
  have a2 : IntKind.i8.wrap (p.x + 1) = p.x + 1 := wrap8In' _ (by omega) (by omega)
  have a3 : IntKind.i8.wrap (p.y + 1) = p.y + 1 := wrap8In' _ (by omega) (by omega)
  have a4 : IntKind.i8.wrap (p.x - 1) = p.x - 1 := wrap8In' _ (by omega) (by omega)
  by_cases e0 : way = 0
  · subst e0
    have hA := Lib.hid (show aheadC p 0 = ⟨p.x, p.y - 1⟩ from rfl)
    rw [hA.out]
    unfold Cell.v
    go_enter Try.func108, Try.ntmps108
    go_wp2_with fail
    (try simp only [Exit.inBlock, Exit.then])
    exact bodyPost_ret (v := .agg #[.int .i8 p.x, .int .i8 (p.y - 1)]) (by simp [results, Try.results108, go_sem]) rfl ⟨rfl, ext_alloc ((Below.refl _ _).alloc (Nat.le_refl _) _) _⟩
  have d0 : (way == 0) = false := by simpa using e0
  by_cases e1 : way = 1
  · subst e1
    have hA := Lib.hid (show aheadC p 1 = ⟨p.x + 1, p.y⟩ from rfl)
    rw [hA.out]
    unfold Cell.v
    go_enter Try.func108, Try.ntmps108
    go_wp2_with fail
    (try simp only [Exit.inBlock, Exit.then])
    exact bodyPost_ret (v := .agg #[.int .i8 (p.x + 1), .int .i8 p.y]) (by simp [results, Try.results108, go_sem]) rfl ⟨rfl, ext_alloc ((Below.refl _ _).alloc (Nat.le_refl _) _) _⟩
  have d1 : (way == 1) = false := by simpa using e1
  by_cases e2 : way = 2
  · subst e2
    have hA := Lib.hid (show aheadC p 2 = ⟨p.x, p.y + 1⟩ from rfl)
    rw [hA.out]
    unfold Cell.v
    go_enter Try.func108, Try.ntmps108
    go_wp2_with fail
    (try simp only [Exit.inBlock, Exit.then])
    exact bodyPost_ret (v := .agg #[.int .i8 p.x, .int .i8 (p.y + 1)]) (by simp [results, Try.results108, go_sem]) rfl ⟨rfl, ext_alloc ((Below.refl _ _).alloc (Nat.le_refl _) _) _⟩
  have d2 : (way == 2) = false := by simpa using e2
  have hA := Lib.hid (show aheadC p way = ⟨p.x - 1, p.y⟩ from by simp [aheadC, e0, e1, e2])
  rw [hA.out]
  clear e0 e1 e2
  unfold Cell.v
  go_enter Try.func108, Try.ntmps108
  go_wp2_with fail
  (try simp only [Exit.inBlock, Exit.then])
  exact bodyPost_ret (v := .agg #[.int .i8 (p.x - 1), .int .i8 p.y]) (by simp [results, Try.results108, go_sem]) rfl ⟨rfl, ext_alloc ((Below.refl _ _).alloc (Nat.le_refl _) _) _⟩
end Go.Proofs.Yteflpdfajfljfaa
