/-
Corners and joints: of the reference. Conditions: numbers are of their kinds; slices can be read.
-/
import Derived.Test.YteflpdfajfljfaaSQ6
import Derived.Test.YteflpdfajfljfaaSQ10
set_option linter.unusedVariables false
set_option linter.unusedSimpArgs false
set_option maxRecDepth 100000
namespace Go.Proofs.Yteflpdfajfljfaa
open Go.RowKit
abbrev IsS (W0 : World) (b o c : Nat) (w h : Int) (z : Value) (p : Cell) (w' : World) : Prop :=
  Below W0.heap.size W0 w' ∧ w'.cell? ⟨b, o, none⟩ = some (.int .i8 w) ∧ w'.cell? ⟨b, o + 1, none⟩ = some (.int .i8 h) ∧ w'.cell? ⟨b, o + 2, none⟩ = some z ∧ w'.cell? ⟨c, 0, none⟩ = some (.int .i8 p.x) ∧ w'.cell? ⟨c, 1, none⟩ = some (.int .i8 p.y)
theorem IsS.keep {W0 w1 w2 : World} {b o c : Nat} {w h : Int} {z : Value} {p : Cell} (hb : b < W0.heap.size) (hc : c < W0.heap.size) (hS : IsS W0 b o c w h z p w1) (k : Below w1.heap.size w1 w2) : IsS W0 b o c w h z p w2 := by
  obtain ⟨h0, h1, h2, h3, h4, h5⟩ := hS
  have q : ∀ o, w2.cell? ⟨b, o, none⟩ = w1.cell? ⟨b, o, none⟩ := fun o => k.cell (p := ⟨b, o, none⟩) (Nat.lt_of_lt_of_le hb h0.size)
  have r : ∀ o, w2.cell? ⟨c, o, none⟩ = w1.cell? ⟨c, o, none⟩ := fun o => k.cell (p := ⟨c, o, none⟩) (Nat.lt_of_lt_of_le hc h0.size)
  exact ⟨ext_trans h0 k, (q _).trans h1, (q _).trans h2, (q _).trans h3, (r _).trans h4, (r _).trans h5⟩
set_option maxHeartbeats 1000000 in
theorem sIs_calls (b o : Nat) (w h : Int) (w0 : -128 ≤ w) (w1 : w ≤ 127) (h0 : -128 ≤ h) (h1 : h ≤ 127) (z : Value) (p : Cell) (hp : p.ok) (W : World) (hq : Sq.at_ W b o w h z) :
    Calls Try.prog 100 #[.pointer (some ⟨b, o, none⟩), p.v] W fun e w' => e = .returned (.bool (ptB w h p)) ∧ Below W.heap.size W w' := by
  have hB := (Below.refl W.heap.size W).alloc (Nat.le_refl _) (.cells #[.int .i8 p.x, .int .i8 p.y] 36)
  obtain ⟨c0, c1, c2, hl⟩ := hq.ext hB
  have HB := Lib.hid hB
  have hlc : W.heap.size < (W.alloc (.cells #[.int .i8 p.x, .int .i8 p.y] 36)).heap.size := by simp
  have hlb : b < (W.alloc (.cells #[.int .i8 p.x, .int .i8 p.y] 36)).heap.size := hl
  have hS : IsS (W.alloc (.cells #[.int .i8 p.x, .int .i8 p.y] 36)) b o W.heap.size w h z p (W.alloc (.cells #[.int .i8 p.x, .int .i8 p.y] 36)) := ⟨Below.refl _ _, c0, c1, c2, by simp, by simp⟩
  obtain ⟨x0, x1, y0, y1⟩ := hp
  have v0 : IntKind.i64.wrap p.x = p.x := wrapIn _ (by omega) (by omega)
  have v1 : IntKind.i64.wrap p.y = p.y := wrapIn _ (by omega) (by omega)
  have v2 : IntKind.i64.wrap w = w := wrapIn _ (by omega) (by omega)
  have v3 : IntKind.i64.wrap h = h := wrapIn _ (by omega) (by omega)
  have qx := Lib.hid (fun W => in_calls p.x 0 w W)
  have qy := Lib.hid (fun W => in_calls p.y 0 h W)
  have hR := Lib.hid (show ptB w h p = (inB p.x 0 w && inB p.y 0 h) from rfl)
  clear hB c0 c1 c2 hl hq
  unfold Cell.v
  cases hx : inB p.x 0 w
  · rw [hx] at hR qx
    clear hx
    go_enter Try.func100, Try.ntmps100
    go_wp2_with fail
    generalize W.alloc (.cells #[.int .i8 p.x, .int .i8 p.y] 36) = W2 at *
    refine wp_region_held_drew (S := (IsS W2 b o W.heap.size w h z p)) (by kernel_rfl) ?r16_hS0 (fun hHeld => ?r16_rest)
    case r16_hS0 => (try dsimp only); first | assumption | exact IsS.keep hlb hlc (by assumption) ((Below.refl _ _).drew) | exact IsS.keep hlb hlc (by assumption) (by assumption)
    refine wpAnyH_take (i := 0) (v := ?r16_vv0) (by (simp only [List.getElem?_toArray, List.getElem?_cons_succ, List.getElem?_cons_zero]; rfl)) (by kernel_rfl) (by kernel_rfl) (by kernel_rfl) (by exact fun _ _ _ h => h) (Or.inl ⟨by rfl, ?r16_hy0⟩) (by assumption) ?r16_rest0
    case r16_hy0 => intro w hSw; (try dsimp only at hSw); (go_simp <;> (with_reducible rfl))
    try simp only [Act.put, List.setIfInBounds_toArray, List.set_cons_zero, List.set_cons_succ]
    refine wpAnyH_take (i := 1) (v := ?r16_vv1) (by (simp only [List.getElem?_toArray, List.getElem?_cons_succ, List.getElem?_cons_zero]; rfl)) (by kernel_rfl) (by kernel_rfl) (by kernel_rfl) (by exact fun _ _ _ h => h) (Or.inl ⟨by rfl, ?r16_hy1⟩) (by assumption) ?r16_rest1
    case r16_hy1 => intro w hSw; (try dsimp only at hSw); (go_simp <;> (with_reducible rfl))
    try simp only [Act.put, List.setIfInBounds_toArray, List.set_cons_zero, List.set_cons_succ]
    refine wpAnyH_take (i := 2) (v := ?r16_vv2) (by (simp only [List.getElem?_toArray, List.getElem?_cons_succ, List.getElem?_cons_zero]; rfl)) (by kernel_rfl) (by kernel_rfl) (by kernel_rfl) (by exact fun _ _ _ h => h) (Or.inl ⟨by rfl, ?r16_hy2⟩) (by assumption) ?r16_rest2
    case r16_hy2 => intro w hSw; (try dsimp only at hSw); (go_simp <;> (with_reducible rfl))
    try simp only [Act.put, List.setIfInBounds_toArray, List.set_cons_zero, List.set_cons_succ]
    refine wpAnyH_take (i := 3) (v := ?r16_vv3) (by (simp only [List.getElem?_toArray, List.getElem?_cons_succ, List.getElem?_cons_zero]; rfl)) (by kernel_rfl) (by kernel_rfl) (by kernel_rfl) (by exact fun _ _ _ h => h) (Or.inl ⟨by rfl, ?r16_hy3⟩) (by assumption) ?r16_rest3
    case r16_hy3 => intro w hSw; (try dsimp only at hSw); (go_simp <;> (with_reducible rfl))
    try simp only [Act.put, List.setIfInBounds_toArray, List.set_cons_zero, List.set_cons_succ]
    refine wpAnyH_take (i := 4) (v := ?r16_vv4) (by (simp only [List.getElem?_toArray, List.getElem?_cons_succ, List.getElem?_cons_zero]; rfl)) (by kernel_rfl) (by kernel_rfl) (by kernel_rfl) (by exact fun _ _ _ h => h) (Or.inl ⟨by rfl, ?r16_hy4⟩) (by assumption) ?r16_rest4
    case r16_hy4 => intro w hSw; (try dsimp only at hSw); (go_simp <;> (with_reducible rfl))
    try simp only [Act.put, List.setIfInBounds_toArray, List.set_cons_zero, List.set_cons_succ]
    refine wpAnyH_take (i := 5) (v := ?r16_vv5) (by (simp only [List.getElem?_toArray, List.getElem?_cons_succ, List.getElem?_cons_zero]; rfl)) (by kernel_rfl) (by kernel_rfl) (by kernel_rfl) (by exact fun _ _ _ h => h) (Or.inl ⟨by rfl, ?r16_hy5⟩) (by assumption) ?r16_rest5
    case r16_hy5 => intro w hSw; (try dsimp only at hSw); (go_simp <;> (with_reducible rfl))
    try simp only [Act.put, List.setIfInBounds_toArray, List.set_cons_zero, List.set_cons_succ]
    refine wpAnyH_take (i := 6) (v := ?r16_vv6) (by (simp only [List.getElem?_toArray, List.getElem?_cons_succ, List.getElem?_cons_zero]; rfl)) (by kernel_rfl) (by kernel_rfl) (by kernel_rfl) (by exact fun _ _ _ h => h) (Or.inl ⟨by rfl, ?r16_hy6⟩) (by assumption) ?r16_rest6
    case r16_hy6 => intro w hSw; (try dsimp only at hSw); (go_simp <;> (with_reducible rfl))
    try simp only [Act.put, List.setIfInBounds_toArray, List.set_cons_zero, List.set_cons_succ]
    refine wpAnyH_take (i := 7) (v := ?r16_vv7) (by (simp only [List.getElem?_toArray, List.getElem?_cons_succ, List.getElem?_cons_zero]; rfl)) (by kernel_rfl) (by kernel_rfl) (by kernel_rfl) (by exact fun _ _ _ h => h) (Or.inl ⟨by rfl, ?r16_hy7⟩) (by assumption) ?r16_rest7
    case r16_hy7 => intro w hSw; (try dsimp only at hSw); (go_simp <;> (with_reducible rfl))
    try simp only [Act.put, List.setIfInBounds_toArray, List.set_cons_zero, List.set_cons_succ]
    refine wpAnyH_ready (rs := [8]) (by kernel_rfl) (by simp) ?_
    refine AllReadyH.cons (by (simp only [List.getElem?_toArray, List.getElem?_cons_succ, List.getElem?_cons_zero]; rfl)) (fun K hK => ?_) AllReadyH.nil
    go_simp
    (go_at_call 110; with_reducible refine (qx.out _).mono ?_; rintro e w9 ⟨rfl, rfl⟩)
    try go_wp2_with fail
    refine hK.out _ _ ?r16_hS8 (fun hHeld => ?r16_r8)
    case r16_hS8 => (try dsimp only); first | assumption | exact IsS.keep hlb hlc (by assumption) ((Below.refl _ _).drew) | exact IsS.keep hlb hlc (by assumption) (by assumption)
    clear hK K
    try simp only [Act.put, List.setIfInBounds_toArray, List.set_cons_zero, List.set_cons_succ]
    refine wpAnyH_take (i := 9) (v := ?r16_vv9) (by (simp only [List.getElem?_toArray, List.getElem?_cons_succ, List.getElem?_cons_zero]; rfl)) (by kernel_rfl) (by kernel_rfl) (by kernel_rfl) (by exact fun _ _ _ h => h) (Or.inl ⟨by rfl, ?r16_hy9⟩) (by assumption) ?r16_rest9
    case r16_hy9 => intro w hSw; (try dsimp only at hSw); (go_simp <;> (with_reducible rfl))
    try simp only [Act.put, List.setIfInBounds_toArray, List.set_cons_zero, List.set_cons_succ]
    refine wpAnyH_take (i := 10) (v := undef) (by (simp only [List.getElem?_toArray, List.getElem?_cons_succ, List.getElem?_cons_zero]; rfl)) (by kernel_rfl) (by kernel_rfl) (by kernel_rfl) (by exact fun _ _ _ h => h) (Or.inr ⟨by rfl, rfl⟩) (by assumption) ?_
    try simp only [Act.put, List.setIfInBounds_toArray, List.set_cons_zero, List.set_cons_succ]
    refine wpAnyH_take (i := 11) (v := undef) (by (simp only [List.getElem?_toArray, List.getElem?_cons_succ, List.getElem?_cons_zero]; rfl)) (by kernel_rfl) (by kernel_rfl) (by kernel_rfl) (by exact fun _ _ _ h => h) (Or.inr ⟨by rfl, rfl⟩) (by assumption) ?_
    try simp only [Act.put, List.setIfInBounds_toArray, List.set_cons_zero, List.set_cons_succ]
    refine wpAnyH_take (i := 12) (v := undef) (by (simp only [List.getElem?_toArray, List.getElem?_cons_succ, List.getElem?_cons_zero]; rfl)) (by kernel_rfl) (by kernel_rfl) (by kernel_rfl) (by exact fun _ _ _ h => h) (Or.inr ⟨by rfl, rfl⟩) (by assumption) ?_
    try simp only [Act.put, List.setIfInBounds_toArray, List.set_cons_zero, List.set_cons_succ]
    refine wpAnyH_take (i := 13) (v := undef) (by (simp only [List.getElem?_toArray, List.getElem?_cons_succ, List.getElem?_cons_zero]; rfl)) (by kernel_rfl) (by kernel_rfl) (by kernel_rfl) (by exact fun _ _ _ h => h) (Or.inr ⟨by rfl, rfl⟩) (by assumption) ?_
    try simp only [Act.put, List.setIfInBounds_toArray, List.set_cons_zero, List.set_cons_succ]
    refine wpAnyH_take (i := 14) (v := undef) (by (simp only [List.getElem?_toArray, List.getElem?_cons_succ, List.getElem?_cons_zero]; rfl)) (by kernel_rfl) (by kernel_rfl) (by kernel_rfl) (by exact fun _ _ _ h => h) (Or.inr ⟨by rfl, rfl⟩) (by assumption) ?_
    try simp only [Act.put, List.setIfInBounds_toArray, List.set_cons_zero, List.set_cons_succ]
    refine wpAnyH_take (i := 15) (v := undef) (by (simp only [List.getElem?_toArray, List.getElem?_cons_succ, List.getElem?_cons_zero]; rfl)) (by kernel_rfl) (by kernel_rfl) (by kernel_rfl) (by exact fun _ _ _ h => h) (Or.inr ⟨by rfl, rfl⟩) (by assumption) ?_
    try simp only [Act.put, List.setIfInBounds_toArray, List.set_cons_zero, List.set_cons_succ]
    refine wpAnyH_take (i := 16) (v := undef) (by (simp only [List.getElem?_toArray, List.getElem?_cons_succ, List.getElem?_cons_zero]; rfl)) (by kernel_rfl) (by kernel_rfl) (by kernel_rfl) (by exact fun _ _ _ h => h) (Or.inr ⟨by rfl, rfl⟩) (by assumption) ?_
    try simp only [Act.put, List.setIfInBounds_toArray, List.set_cons_zero, List.set_cons_succ]
    refine wpAnyH_take (i := 17) (v := undef) (by (simp only [List.getElem?_toArray, List.getElem?_cons_succ, List.getElem?_cons_zero]; rfl)) (by kernel_rfl) (by kernel_rfl) (by kernel_rfl) (by exact fun _ _ _ h => h) (Or.inr ⟨by rfl, rfl⟩) (by assumption) ?_
    try simp only [Act.put, List.setIfInBounds_toArray, List.set_cons_zero, List.set_cons_succ]
    refine wpAnyH_take (i := 18) (v := undef) (by (simp only [List.getElem?_toArray, List.getElem?_cons_succ, List.getElem?_cons_zero]; rfl)) (by kernel_rfl) (by kernel_rfl) (by kernel_rfl) (by exact fun _ _ _ h => h) (Or.inr ⟨by rfl, rfl⟩) (by assumption) ?_
    try simp only [Act.put, List.setIfInBounds_toArray, List.set_cons_zero, List.set_cons_succ]
    refine wpAnyH_take (i := 19) (v := ?r16_vv19) (by (simp only [List.getElem?_toArray, List.getElem?_cons_succ, List.getElem?_cons_zero]; rfl)) (by kernel_rfl) (by kernel_rfl) (by kernel_rfl) (by exact fun _ _ _ h => h) (Or.inl ⟨by rfl, ?r16_hy19⟩) (by assumption) ?r16_rest19
    case r16_hy19 => intro w hSw; (try dsimp only at hSw); (go_simp <;> (with_reducible rfl))
    try simp only [Act.put, List.setIfInBounds_toArray, List.set_cons_zero, List.set_cons_succ]
    refine wpAnyH_take (i := 20) (v := ?r16_vv20) (by (simp only [List.getElem?_toArray, List.getElem?_cons_succ, List.getElem?_cons_zero]; rfl)) (by kernel_rfl) (by kernel_rfl) (by kernel_rfl) (by exact fun _ _ _ h => h) (Or.inl ⟨by rfl, ?r16_hy20⟩) (by assumption) ?r16_rest20
    case r16_hy20 => intro w hSw; (try dsimp only at hSw); (go_simp <;> (with_reducible rfl))
    try simp only [Act.put, List.setIfInBounds_toArray, List.set_cons_zero, List.set_cons_succ]
    refine wpAnyH_done (by kernel_rfl) ?_ _
    go_wp2_with fail
    go_ret
    exact ⟨ret_bool hR.out.symm, HB.out.trans (Below.mono (And.left (b := _) (by assumption)) HB.out.size)⟩
  · rw [hx] at hR qx
    clear hx
    generalize inB p.y 0 h = q at *
    go_enter Try.func100, Try.ntmps100
    go_wp2_with fail
    generalize W.alloc (.cells #[.int .i8 p.x, .int .i8 p.y] 36) = W2 at *
    refine wp_region_held_drew (S := (IsS W2 b o W.heap.size w h z p)) (by kernel_rfl) ?r17_hS0 (fun hHeld => ?r17_rest)
    case r17_hS0 => (try dsimp only); first | assumption | exact IsS.keep hlb hlc (by assumption) ((Below.refl _ _).drew) | exact IsS.keep hlb hlc (by assumption) (by assumption)
    refine wpAnyH_take (i := 0) (v := ?r17_vv0) (by (simp only [List.getElem?_toArray, List.getElem?_cons_succ, List.getElem?_cons_zero]; rfl)) (by kernel_rfl) (by kernel_rfl) (by kernel_rfl) (by exact fun _ _ _ h => h) (Or.inl ⟨by rfl, ?r17_hy0⟩) (by assumption) ?r17_rest0
    case r17_hy0 => intro w hSw; (try dsimp only at hSw); (go_simp <;> (with_reducible rfl))
    try simp only [Act.put, List.setIfInBounds_toArray, List.set_cons_zero, List.set_cons_succ]
    refine wpAnyH_take (i := 1) (v := ?r17_vv1) (by (simp only [List.getElem?_toArray, List.getElem?_cons_succ, List.getElem?_cons_zero]; rfl)) (by kernel_rfl) (by kernel_rfl) (by kernel_rfl) (by exact fun _ _ _ h => h) (Or.inl ⟨by rfl, ?r17_hy1⟩) (by assumption) ?r17_rest1
    case r17_hy1 => intro w hSw; (try dsimp only at hSw); (go_simp <;> (with_reducible rfl))
    try simp only [Act.put, List.setIfInBounds_toArray, List.set_cons_zero, List.set_cons_succ]
    refine wpAnyH_take (i := 2) (v := ?r17_vv2) (by (simp only [List.getElem?_toArray, List.getElem?_cons_succ, List.getElem?_cons_zero]; rfl)) (by kernel_rfl) (by kernel_rfl) (by kernel_rfl) (by exact fun _ _ _ h => h) (Or.inl ⟨by rfl, ?r17_hy2⟩) (by assumption) ?r17_rest2
    case r17_hy2 => intro w hSw; (try dsimp only at hSw); (go_simp <;> (with_reducible rfl))
    try simp only [Act.put, List.setIfInBounds_toArray, List.set_cons_zero, List.set_cons_succ]
    refine wpAnyH_take (i := 3) (v := ?r17_vv3) (by (simp only [List.getElem?_toArray, List.getElem?_cons_succ, List.getElem?_cons_zero]; rfl)) (by kernel_rfl) (by kernel_rfl) (by kernel_rfl) (by exact fun _ _ _ h => h) (Or.inl ⟨by rfl, ?r17_hy3⟩) (by assumption) ?r17_rest3
    case r17_hy3 => intro w hSw; (try dsimp only at hSw); (go_simp <;> (with_reducible rfl))
    try simp only [Act.put, List.setIfInBounds_toArray, List.set_cons_zero, List.set_cons_succ]
    refine wpAnyH_take (i := 4) (v := ?r17_vv4) (by (simp only [List.getElem?_toArray, List.getElem?_cons_succ, List.getElem?_cons_zero]; rfl)) (by kernel_rfl) (by kernel_rfl) (by kernel_rfl) (by exact fun _ _ _ h => h) (Or.inl ⟨by rfl, ?r17_hy4⟩) (by assumption) ?r17_rest4
    case r17_hy4 => intro w hSw; (try dsimp only at hSw); (go_simp <;> (with_reducible rfl))
    try simp only [Act.put, List.setIfInBounds_toArray, List.set_cons_zero, List.set_cons_succ]
    refine wpAnyH_take (i := 5) (v := ?r17_vv5) (by (simp only [List.getElem?_toArray, List.getElem?_cons_succ, List.getElem?_cons_zero]; rfl)) (by kernel_rfl) (by kernel_rfl) (by kernel_rfl) (by exact fun _ _ _ h => h) (Or.inl ⟨by rfl, ?r17_hy5⟩) (by assumption) ?r17_rest5
    case r17_hy5 => intro w hSw; (try dsimp only at hSw); (go_simp <;> (with_reducible rfl))
    try simp only [Act.put, List.setIfInBounds_toArray, List.set_cons_zero, List.set_cons_succ]
    refine wpAnyH_take (i := 6) (v := ?r17_vv6) (by (simp only [List.getElem?_toArray, List.getElem?_cons_succ, List.getElem?_cons_zero]; rfl)) (by kernel_rfl) (by kernel_rfl) (by kernel_rfl) (by exact fun _ _ _ h => h) (Or.inl ⟨by rfl, ?r17_hy6⟩) (by assumption) ?r17_rest6
    case r17_hy6 => intro w hSw; (try dsimp only at hSw); (go_simp <;> (with_reducible rfl))
    try simp only [Act.put, List.setIfInBounds_toArray, List.set_cons_zero, List.set_cons_succ]
    refine wpAnyH_take (i := 7) (v := ?r17_vv7) (by (simp only [List.getElem?_toArray, List.getElem?_cons_succ, List.getElem?_cons_zero]; rfl)) (by kernel_rfl) (by kernel_rfl) (by kernel_rfl) (by exact fun _ _ _ h => h) (Or.inl ⟨by rfl, ?r17_hy7⟩) (by assumption) ?r17_rest7
    case r17_hy7 => intro w hSw; (try dsimp only at hSw); (go_simp <;> (with_reducible rfl))
    try simp only [Act.put, List.setIfInBounds_toArray, List.set_cons_zero, List.set_cons_succ]
    refine wpAnyH_ready (rs := [8]) (by kernel_rfl) (by simp) ?_
    refine AllReadyH.cons (by (simp only [List.getElem?_toArray, List.getElem?_cons_succ, List.getElem?_cons_zero]; rfl)) (fun K hK => ?_) AllReadyH.nil
    go_simp
    (go_at_call 110; with_reducible refine (qx.out _).mono ?_; rintro e w9 ⟨rfl, rfl⟩)
    try go_wp2_with fail
    refine hK.out _ _ ?r17_hS8 (fun hHeld => ?r17_r8)
    case r17_hS8 => (try dsimp only); first | assumption | exact IsS.keep hlb hlc (by assumption) ((Below.refl _ _).drew) | exact IsS.keep hlb hlc (by assumption) (by assumption)
    clear hK K
    try simp only [Act.put, List.setIfInBounds_toArray, List.set_cons_zero, List.set_cons_succ]
    refine wpAnyH_take (i := 9) (v := ?r17_vv9) (by (simp only [List.getElem?_toArray, List.getElem?_cons_succ, List.getElem?_cons_zero]; rfl)) (by kernel_rfl) (by kernel_rfl) (by kernel_rfl) (by exact fun _ _ _ h => h) (Or.inl ⟨by rfl, ?r17_hy9⟩) (by assumption) ?r17_rest9
    case r17_hy9 => intro w hSw; (try dsimp only at hSw); (go_simp <;> (with_reducible rfl))
    try simp only [Act.put, List.setIfInBounds_toArray, List.set_cons_zero, List.set_cons_succ]
    refine wpAnyH_take (i := 10) (v := ?r17_vv10) (by (simp only [List.getElem?_toArray, List.getElem?_cons_succ, List.getElem?_cons_zero]; rfl)) (by kernel_rfl) (by kernel_rfl) (by kernel_rfl) (by exact fun _ _ _ h => h) (Or.inl ⟨by rfl, ?r17_hy10⟩) (by assumption) ?r17_rest10
    case r17_hy10 => intro w hSw; (try dsimp only at hSw); (go_simp <;> (with_reducible rfl))
    try simp only [Act.put, List.setIfInBounds_toArray, List.set_cons_zero, List.set_cons_succ]
    refine wpAnyH_take (i := 11) (v := ?r17_vv11) (by (simp only [List.getElem?_toArray, List.getElem?_cons_succ, List.getElem?_cons_zero]; rfl)) (by kernel_rfl) (by kernel_rfl) (by kernel_rfl) (by exact fun _ _ _ h => h) (Or.inl ⟨by rfl, ?r17_hy11⟩) (by assumption) ?r17_rest11
    case r17_hy11 => intro w hSw; (try dsimp only at hSw); (go_simp <;> (with_reducible rfl))
    try simp only [Act.put, List.setIfInBounds_toArray, List.set_cons_zero, List.set_cons_succ]
    refine wpAnyH_take (i := 12) (v := ?r17_vv12) (by (simp only [List.getElem?_toArray, List.getElem?_cons_succ, List.getElem?_cons_zero]; rfl)) (by kernel_rfl) (by kernel_rfl) (by kernel_rfl) (by exact fun _ _ _ h => h) (Or.inl ⟨by rfl, ?r17_hy12⟩) (by assumption) ?r17_rest12
    case r17_hy12 => intro w hSw; (try dsimp only at hSw); (go_simp <;> (with_reducible rfl))
    try simp only [Act.put, List.setIfInBounds_toArray, List.set_cons_zero, List.set_cons_succ]
    refine wpAnyH_take (i := 13) (v := ?r17_vv13) (by (simp only [List.getElem?_toArray, List.getElem?_cons_succ, List.getElem?_cons_zero]; rfl)) (by kernel_rfl) (by kernel_rfl) (by kernel_rfl) (by exact fun _ _ _ h => h) (Or.inl ⟨by rfl, ?r17_hy13⟩) (by assumption) ?r17_rest13
    case r17_hy13 => intro w hSw; (try dsimp only at hSw); (go_simp <;> (with_reducible rfl))
    try simp only [Act.put, List.setIfInBounds_toArray, List.set_cons_zero, List.set_cons_succ]
    refine wpAnyH_take (i := 14) (v := ?r17_vv14) (by (simp only [List.getElem?_toArray, List.getElem?_cons_succ, List.getElem?_cons_zero]; rfl)) (by kernel_rfl) (by kernel_rfl) (by kernel_rfl) (by exact fun _ _ _ h => h) (Or.inl ⟨by rfl, ?r17_hy14⟩) (by assumption) ?r17_rest14
    case r17_hy14 => intro w hSw; (try dsimp only at hSw); (go_simp <;> (with_reducible rfl))
    try simp only [Act.put, List.setIfInBounds_toArray, List.set_cons_zero, List.set_cons_succ]
    refine wpAnyH_take (i := 15) (v := ?r17_vv15) (by (simp only [List.getElem?_toArray, List.getElem?_cons_succ, List.getElem?_cons_zero]; rfl)) (by kernel_rfl) (by kernel_rfl) (by kernel_rfl) (by exact fun _ _ _ h => h) (Or.inl ⟨by rfl, ?r17_hy15⟩) (by assumption) ?r17_rest15
    case r17_hy15 => intro w hSw; (try dsimp only at hSw); (go_simp <;> (with_reducible rfl))
    try simp only [Act.put, List.setIfInBounds_toArray, List.set_cons_zero, List.set_cons_succ]
    refine wpAnyH_take (i := 16) (v := ?r17_vv16) (by (simp only [List.getElem?_toArray, List.getElem?_cons_succ, List.getElem?_cons_zero]; rfl)) (by kernel_rfl) (by kernel_rfl) (by kernel_rfl) (by exact fun _ _ _ h => h) (Or.inl ⟨by rfl, ?r17_hy16⟩) (by assumption) ?r17_rest16
    case r17_hy16 => intro w hSw; (try dsimp only at hSw); (go_simp <;> (with_reducible rfl))
    try simp only [Act.put, List.setIfInBounds_toArray, List.set_cons_zero, List.set_cons_succ]
    refine wpAnyH_take (i := 17) (v := ?r17_vv17) (by (simp only [List.getElem?_toArray, List.getElem?_cons_succ, List.getElem?_cons_zero]; rfl)) (by kernel_rfl) (by kernel_rfl) (by kernel_rfl) (by exact fun _ _ _ h => h) (Or.inl ⟨by rfl, ?r17_hy17⟩) (by assumption) ?r17_rest17
    case r17_hy17 => intro w hSw; (try dsimp only at hSw); (go_simp <;> (with_reducible rfl))
    try simp only [Act.put, List.setIfInBounds_toArray, List.set_cons_zero, List.set_cons_succ]
    refine wpAnyH_ready (rs := [18]) (by kernel_rfl) (by simp) ?_
    refine AllReadyH.cons (by (simp only [List.getElem?_toArray, List.getElem?_cons_succ, List.getElem?_cons_zero]; rfl)) (fun K hK => ?_) AllReadyH.nil
    go_simp
    (go_at_call 110; with_reducible refine (qy.out _).mono ?_; rintro e w10 ⟨rfl, rfl⟩)
    try go_wp2_with fail
    refine hK.out _ _ ?r17_hS18 (fun hHeld => ?r17_r18)
    case r17_hS18 => (try dsimp only); first | assumption | exact IsS.keep hlb hlc (by assumption) ((Below.refl _ _).drew) | exact IsS.keep hlb hlc (by assumption) (by assumption)
    clear hK K
    try simp only [Act.put, List.setIfInBounds_toArray, List.set_cons_zero, List.set_cons_succ]
    refine wpAnyH_take (i := 19) (v := ?r17_vv19) (by (simp only [List.getElem?_toArray, List.getElem?_cons_succ, List.getElem?_cons_zero]; rfl)) (by kernel_rfl) (by kernel_rfl) (by kernel_rfl) (by exact fun _ _ _ h => h) (Or.inl ⟨by rfl, ?r17_hy19⟩) (by assumption) ?r17_rest19
    case r17_hy19 => intro w hSw; (try dsimp only at hSw); (go_simp <;> (with_reducible rfl))
    try simp only [Act.put, List.setIfInBounds_toArray, List.set_cons_zero, List.set_cons_succ]
    refine wpAnyH_take (i := 20) (v := ?r17_vv20) (by (simp only [List.getElem?_toArray, List.getElem?_cons_succ, List.getElem?_cons_zero]; rfl)) (by kernel_rfl) (by kernel_rfl) (by kernel_rfl) (by exact fun _ _ _ h => h) (Or.inl ⟨by rfl, ?r17_hy20⟩) (by assumption) ?r17_rest20
    case r17_hy20 => intro w hSw; (try dsimp only at hSw); (go_simp <;> (with_reducible rfl))
    try simp only [Act.put, List.setIfInBounds_toArray, List.set_cons_zero, List.set_cons_succ]
    refine wpAnyH_done (by kernel_rfl) ?_ _
    go_wp2_with fail
    go_ret
    exact ⟨ret_bool (by rw [hR.out]; simp), HB.out.trans (Below.mono (And.left (b := _) (by assumption)) HB.out.size)⟩
theorem less_calls (x : Int) (a : Bool) (hx : -100 ≤ x ∧ x ≤ 100) (w : World) : Calls Try.prog 166 #[.int .i8 x, .bool a] w fun e w' => e = .returned (.int .i8 (if a = true then x else x - 1)) ∧ w = w' := by
  have hw : IntKind.i8.wrap (x - 1) = x - 1 := wrap8In' _ (by omega) (by omega)
  cases a
  all_goals
    go_enter Try.func166, Try.ntmps166
    go_wp2_with fail
    go_ret
    exact ⟨rfl, rfl⟩
/-- The joint at a side of a cell, as the reference reads it off its grid. -/
theorem grid_get (sl : List Slab) (x y : Nat) (hx : x < 12) (hy : y < 12) : (gridL sl)[y * 12 + x]? = some (atI sl (x : Int) (y : Int) + 1) := gridL_get sl x y hx hy
theorem jointB_grid (sl : List Slab) (x y u v : Int) : jointB sl x y u v = (decide (atI sl x y + 1 ≠ 0) && decide (atI sl u v + 1 ≠ 0) && decide (atI sl x y + 1 ≠ atI sl u v + 1)) := by
  have h1 := atI_bounds sl x y
  have h2 := atI_bounds sl u v
  unfold jointB
  rw [Bool.eq_iff_iff]
  simp only [Bool.and_eq_true, decide_eq_true_eq]
  omega
set_option maxHeartbeats 4000000 in
theorem sJoint_calls (sl : List Slab) (g : Nat) (W : World) (w h : Int) (hw : w ≤ 12 ∧ h ≤ 12) (hl : ∀ t ∈ sl, liesB w h t = true) (hg : Bk W g 70 (gcells (gridL sl))) (x y : Int) (hx : -1 ≤ x ∧ x ≤ 12) (hy : -1 ≤ y ∧ y ≤ 12) (a : Bool) :
    Calls Try.prog 101 #[.pointer (some ⟨g, 0, none⟩), .int .i8 x, .int .i8 y, .bool a] W fun e w' => e = .returned (.bool (jointB sl x y (if a = true then x else x - 1) (if a = true then y - 1 else y))) ∧ Below W.heap.size W w' := by
  by_cases ho : x < 0 ∨ y < 0 ∨ 12 ≤ x ∨ 12 ≤ y ∨ (a = true ∧ y = 0) ∨ (a = false ∧ x = 0)
  · have hR := Lib.hid (show jointB sl x y (if a = true then x else x - 1) (if a = true then y - 1 else y) = false from by
      by_cases h1 : x < 0 ∨ y < 0 ∨ 12 ≤ x ∨ 12 ≤ y
      · exact jointB_out1 hl _ _ (by omega)
      · cases a
        · have e : x = 0 := by rcases ho with h | h | h | h | ⟨h, _⟩ | ⟨_, h⟩ <;> first | omega | cases h
          exact jointB_out2 hl _ _ (by simp; omega)
        · have e : y = 0 := by rcases ho with h | h | h | h | ⟨_, h⟩ | ⟨h, _⟩ <;> first | omega | cases h
          exact jointB_out2 hl _ _ (by simp; omega))
    generalize jointB sl x y (if a = true then x else x - 1) (if a = true then y - 1 else y) = R at *
    by_cases e1 : x < 0
    · have d1 : decide (x < 0) = true := decide_eq_true e1
      clear ho e1
      go_enter Try.func101, Try.ntmps101
      go_wp2_with fail
      go_ret
      exact ⟨ret_bool hR.out.symm, Below.refl _ _⟩
    have d1 : decide (x < 0) = false := decide_eq_false e1
    by_cases e2 : y < 0
    · have d2 : decide (y < 0) = true := decide_eq_true e2
      clear ho e1 e2
      go_enter Try.func101, Try.ntmps101
      go_wp2_with fail
      go_ret
      exact ⟨ret_bool hR.out.symm, Below.refl _ _⟩
    have d2 : decide (y < 0) = false := decide_eq_false e2
    by_cases e3 : 12 ≤ x
    · have d3 : decide (12 ≤ x) = true := decide_eq_true e3
      clear ho e1 e2 e3
      go_enter Try.func101, Try.ntmps101
      go_wp2_with fail
      go_ret
      exact ⟨ret_bool hR.out.symm, Below.refl _ _⟩
    have d3 : decide (12 ≤ x) = false := decide_eq_false e3
    by_cases e4 : 12 ≤ y
    · have d4 : decide (12 ≤ y) = true := decide_eq_true e4
      clear ho e1 e2 e3 e4
      go_enter Try.func101, Try.ntmps101
      go_wp2_with fail
      go_ret
      exact ⟨ret_bool hR.out.symm, Below.refl _ _⟩
    have d4 : decide (12 ≤ y) = false := decide_eq_false e4
    cases a
    · have e5 : x = 0 := by
        rcases ho with h | h | h | h | ⟨h, _⟩ | ⟨_, h⟩
        · omega
        · omega
        · omega
        · omega
        · cases h
        · exact h
      clear ho e1 e2 e3 e4
      subst e5
      go_enter Try.func101, Try.ntmps101
      go_wp2_with fail
      go_ret
      exact ⟨ret_bool hR.out.symm, Below.refl _ _⟩
    · have e5 : y = 0 := by
        rcases ho with h | h | h | h | ⟨_, h⟩ | ⟨h, _⟩
        · omega
        · omega
        · omega
        · omega
        · exact h
        · cases h
      clear ho e1 e2 e3 e4
      subst e5
      go_enter Try.func101, Try.ntmps101
      go_wp2_with fail
      go_ret
      exact ⟨ret_bool hR.out.symm, Below.refl _ _⟩
  obtain ⟨xn, rfl⟩ : ∃ xn : Nat, x = (xn : Int) := ⟨x.toNat, (Int.toNat_of_nonneg (by omega)).symm⟩
  obtain ⟨yn, rfl⟩ : ∃ yn : Nat, y = (yn : Int) := ⟨y.toNat, (Int.toNat_of_nonneg (by omega)).symm⟩
  have d1 : decide ((xn : Int) < 0) = false := by rw [decide_eq_false_iff_not]; omega
  have d2 : decide ((yn : Int) < 0) = false := by rw [decide_eq_false_iff_not]; omega
  have d3 : decide (12 ≤ (xn : Int)) = false := by rw [decide_eq_false_iff_not]; omega
  have d4 : decide (12 ≤ (yn : Int)) = false := by rw [decide_eq_false_iff_not]; omega
  have n0 : (0 : Int) ≤ (xn : Int) := by omega
  have n1 : (xn : Int) < 12 := by omega
  have n2 : (0 : Int) ≤ (yn : Int) := by omega
  have n3 : (yn : Int) < 12 := by omega
  have c0 := hg.cell (yn * 12 + xn) _ (gcells_get _ _ _ (grid_get sl xn yn (by omega) (by omega)))
  have hlt := hg.lt
  have HG := Lib.hid hg
  cases a
  · have hx0 : ¬ xn = 0 := by intro h; exact ho (by subst h; simp)
    obtain ⟨m, hm⟩ : ∃ m : Nat, (m : Int) = (xn : Int) - 1 := ⟨xn - 1, by omega⟩
    have ho1 : ((xn : Int) == 0) = false := by rw [beq_eq_false_iff_ne]; omega
    have hR := Lib.hid (show jointB sl (xn : Int) (yn : Int) (if false = true then (xn : Int) else (xn : Int) - 1) (if false = true then (yn : Int) - 1 else (yn : Int)) = jointB sl (xn : Int) (yn : Int) (m : Int) (yn : Int) from by simp [hm])
    have hR2 := Lib.hid (hR.out.trans (jointB_grid sl _ _ _ _))
    have c1 := hg.cell (yn * 12 + m) _ (gcells_get _ _ _ (grid_get sl m yn (by omega) (by omega)))
    have ql := Lib.hid (show ∀ W, Calls Try.prog 166 #[.int .i8 (xn : Int), .bool false] W (fun e w' => e = .returned (.int .i8 (m : Int)) ∧ W = w') from fun W => (less_calls (xn : Int) false (by omega) W).mono (fun e w' ⟨he, hw'⟩ => ⟨by rw [he, hm]; simp, hw'⟩))
    have m0 : (0 : Int) ≤ (m : Int) := by omega
    have m1 : (m : Int) < 12 := by omega
    generalize jointB sl (xn : Int) (yn : Int) (if false = true then (xn : Int) else (xn : Int) - 1) (if false = true then (yn : Int) - 1 else (yn : Int)) = R at *
    generalize atI sl (xn : Int) (yn : Int) + 1 = A at *
    generalize atI sl (m : Int) (yn : Int) + 1 = B at *
    clear hg ho hm hx0 hx hy
    go_enter Try.func101, Try.ntmps101
    go_wp2_with fail
    go_quiet (first | (go_at_call 166; with_reducible exact quiet_same (n := 0) (ql.out _)) | (go_at_call 166; with_reducible exact quiet_same (ql.out _)))
    go_wp2
    all_goals (go_ret; refine ⟨ret_bool ?_, ext_drewN (Below.refl _ _) _⟩; rw [hR2.out]; clear hR hR2 ql HG; simp_all; try (first | done | rfl | (by_cases hAB : A = B <;> simp_all [bne])))
  · have hy0 : ¬ yn = 0 := by intro h; exact ho (by subst h; simp)
    obtain ⟨m, hm⟩ : ∃ m : Nat, (m : Int) = (yn : Int) - 1 := ⟨yn - 1, by omega⟩
    have ho1 : ((yn : Int) == 0) = false := by rw [beq_eq_false_iff_ne]; omega
    have hR := Lib.hid (show jointB sl (xn : Int) (yn : Int) (if true = true then (xn : Int) else (xn : Int) - 1) (if true = true then (yn : Int) - 1 else (yn : Int)) = jointB sl (xn : Int) (yn : Int) (xn : Int) (m : Int) from by simp [hm])
    have hR2 := Lib.hid (hR.out.trans (jointB_grid sl _ _ _ _))
    have c1 := hg.cell (m * 12 + xn) _ (gcells_get _ _ _ (grid_get sl xn m (by omega) (by omega)))
    have ql := Lib.hid (show ∀ W, Calls Try.prog 166 #[.int .i8 (xn : Int), .bool true] W (fun e w' => e = .returned (.int .i8 (xn : Int)) ∧ W = w') from fun W => (less_calls (xn : Int) true (by omega) W).mono (fun e w' ⟨he, hw'⟩ => ⟨by rw [he]; simp, hw'⟩))
    have hwy : IntKind.i8.wrap ((yn : Int) - 1) = (m : Int) := by rw [hm]; exact wrap8In' _ (by omega) (by omega)
    have m0 : (0 : Int) ≤ (m : Int) := by omega
    have m1 : (m : Int) < 12 := by omega
    generalize jointB sl (xn : Int) (yn : Int) (if true = true then (xn : Int) else (xn : Int) - 1) (if true = true then (yn : Int) - 1 else (yn : Int)) = R at *
    generalize atI sl (xn : Int) (yn : Int) + 1 = A at *
    generalize atI sl (xn : Int) (m : Int) + 1 = B at *
    clear hg ho hm hy0 hx hy
    go_enter Try.func101, Try.ntmps101
    go_wp2_with fail
    go_quiet (first | (go_at_call 166; with_reducible exact quiet_same (n := 0) (ql.out _)) | (go_at_call 166; with_reducible exact quiet_same (ql.out _)))
    go_wp2
    all_goals (go_ret; refine ⟨ret_bool ?_, ext_drewN (Below.refl _ _) _⟩; rw [hR2.out]; clear hR hR2 ql HG; simp_all; try (first | done | rfl | (by_cases hAB : A = B <;> simp_all [bne])))
set_option maxHeartbeats 1000000 in
theorem sEdge_calls (sl : List Slab) (g : Nat) (W : World) (w h : Int) (hw : w ≤ 12 ∧ h ≤ 12) (hl : ∀ t ∈ sl, liesB w h t = true) (hg : Bk W g 70 (gcells (gridL sl))) (p : Cell) (hx : 0 ≤ p.x ∧ p.x ≤ 12) (hy : 0 ≤ p.y ∧ p.y ≤ 12) (way : Int) :
    Calls Try.prog 47 #[.pointer (some ⟨g, 0, none⟩), p.v, .int .i64 way] W fun e w' => e = .returned (.bool (edgeOf sl p.x p.y way)) ∧ Below W.heap.size W w' := by
  have hB := Lib.hid ((Below.refl W.heap.size W).alloc (Nat.le_refl _) (.cells #[.int .i8 p.x, .int .i8 p.y] 36))
  have HG := Lib.hid (hg.alloc (.cells #[.int .i8 p.x, .int .i8 p.y] 36))
  have hR := Lib.hid (show edgeOf sl p.x p.y way = if way = 0 then jointB sl p.x (p.y - 1) (p.x - 1) (p.y - 1) else if way = 1 then jointB sl p.x p.y p.x (p.y - 1) else if way = 2 then jointB sl p.x p.y (p.x - 1) p.y else jointB sl (p.x - 1) p.y (p.x - 1) (p.y - 1) from rfl)
  have a1 : IntKind.i8.wrap (p.y - 1) = p.y - 1 := wrap8In' _ (by omega) (by omega)
  have a2 : IntKind.i8.wrap (p.x - 1) = p.x - 1 := wrap8In' _ (by omega) (by omega)
  have q0 := Lib.hid (sJoint_calls sl g _ w h hw hl HG.out p.x (p.y - 1) (by omega) (by omega) false)
  have q1 := Lib.hid (sJoint_calls sl g _ w h hw hl HG.out p.x p.y (by omega) (by omega) true)
  have q2 := Lib.hid (sJoint_calls sl g _ w h hw hl HG.out p.x p.y (by omega) (by omega) false)
  have q3 := Lib.hid (sJoint_calls sl g _ w h hw hl HG.out (p.x - 1) p.y (by omega) (by omega) true)
  clear hg
  generalize edgeOf sl p.x p.y way = R at *
  unfold Cell.v
  by_cases e0 : way = 0
  · have hE := Lib.hid (hR.out.trans (if_pos e0))
    subst e0
    clear hR
    go_enter Try.func47, Try.ntmps47
    go_wp2_with fail
    refine q0.out.mono ?_
    rintro e w1 ⟨rfl, hb1⟩
    go_wp2_with fail
    go_ret
    exact ⟨ret_bool (by rw [hE.out] <;> simp), ext_trans hB.out hb1⟩
  have d0 : (way == 0) = false := by simpa using e0
  have hR := Lib.hid (hR.out.trans (if_neg e0))
  by_cases e1 : way = 1
  · have hE := Lib.hid (hR.out.trans (if_pos e1))
    subst e1
    clear hR
    go_enter Try.func47, Try.ntmps47
    go_wp2_with fail
    refine q1.out.mono ?_
    rintro e w1 ⟨rfl, hb1⟩
    go_wp2_with fail
    go_ret
    exact ⟨ret_bool (by rw [hE.out] <;> simp), ext_trans hB.out hb1⟩
  have d1 : (way == 1) = false := by simpa using e1
  have hR := Lib.hid (hR.out.trans (if_neg e1))
  by_cases e2 : way = 2
  · have hE := Lib.hid (hR.out.trans (if_pos e2))
    subst e2
    clear hR
    go_enter Try.func47, Try.ntmps47
    go_wp2_with fail
    refine q2.out.mono ?_
    rintro e w1 ⟨rfl, hb1⟩
    go_wp2_with fail
    go_ret
    exact ⟨ret_bool (by rw [hE.out] <;> simp), ext_trans hB.out hb1⟩
  have d2 : (way == 2) = false := by simpa using e2
  have hE := Lib.hid (hR.out.trans (if_neg e2))
  clear hR e0 e1 e2
  go_enter Try.func47, Try.ntmps47
  go_wp2_with fail
  refine q3.out.mono ?_
  rintro e w1 ⟨rfl, hb1⟩
  go_wp2_with fail
  go_ret
  exact ⟨ret_bool (by rw [hE.out] <;> simp), ext_trans hB.out hb1⟩
end Go.Proofs.Yteflpdfajfljfaa
