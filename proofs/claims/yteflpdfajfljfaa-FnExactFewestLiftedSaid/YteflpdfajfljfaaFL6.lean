/-
Cells beside a cell, codes of cells: of the reference. Conditions: numbers are of their kinds; slices can be read.
-/
import Derived.Test.YteflpdfajfljfaaFL4
import Derived.Test.YteflpdfajfljfaaSQ12
set_option linter.unusedVariables false
set_option linter.unusedSimpArgs false
set_option maxRecDepth 100000
namespace Go.Proofs.Yteflpdfajfljfaa
open Go.RowKit
theorem sokF_calls (b o : Nat) (w h : Int) (z : Value) (sl : List Slab) (W : World) (hq : SqIn W w h z sl) (ha : Sq.at_ W b o w h z) :
    Calls Try.prog 94 #[.pointer (some ⟨b, o, none⟩)] W fun e w' => e = .returned (.bool (sqOk w h sl)) ∧ Below W.heap.size W w' := by
  have ql := Lib.hid (lay_calls b o w h hq.w0 hq.w1 hq.h0 hq.h1 sl hq.ok z W hq.sl ha)
  clear hq ha
  generalize sqOk w h sl = E at *
  go_enter Try.func94, Try.ntmps94
  go_wp2_with fail
  refine ql.out.mono ?_
  rintro e wa ⟨g, rfl, hgl, hgr, hb1⟩
  have HB5 := Lib.hid (hb1.alloc hb1.size (.cells Try.zeroCells70 70))
  have K5 := Lib.hid (Bk.new wa 70 Try.zeroCells70 wa.heap.size rfl)
  have hs5 := Lib.hid (show W.heap.size ≤ wa.heap.size from hb1.size)
  have hglH := Lib.hid hgl
  clear hb1 hgl hgr
  go_wp2_with (refine wpList_store_bk rfl 70 (.tmp 3) (.tmp 8) rfl _ (gcells g) rfl rfl _ _ K5.out (by rw [zsize, gcells_size, hglH.out]) (ginfo _ hglH.out) (gcells_one _) ?_)
  intro w6 k6 G6
  have HB6 := Lib.hid (HB5.out.grown G6 HB5.out.size (fun j hj => by injection hj with hj; have := hs5.out; omega))
  clear k6 G6
  go_wp2_with fail
  go_ret
  exact ⟨rfl, HB6.out⟩
set_option maxHeartbeats 1000000 in
theorem hasF_calls (xs : List Int) (v : Value) (x : Int) (W : World) (hs : Sl W W.heap.size i64c 1 v xs) :
    Calls Try.prog 82 #[v, .int .i64 x] W fun e w' => e = .returned (.bool (decide (x ∈ xs))) ∧ W = w' := by
  obtain ⟨A, cap, rfl, hl, hm, hcell⟩ := hs.i64
  clear hs
  go_enter Try.func82, Try.ntmps82
  go_wp2_with fail
  go_loop [5] (fun c => ∃ k : Nat, k ≤ xs.length ∧ c = .int .i64 (k : Int) ∧ (xs.take k).all (fun n => !(n == x)) = true) (fun c => xs.length - (intOf c).toNat)
  case atStart => exact ⟨0, by omega, rfl, rfl⟩
  case round =>
    obtain ⟨k, hk, rfl, hall⟩ := hrel
    have HA := Lib.hid hall
    clear hall
    by_cases hlt : k < xs.length
    · obtain ⟨b1, o1, rfl, hbb, c0⟩ := hcell k hlt
      clear hcell
      by_cases he : xs[k] = x
      · have hE := Lib.hid (show decide (x ∈ xs) = true from by rw [decide_eq_true_eq, ← he]; exact List.getElem_mem hlt)
        have hq : (xs[k] == x) = true := by simp [he]
        have he := Lib.hid he
        go_wp2_with fail
        go_ret
        exact ⟨ret_bool hE.out.symm, rfl⟩
      · have hE := Lib.hid (take_all_succ _ xs k hlt HA.out (by simp [he]))
        have hq : (xs[k] == x) = false := by simp [he]
        have he := Lib.hid he
        go_wp2_with fail
        go_round
        case rel => exact ⟨k + 1, by omega, by go_num, hE.out⟩
        case measure => first | (simp [intOf]; done) | (simp [intOf]; omega)
    · have hE := Lib.hid (show decide (x ∈ xs) = false from by
        have h1 := all_of_take _ xs k (by omega) HA.out
        rw [decide_eq_false_iff_not]
        intro hm
        have := List.all_eq_true.1 h1 x hm
        simp at this)
      go_wp2_with fail
      go_ret
      exact ⟨ret_bool hE.out.symm, rfl⟩
abbrev ItS (W0 : World) (b o c : Nat) (w h : Int) (z : Value) (p : Cell) (w' : World) : Prop :=
  Below W0.heap.size W0 w' ∧ w'.cell? ⟨b, o, none⟩ = some (.int .i8 w) ∧ w'.cell? ⟨b, o + 1, none⟩ = some (.int .i8 h) ∧ w'.cell? ⟨b, o + 2, none⟩ = some z ∧ w'.cell? ⟨c, 0, none⟩ = some (.int .i8 p.x) ∧ w'.cell? ⟨c, 1, none⟩ = some (.int .i8 p.y)
theorem ItS.keep {W0 w1 w2 : World} {b o c : Nat} {w h : Int} {z : Value} {p : Cell} (hb : b < W0.heap.size) (hc : c < W0.heap.size) (hS : ItS W0 b o c w h z p w1) (k : Below w1.heap.size w1 w2) : ItS W0 b o c w h z p w2 := by
  obtain ⟨h0, h1, h2, h3, h4, h5⟩ := hS
  have q : ∀ o, w2.cell? ⟨b, o, none⟩ = w1.cell? ⟨b, o, none⟩ := fun o => k.cell (p := ⟨b, o, none⟩) (Nat.lt_of_lt_of_le hb h0.size)
  have r : ∀ o, w2.cell? ⟨c, o, none⟩ = w1.cell? ⟨c, o, none⟩ := fun o => k.cell (p := ⟨c, o, none⟩) (Nat.lt_of_lt_of_le hc h0.size)
  exact ⟨ext_trans h0 k, (q _).trans h1, (q _).trans h2, (q _).trans h3, (r _).trans h4, (r _).trans h5⟩
set_option maxHeartbeats 2000000 in
theorem sIsC_calls (b o : Nat) (w h : Int) (w0 : -128 ≤ w) (w1 : w ≤ 127) (h0 : -128 ≤ h) (h1 : h ≤ 127) (z : Value) (p : Cell) (hp : p.ok) (W : World) (hq : Sq.at_ W b o w h z) :
    Calls Try.prog 95 #[.pointer (some ⟨b, o, none⟩), p.v] W fun e w' => e = .returned (.bool (gpB w h p)) ∧ Below W.heap.size W w' := by
  have hB := (Below.refl W.heap.size W).alloc (Nat.le_refl _) (.cells #[.int .i8 p.x, .int .i8 p.y] 36)
  obtain ⟨c0, c1, c2, hl⟩ := hq.ext hB
  have HB := Lib.hid hB
  have hlc : W.heap.size < (W.alloc (.cells #[.int .i8 p.x, .int .i8 p.y] 36)).heap.size := by simp
  have hlb : b < (W.alloc (.cells #[.int .i8 p.x, .int .i8 p.y] 36)).heap.size := hl
  have hS : ItS (W.alloc (.cells #[.int .i8 p.x, .int .i8 p.y] 36)) b o W.heap.size w h z p (W.alloc (.cells #[.int .i8 p.x, .int .i8 p.y] 36)) := ⟨Below.refl _ _, c0, c1, c2, by simp, by simp⟩
  obtain ⟨x0, x1, y0, y1⟩ := hp
  have v0 : IntKind.i64.wrap p.x = p.x := wrapIn _ (by omega) (by omega)
  have v1 : IntKind.i64.wrap p.y = p.y := wrapIn _ (by omega) (by omega)
  have v2 : IntKind.i64.wrap w = w := wrapIn _ (by omega) (by omega)
  have v3 : IntKind.i64.wrap h = h := wrapIn _ (by omega) (by omega)
  have v4 : IntKind.i64.wrap (w - 1) = w - 1 := wrapIn _ (by omega) (by omega)
  have v5 : IntKind.i64.wrap (h - 1) = h - 1 := wrapIn _ (by omega) (by omega)
  have qx := Lib.hid (fun W => in_calls p.x 0 (w - 1) W)
  have qy := Lib.hid (fun W => in_calls p.y 0 (h - 1) W)
  have hR := Lib.hid (gp_in w h p)
  clear hB c0 c1 c2 hl hq
  unfold Cell.v
  cases hx : inB p.x 0 (w - 1)
  · rw [hx] at hR qx
    clear hx
    go_enter Try.func95, Try.ntmps95
    go_wp2_with fail
    generalize W.alloc (.cells #[.int .i8 p.x, .int .i8 p.y] 36) = W2 at *
    refine wp_region_held_drew (S := (ItS W2 b o W.heap.size w h z p)) (by kernel_rfl) ?r1_hS0 (fun hHeld => ?r1_rest)
    case r1_hS0 => (try dsimp only); first | assumption | exact ItS.keep hlb hlc (by assumption) ((Below.refl _ _).drew) | exact ItS.keep hlb hlc (by assumption) (by assumption)
    refine wpAnyH_take (i := 0) (v := ?r1_vv0) (by (simp only [List.getElem?_toArray, List.getElem?_cons_succ, List.getElem?_cons_zero]; rfl)) (by kernel_rfl) (by kernel_rfl) (by kernel_rfl) (by exact fun _ _ _ h => h) (Or.inl ⟨by rfl, ?r1_hy0⟩) (by assumption) ?r1_rest0
    case r1_hy0 => intro w hSw; (try dsimp only at hSw); (go_simp <;> (with_reducible rfl))
    try simp only [Act.put, List.setIfInBounds_toArray, List.set_cons_zero, List.set_cons_succ]
    refine wpAnyH_take (i := 1) (v := ?r1_vv1) (by (simp only [List.getElem?_toArray, List.getElem?_cons_succ, List.getElem?_cons_zero]; rfl)) (by kernel_rfl) (by kernel_rfl) (by kernel_rfl) (by exact fun _ _ _ h => h) (Or.inl ⟨by rfl, ?r1_hy1⟩) (by assumption) ?r1_rest1
    case r1_hy1 => intro w hSw; (try dsimp only at hSw); (go_simp <;> (with_reducible rfl))
    try simp only [Act.put, List.setIfInBounds_toArray, List.set_cons_zero, List.set_cons_succ]
    refine wpAnyH_take (i := 2) (v := ?r1_vv2) (by (simp only [List.getElem?_toArray, List.getElem?_cons_succ, List.getElem?_cons_zero]; rfl)) (by kernel_rfl) (by kernel_rfl) (by kernel_rfl) (by exact fun _ _ _ h => h) (Or.inl ⟨by rfl, ?r1_hy2⟩) (by assumption) ?r1_rest2
    case r1_hy2 => intro w hSw; (try dsimp only at hSw); (go_simp <;> (with_reducible rfl))
    try simp only [Act.put, List.setIfInBounds_toArray, List.set_cons_zero, List.set_cons_succ]
    refine wpAnyH_take (i := 3) (v := ?r1_vv3) (by (simp only [List.getElem?_toArray, List.getElem?_cons_succ, List.getElem?_cons_zero]; rfl)) (by kernel_rfl) (by kernel_rfl) (by kernel_rfl) (by exact fun _ _ _ h => h) (Or.inl ⟨by rfl, ?r1_hy3⟩) (by assumption) ?r1_rest3
    case r1_hy3 => intro w hSw; (try dsimp only at hSw); (go_simp <;> (with_reducible rfl))
    try simp only [Act.put, List.setIfInBounds_toArray, List.set_cons_zero, List.set_cons_succ]
    refine wpAnyH_take (i := 4) (v := ?r1_vv4) (by (simp only [List.getElem?_toArray, List.getElem?_cons_succ, List.getElem?_cons_zero]; rfl)) (by kernel_rfl) (by kernel_rfl) (by kernel_rfl) (by exact fun _ _ _ h => h) (Or.inl ⟨by rfl, ?r1_hy4⟩) (by assumption) ?r1_rest4
    case r1_hy4 => intro w hSw; (try dsimp only at hSw); (go_simp <;> (with_reducible rfl))
    try simp only [Act.put, List.setIfInBounds_toArray, List.set_cons_zero, List.set_cons_succ]
    refine wpAnyH_take (i := 5) (v := ?r1_vv5) (by (simp only [List.getElem?_toArray, List.getElem?_cons_succ, List.getElem?_cons_zero]; rfl)) (by kernel_rfl) (by kernel_rfl) (by kernel_rfl) (by exact fun _ _ _ h => h) (Or.inl ⟨by rfl, ?r1_hy5⟩) (by assumption) ?r1_rest5
    case r1_hy5 => intro w hSw; (try dsimp only at hSw); (go_simp <;> (with_reducible rfl))
    try simp only [Act.put, List.setIfInBounds_toArray, List.set_cons_zero, List.set_cons_succ]
    refine wpAnyH_take (i := 6) (v := ?r1_vv6) (by (simp only [List.getElem?_toArray, List.getElem?_cons_succ, List.getElem?_cons_zero]; rfl)) (by kernel_rfl) (by kernel_rfl) (by kernel_rfl) (by exact fun _ _ _ h => h) (Or.inl ⟨by rfl, ?r1_hy6⟩) (by assumption) ?r1_rest6
    case r1_hy6 => intro w hSw; (try dsimp only at hSw); (go_simp <;> (with_reducible rfl))
    try simp only [Act.put, List.setIfInBounds_toArray, List.set_cons_zero, List.set_cons_succ]
    refine wpAnyH_take (i := 7) (v := ?r1_vv7) (by (simp only [List.getElem?_toArray, List.getElem?_cons_succ, List.getElem?_cons_zero]; rfl)) (by kernel_rfl) (by kernel_rfl) (by kernel_rfl) (by exact fun _ _ _ h => h) (Or.inl ⟨by rfl, ?r1_hy7⟩) (by assumption) ?r1_rest7
    case r1_hy7 => intro w hSw; (try dsimp only at hSw); (go_simp <;> (with_reducible rfl))
    try simp only [Act.put, List.setIfInBounds_toArray, List.set_cons_zero, List.set_cons_succ]
    refine wpAnyH_take (i := 8) (v := ?r1_vv8) (by (simp only [List.getElem?_toArray, List.getElem?_cons_succ, List.getElem?_cons_zero]; rfl)) (by kernel_rfl) (by kernel_rfl) (by kernel_rfl) (by exact fun _ _ _ h => h) (Or.inl ⟨by rfl, ?r1_hy8⟩) (by assumption) ?r1_rest8
    case r1_hy8 => intro w hSw; (try dsimp only at hSw); (go_simp <;> (with_reducible rfl))
    try simp only [Act.put, List.setIfInBounds_toArray, List.set_cons_zero, List.set_cons_succ]
    refine wpAnyH_ready (rs := [9]) (by kernel_rfl) (by simp) ?_
    refine AllReadyH.cons (by (simp only [List.getElem?_toArray, List.getElem?_cons_succ, List.getElem?_cons_zero]; rfl)) (fun K hK => ?_) AllReadyH.nil
    go_simp
    (go_at_call 110; with_reducible refine (qx.out _).mono ?_; rintro e w9 ⟨rfl, rfl⟩)
    try go_wp2_with fail
    refine hK.out _ _ ?r1_hS9 (fun hHeld => ?r1_r9)
    case r1_hS9 => (try dsimp only); first | assumption | exact ItS.keep hlb hlc (by assumption) ((Below.refl _ _).drew) | exact ItS.keep hlb hlc (by assumption) (by assumption)
    clear hK K
    try simp only [Act.put, List.setIfInBounds_toArray, List.set_cons_zero, List.set_cons_succ]
    refine wpAnyH_take (i := 10) (v := ?r1_vv10) (by (simp only [List.getElem?_toArray, List.getElem?_cons_succ, List.getElem?_cons_zero]; rfl)) (by kernel_rfl) (by kernel_rfl) (by kernel_rfl) (by exact fun _ _ _ h => h) (Or.inl ⟨by rfl, ?r1_hy10⟩) (by assumption) ?r1_rest10
    case r1_hy10 => intro w hSw; (try dsimp only at hSw); (go_simp <;> (with_reducible rfl))
    try simp only [Act.put, List.setIfInBounds_toArray, List.set_cons_zero, List.set_cons_succ]
    refine wpAnyH_take (i := 11) (v := undef) (by (simp only [List.getElem?_toArray, List.getElem?_cons_succ, List.getElem?_cons_zero]; rfl)) (by kernel_rfl) (by kernel_rfl) (by kernel_rfl) (by exact fun _ _ _ h => h) (Or.inr ⟨by rfl, rfl⟩) (by assumption) ?_
    try simp only [Act.put, List.setIfInBounds_toArray, List.set_cons_zero, List.set_cons_succ]
    refine wpAnyH_take (i := 12) (v := undef) (by (simp only [List.getElem?_toArray, List.getElem?_cons_succ, List.getElem?_cons_zero]; rfl)) (by kernel_rfl) (by kernel_rfl) (by kernel_rfl) (by exact fun _ _ _ h => h) (Or.inr ⟨by rfl, rfl⟩) (by assumption) ?_
    try simp only [Act.put, List.setIfInBounds_toArray, List.set_cons_zero, List.set_cons_succ]
    refine wpAnyH_take (i := 13) (v := undef) (by (simp only [List.getElem?_toArray, List.getElem?_cons_succ, List.getElem?_cons_zero]; rfl)) (by kernel_rfl) (by kernel_rfl) (by kernel_rfl) (by exact fun _ _ _ h => h) (Or.inr ⟨by rfl, rfl⟩) (by assumption) ?_
    try simp only [Act.put, List.setIfInBounds_toArray, List.set_cons_zero, List.set_cons_succ]
    refine wpAnyH_take (i := 14) (v := undef) (by (simp only [List.getElem?_toArray, List.getElem?_cons_succ, List.getElem?_cons_zero]; rfl)) (by kernel_rfl) (by kernel_rfl) (by kernel_rfl) (by exact fun _ _ _ h => h) (Or.inr ⟨by rfl, rfl⟩) (by assumption) ?_
    try simp only [Act.put, List.setIfInBounds_toArray, List.set_cons_zero, List.set_cons_succ]
    refine wpAnyH_take (i := 15) (v := undef) (by (simp only [List.getElem?_toArray, List.getElem?_cons_succ, List.getElem?_cons_zero]; rfl)) (by kernel_rfl) (by kernel_rfl) (by kernel_rfl) (by exact fun _ _ _ h => h) (Or.inr ⟨by rfl, rfl⟩) (by assumption) ?_
    try simp only [Act.put, List.setIfInBounds_toArray, List.set_cons_zero, List.set_cons_succ]
    refine wpAnyH_take (i := 16) (v := undef) (by (simp only [List.getElem?_toArray, List.getElem?_cons_succ, List.getElem?_cons_zero]; rfl)) (by kernel_rfl) (by kernel_rfl) (by kernel_rfl) (by exact fun _ _ _ h => h) (Or.inr ⟨by rfl, rfl⟩) (by assumption) ?_
    try simp only [Act.put, List.setIfInBounds_toArray, List.set_cons_zero, List.set_cons_succ]
    refine wpAnyH_take (i := 17) (v := undef) (by (simp only [List.getElem?_toArray, List.getElem?_cons_succ, List.getElem?_cons_zero]; rfl)) (by kernel_rfl) (by kernel_rfl) (by kernel_rfl) (by exact fun _ _ _ h => h) (Or.inr ⟨by rfl, rfl⟩) (by assumption) ?_
    try simp only [Act.put, List.setIfInBounds_toArray, List.set_cons_zero, List.set_cons_succ]
    refine wpAnyH_take (i := 18) (v := undef) (by (simp only [List.getElem?_toArray, List.getElem?_cons_succ, List.getElem?_cons_zero]; rfl)) (by kernel_rfl) (by kernel_rfl) (by kernel_rfl) (by exact fun _ _ _ h => h) (Or.inr ⟨by rfl, rfl⟩) (by assumption) ?_
    try simp only [Act.put, List.setIfInBounds_toArray, List.set_cons_zero, List.set_cons_succ]
    refine wpAnyH_take (i := 19) (v := undef) (by (simp only [List.getElem?_toArray, List.getElem?_cons_succ, List.getElem?_cons_zero]; rfl)) (by kernel_rfl) (by kernel_rfl) (by kernel_rfl) (by exact fun _ _ _ h => h) (Or.inr ⟨by rfl, rfl⟩) (by assumption) ?_
    try simp only [Act.put, List.setIfInBounds_toArray, List.set_cons_zero, List.set_cons_succ]
    refine wpAnyH_take (i := 20) (v := undef) (by (simp only [List.getElem?_toArray, List.getElem?_cons_succ, List.getElem?_cons_zero]; rfl)) (by kernel_rfl) (by kernel_rfl) (by kernel_rfl) (by exact fun _ _ _ h => h) (Or.inr ⟨by rfl, rfl⟩) (by assumption) ?_
    try simp only [Act.put, List.setIfInBounds_toArray, List.set_cons_zero, List.set_cons_succ]
    refine wpAnyH_take (i := 21) (v := ?r1_vv21) (by (simp only [List.getElem?_toArray, List.getElem?_cons_succ, List.getElem?_cons_zero]; rfl)) (by kernel_rfl) (by kernel_rfl) (by kernel_rfl) (by exact fun _ _ _ h => h) (Or.inl ⟨by rfl, ?r1_hy21⟩) (by assumption) ?r1_rest21
    case r1_hy21 => intro w hSw; (try dsimp only at hSw); (go_simp <;> (with_reducible rfl))
    try simp only [Act.put, List.setIfInBounds_toArray, List.set_cons_zero, List.set_cons_succ]
    refine wpAnyH_take (i := 22) (v := ?r1_vv22) (by (simp only [List.getElem?_toArray, List.getElem?_cons_succ, List.getElem?_cons_zero]; rfl)) (by kernel_rfl) (by kernel_rfl) (by kernel_rfl) (by exact fun _ _ _ h => h) (Or.inl ⟨by rfl, ?r1_hy22⟩) (by assumption) ?r1_rest22
    case r1_hy22 => intro w hSw; (try dsimp only at hSw); (go_simp <;> (with_reducible rfl))
    try simp only [Act.put, List.setIfInBounds_toArray, List.set_cons_zero, List.set_cons_succ]
    refine wpAnyH_done (by kernel_rfl) ?_ _
    go_wp2_with fail
    go_ret
    exact ⟨ret_bool hR.out.symm, HB.out.trans (Below.mono (And.left (b := _) (by assumption)) HB.out.size)⟩
  · rw [hx] at hR qx
    clear hx
    generalize inB p.y 0 (h - 1) = q at *
    go_enter Try.func95, Try.ntmps95
    go_wp2_with fail
    generalize W.alloc (.cells #[.int .i8 p.x, .int .i8 p.y] 36) = W2 at *
    refine wp_region_held_drew (S := (ItS W2 b o W.heap.size w h z p)) (by kernel_rfl) ?r2_hS0 (fun hHeld => ?r2_rest)
    case r2_hS0 => (try dsimp only); first | assumption | exact ItS.keep hlb hlc (by assumption) ((Below.refl _ _).drew) | exact ItS.keep hlb hlc (by assumption) (by assumption)
    refine wpAnyH_take (i := 0) (v := ?r2_vv0) (by (simp only [List.getElem?_toArray, List.getElem?_cons_succ, List.getElem?_cons_zero]; rfl)) (by kernel_rfl) (by kernel_rfl) (by kernel_rfl) (by exact fun _ _ _ h => h) (Or.inl ⟨by rfl, ?r2_hy0⟩) (by assumption) ?r2_rest0
    case r2_hy0 => intro w hSw; (try dsimp only at hSw); (go_simp <;> (with_reducible rfl))
    try simp only [Act.put, List.setIfInBounds_toArray, List.set_cons_zero, List.set_cons_succ]
    refine wpAnyH_take (i := 1) (v := ?r2_vv1) (by (simp only [List.getElem?_toArray, List.getElem?_cons_succ, List.getElem?_cons_zero]; rfl)) (by kernel_rfl) (by kernel_rfl) (by kernel_rfl) (by exact fun _ _ _ h => h) (Or.inl ⟨by rfl, ?r2_hy1⟩) (by assumption) ?r2_rest1
    case r2_hy1 => intro w hSw; (try dsimp only at hSw); (go_simp <;> (with_reducible rfl))
    try simp only [Act.put, List.setIfInBounds_toArray, List.set_cons_zero, List.set_cons_succ]
    refine wpAnyH_take (i := 2) (v := ?r2_vv2) (by (simp only [List.getElem?_toArray, List.getElem?_cons_succ, List.getElem?_cons_zero]; rfl)) (by kernel_rfl) (by kernel_rfl) (by kernel_rfl) (by exact fun _ _ _ h => h) (Or.inl ⟨by rfl, ?r2_hy2⟩) (by assumption) ?r2_rest2
    case r2_hy2 => intro w hSw; (try dsimp only at hSw); (go_simp <;> (with_reducible rfl))
    try simp only [Act.put, List.setIfInBounds_toArray, List.set_cons_zero, List.set_cons_succ]
    refine wpAnyH_take (i := 3) (v := ?r2_vv3) (by (simp only [List.getElem?_toArray, List.getElem?_cons_succ, List.getElem?_cons_zero]; rfl)) (by kernel_rfl) (by kernel_rfl) (by kernel_rfl) (by exact fun _ _ _ h => h) (Or.inl ⟨by rfl, ?r2_hy3⟩) (by assumption) ?r2_rest3
    case r2_hy3 => intro w hSw; (try dsimp only at hSw); (go_simp <;> (with_reducible rfl))
    try simp only [Act.put, List.setIfInBounds_toArray, List.set_cons_zero, List.set_cons_succ]
    refine wpAnyH_take (i := 4) (v := ?r2_vv4) (by (simp only [List.getElem?_toArray, List.getElem?_cons_succ, List.getElem?_cons_zero]; rfl)) (by kernel_rfl) (by kernel_rfl) (by kernel_rfl) (by exact fun _ _ _ h => h) (Or.inl ⟨by rfl, ?r2_hy4⟩) (by assumption) ?r2_rest4
    case r2_hy4 => intro w hSw; (try dsimp only at hSw); (go_simp <;> (with_reducible rfl))
    try simp only [Act.put, List.setIfInBounds_toArray, List.set_cons_zero, List.set_cons_succ]
    refine wpAnyH_take (i := 5) (v := ?r2_vv5) (by (simp only [List.getElem?_toArray, List.getElem?_cons_succ, List.getElem?_cons_zero]; rfl)) (by kernel_rfl) (by kernel_rfl) (by kernel_rfl) (by exact fun _ _ _ h => h) (Or.inl ⟨by rfl, ?r2_hy5⟩) (by assumption) ?r2_rest5
    case r2_hy5 => intro w hSw; (try dsimp only at hSw); (go_simp <;> (with_reducible rfl))
    try simp only [Act.put, List.setIfInBounds_toArray, List.set_cons_zero, List.set_cons_succ]
    refine wpAnyH_take (i := 6) (v := ?r2_vv6) (by (simp only [List.getElem?_toArray, List.getElem?_cons_succ, List.getElem?_cons_zero]; rfl)) (by kernel_rfl) (by kernel_rfl) (by kernel_rfl) (by exact fun _ _ _ h => h) (Or.inl ⟨by rfl, ?r2_hy6⟩) (by assumption) ?r2_rest6
    case r2_hy6 => intro w hSw; (try dsimp only at hSw); (go_simp <;> (with_reducible rfl))
    try simp only [Act.put, List.setIfInBounds_toArray, List.set_cons_zero, List.set_cons_succ]
    refine wpAnyH_take (i := 7) (v := ?r2_vv7) (by (simp only [List.getElem?_toArray, List.getElem?_cons_succ, List.getElem?_cons_zero]; rfl)) (by kernel_rfl) (by kernel_rfl) (by kernel_rfl) (by exact fun _ _ _ h => h) (Or.inl ⟨by rfl, ?r2_hy7⟩) (by assumption) ?r2_rest7
    case r2_hy7 => intro w hSw; (try dsimp only at hSw); (go_simp <;> (with_reducible rfl))
    try simp only [Act.put, List.setIfInBounds_toArray, List.set_cons_zero, List.set_cons_succ]
    refine wpAnyH_take (i := 8) (v := ?r2_vv8) (by (simp only [List.getElem?_toArray, List.getElem?_cons_succ, List.getElem?_cons_zero]; rfl)) (by kernel_rfl) (by kernel_rfl) (by kernel_rfl) (by exact fun _ _ _ h => h) (Or.inl ⟨by rfl, ?r2_hy8⟩) (by assumption) ?r2_rest8
    case r2_hy8 => intro w hSw; (try dsimp only at hSw); (go_simp <;> (with_reducible rfl))
    try simp only [Act.put, List.setIfInBounds_toArray, List.set_cons_zero, List.set_cons_succ]
    refine wpAnyH_ready (rs := [9]) (by kernel_rfl) (by simp) ?_
    refine AllReadyH.cons (by (simp only [List.getElem?_toArray, List.getElem?_cons_succ, List.getElem?_cons_zero]; rfl)) (fun K hK => ?_) AllReadyH.nil
    go_simp
    (go_at_call 110; with_reducible refine (qx.out _).mono ?_; rintro e w9 ⟨rfl, rfl⟩)
    try go_wp2_with fail
    refine hK.out _ _ ?r2_hS9 (fun hHeld => ?r2_r9)
    case r2_hS9 => (try dsimp only); first | assumption | exact ItS.keep hlb hlc (by assumption) ((Below.refl _ _).drew) | exact ItS.keep hlb hlc (by assumption) (by assumption)
    clear hK K
    try simp only [Act.put, List.setIfInBounds_toArray, List.set_cons_zero, List.set_cons_succ]
    refine wpAnyH_take (i := 10) (v := ?r2_vv10) (by (simp only [List.getElem?_toArray, List.getElem?_cons_succ, List.getElem?_cons_zero]; rfl)) (by kernel_rfl) (by kernel_rfl) (by kernel_rfl) (by exact fun _ _ _ h => h) (Or.inl ⟨by rfl, ?r2_hy10⟩) (by assumption) ?r2_rest10
    case r2_hy10 => intro w hSw; (try dsimp only at hSw); (go_simp <;> (with_reducible rfl))
    try simp only [Act.put, List.setIfInBounds_toArray, List.set_cons_zero, List.set_cons_succ]
    refine wpAnyH_take (i := 11) (v := ?r2_vv11) (by (simp only [List.getElem?_toArray, List.getElem?_cons_succ, List.getElem?_cons_zero]; rfl)) (by kernel_rfl) (by kernel_rfl) (by kernel_rfl) (by exact fun _ _ _ h => h) (Or.inl ⟨by rfl, ?r2_hy11⟩) (by assumption) ?r2_rest11
    case r2_hy11 => intro w hSw; (try dsimp only at hSw); (go_simp <;> (with_reducible rfl))
    try simp only [Act.put, List.setIfInBounds_toArray, List.set_cons_zero, List.set_cons_succ]
    refine wpAnyH_take (i := 12) (v := ?r2_vv12) (by (simp only [List.getElem?_toArray, List.getElem?_cons_succ, List.getElem?_cons_zero]; rfl)) (by kernel_rfl) (by kernel_rfl) (by kernel_rfl) (by exact fun _ _ _ h => h) (Or.inl ⟨by rfl, ?r2_hy12⟩) (by assumption) ?r2_rest12
    case r2_hy12 => intro w hSw; (try dsimp only at hSw); (go_simp <;> (with_reducible rfl))
    try simp only [Act.put, List.setIfInBounds_toArray, List.set_cons_zero, List.set_cons_succ]
    refine wpAnyH_take (i := 13) (v := ?r2_vv13) (by (simp only [List.getElem?_toArray, List.getElem?_cons_succ, List.getElem?_cons_zero]; rfl)) (by kernel_rfl) (by kernel_rfl) (by kernel_rfl) (by exact fun _ _ _ h => h) (Or.inl ⟨by rfl, ?r2_hy13⟩) (by assumption) ?r2_rest13
    case r2_hy13 => intro w hSw; (try dsimp only at hSw); (go_simp <;> (with_reducible rfl))
    try simp only [Act.put, List.setIfInBounds_toArray, List.set_cons_zero, List.set_cons_succ]
    refine wpAnyH_take (i := 14) (v := ?r2_vv14) (by (simp only [List.getElem?_toArray, List.getElem?_cons_succ, List.getElem?_cons_zero]; rfl)) (by kernel_rfl) (by kernel_rfl) (by kernel_rfl) (by exact fun _ _ _ h => h) (Or.inl ⟨by rfl, ?r2_hy14⟩) (by assumption) ?r2_rest14
    case r2_hy14 => intro w hSw; (try dsimp only at hSw); (go_simp <;> (with_reducible rfl))
    try simp only [Act.put, List.setIfInBounds_toArray, List.set_cons_zero, List.set_cons_succ]
    refine wpAnyH_take (i := 15) (v := ?r2_vv15) (by (simp only [List.getElem?_toArray, List.getElem?_cons_succ, List.getElem?_cons_zero]; rfl)) (by kernel_rfl) (by kernel_rfl) (by kernel_rfl) (by exact fun _ _ _ h => h) (Or.inl ⟨by rfl, ?r2_hy15⟩) (by assumption) ?r2_rest15
    case r2_hy15 => intro w hSw; (try dsimp only at hSw); (go_simp <;> (with_reducible rfl))
    try simp only [Act.put, List.setIfInBounds_toArray, List.set_cons_zero, List.set_cons_succ]
    refine wpAnyH_take (i := 16) (v := ?r2_vv16) (by (simp only [List.getElem?_toArray, List.getElem?_cons_succ, List.getElem?_cons_zero]; rfl)) (by kernel_rfl) (by kernel_rfl) (by kernel_rfl) (by exact fun _ _ _ h => h) (Or.inl ⟨by rfl, ?r2_hy16⟩) (by assumption) ?r2_rest16
    case r2_hy16 => intro w hSw; (try dsimp only at hSw); (go_simp <;> (with_reducible rfl))
    try simp only [Act.put, List.setIfInBounds_toArray, List.set_cons_zero, List.set_cons_succ]
    refine wpAnyH_take (i := 17) (v := ?r2_vv17) (by (simp only [List.getElem?_toArray, List.getElem?_cons_succ, List.getElem?_cons_zero]; rfl)) (by kernel_rfl) (by kernel_rfl) (by kernel_rfl) (by exact fun _ _ _ h => h) (Or.inl ⟨by rfl, ?r2_hy17⟩) (by assumption) ?r2_rest17
    case r2_hy17 => intro w hSw; (try dsimp only at hSw); (go_simp <;> (with_reducible rfl))
    try simp only [Act.put, List.setIfInBounds_toArray, List.set_cons_zero, List.set_cons_succ]
    refine wpAnyH_take (i := 18) (v := ?r2_vv18) (by (simp only [List.getElem?_toArray, List.getElem?_cons_succ, List.getElem?_cons_zero]; rfl)) (by kernel_rfl) (by kernel_rfl) (by kernel_rfl) (by exact fun _ _ _ h => h) (Or.inl ⟨by rfl, ?r2_hy18⟩) (by assumption) ?r2_rest18
    case r2_hy18 => intro w hSw; (try dsimp only at hSw); (go_simp <;> (with_reducible rfl))
    try simp only [Act.put, List.setIfInBounds_toArray, List.set_cons_zero, List.set_cons_succ]
    refine wpAnyH_take (i := 19) (v := ?r2_vv19) (by (simp only [List.getElem?_toArray, List.getElem?_cons_succ, List.getElem?_cons_zero]; rfl)) (by kernel_rfl) (by kernel_rfl) (by kernel_rfl) (by exact fun _ _ _ h => h) (Or.inl ⟨by rfl, ?r2_hy19⟩) (by assumption) ?r2_rest19
    case r2_hy19 => intro w hSw; (try dsimp only at hSw); (go_simp <;> (with_reducible rfl))
    try simp only [Act.put, List.setIfInBounds_toArray, List.set_cons_zero, List.set_cons_succ]
    refine wpAnyH_ready (rs := [20]) (by kernel_rfl) (by simp) ?_
    refine AllReadyH.cons (by (simp only [List.getElem?_toArray, List.getElem?_cons_succ, List.getElem?_cons_zero]; rfl)) (fun K hK => ?_) AllReadyH.nil
    go_simp
    (go_at_call 110; with_reducible refine (qy.out _).mono ?_; rintro e w10 ⟨rfl, rfl⟩)
    try go_wp2_with fail
    refine hK.out _ _ ?r2_hS20 (fun hHeld => ?r2_r20)
    case r2_hS20 => (try dsimp only); first | assumption | exact ItS.keep hlb hlc (by assumption) ((Below.refl _ _).drew) | exact ItS.keep hlb hlc (by assumption) (by assumption)
    clear hK K
    try simp only [Act.put, List.setIfInBounds_toArray, List.set_cons_zero, List.set_cons_succ]
    refine wpAnyH_take (i := 21) (v := ?r2_vv21) (by (simp only [List.getElem?_toArray, List.getElem?_cons_succ, List.getElem?_cons_zero]; rfl)) (by kernel_rfl) (by kernel_rfl) (by kernel_rfl) (by exact fun _ _ _ h => h) (Or.inl ⟨by rfl, ?r2_hy21⟩) (by assumption) ?r2_rest21
    case r2_hy21 => intro w hSw; (try dsimp only at hSw); (go_simp <;> (with_reducible rfl))
    try simp only [Act.put, List.setIfInBounds_toArray, List.set_cons_zero, List.set_cons_succ]
    refine wpAnyH_take (i := 22) (v := ?r2_vv22) (by (simp only [List.getElem?_toArray, List.getElem?_cons_succ, List.getElem?_cons_zero]; rfl)) (by kernel_rfl) (by kernel_rfl) (by kernel_rfl) (by exact fun _ _ _ h => h) (Or.inl ⟨by rfl, ?r2_hy22⟩) (by assumption) ?r2_rest22
    case r2_hy22 => intro w hSw; (try dsimp only at hSw); (go_simp <;> (with_reducible rfl))
    try simp only [Act.put, List.setIfInBounds_toArray, List.set_cons_zero, List.set_cons_succ]
    refine wpAnyH_done (by kernel_rfl) ?_ _
    go_wp2_with fail
    go_ret
    exact ⟨ret_bool (by rw [hR.out]; simp), HB.out.trans (Below.mono (And.left (b := _) (by assumption)) HB.out.size)⟩
theorem filt_take (p : Cell → Bool) (xs : List Cell) (k : Nat) (hk : k < xs.length) : (xs.take (k + 1)).filter p = if p xs[k] = true then (xs.take k).filter p ++ [xs[k]] else (xs.take k).filter p := by
  rw [List.take_succ_eq_append_getElem hk, List.filter_append]
  cases hp : p xs[k] <;> simp [hp]
set_option maxHeartbeats 4000000 in
theorem sSides_calls (b o : Nat) (w h : Int) (w0 : -128 ≤ w) (w1 : w ≤ 127) (h0 : -128 ≤ h) (h1 : h ≤ 127) (z : Value) (p : Cell) (x0 : 0 ≤ p.x) (x1 : p.x ≤ 20) (y0 : 0 ≤ p.y) (y1 : p.y ≤ 20) (W : World) (hq : Sq.at_ W b o w h z) :
    Calls Try.prog 81 #[.pointer (some ⟨b, o, none⟩), p.v] W (RetRowC W 36 Cell.c 2 (aroundL w h p)) := by
  have hB2 := Lib.hid (ext_alloc ((Below.refl W.heap.size W).alloc (Nat.le_refl _) (.cells #[.int .i8 p.x, .int .i8 p.y] 36)) (.cells #[.int .i8 p.x, .int .i8 (p.y - 1), .int .i8 (p.x - 1), .int .i8 p.y, .int .i8 (p.x + 1), .int .i8 p.y, .int .i8 p.x, .int .i8 (p.y + 1)] 36))
  have hS0 := Lib.hid ((Sl.litw Cell.c 2 Cell.c_len (W.alloc (.cells #[.int .i8 p.x, .int .i8 p.y] 36)) (four p) #[.int .i8 p.x, .int .i8 (p.y - 1), .int .i8 (p.x - 1), .int .i8 p.y, .int .i8 (p.x + 1), .int .i8 p.y, .int .i8 p.x, .int .i8 (p.y + 1)] (by simp [four, Cell.c]) (W.heap.size + 1) (by simp) 36 (by simp [four])).alloc (.cells #[] 36))
  have HO0 := Lib.hid (Own.empty (α := Cell) (c := Cell.c) (sz := 2) (E := 36) ((W.alloc (.cells #[.int .i8 p.x, .int .i8 p.y] 36)).alloc (.cells #[.int .i8 p.x, .int .i8 (p.y - 1), .int .i8 (p.x - 1), .int .i8 p.y, .int .i8 (p.x + 1), .int .i8 p.y, .int .i8 p.x, .int .i8 (p.y + 1)] 36)) (W.heap.size + 1 + 1) (W.heap.size + 1 + 1) (by simp) (by simp))
  have HA := Lib.hid hq
  have m1 : IntKind.i8.wrap (p.y - 1) = p.y - 1 := wrap8In' _ (by omega) (by omega)
  have m2 : IntKind.i8.wrap (p.x - 1) = p.x - 1 := wrap8In' _ (by omega) (by omega)
  have m3 : IntKind.i8.wrap (p.x + 1) = p.x + 1 := wrap8In' _ (by omega) (by omega)
  have m4 : IntKind.i8.wrap (p.y + 1) = p.y + 1 := wrap8In' _ (by omega) (by omega)
  have hfo := Lib.hid (four_okS x0 x1 y0 y1)
  have hfl : (four p).length = 4 := rfl
  have hE := Lib.hid (show (four p).filter (gpB w h) = aroundL w h p from rfl)
  have qi := Lib.hid (fun (x : Cell) (hx : x.ok) W' (ha : Sq.at_ W' b o w h z) => sIsC_calls b o w h w0 w1 h0 h1 z x hx W' ha)
  clear hq
  unfold Cell.v at *
  go_enter Try.func81, Try.ntmps81
  go_wp2_with fail
  replace hB2 := Lib.hid (ext_alloc hB2.out (.cells #[] 36))
  clear m1 m2 m3 m4
  generalize hfr : four p = xs at *
  generalize ((W.alloc (.cells #[.int .i8 p.x, .int .i8 p.y] 36)).alloc (.cells #[.int .i8 p.x, .int .i8 (p.y - 1), .int .i8 (p.x - 1), .int .i8 p.y, .int .i8 (p.x + 1), .int .i8 p.y, .int .i8 p.x, .int .i8 (p.y + 1)] 36)).alloc (.cells #[] 36) = W2 at *
  clear hfr
  go_loopw [6, 7] (fun r i wr => ∃ k : Nat, k ≤ 4 ∧ i = .int .i64 (k : Int) ∧ Own wr (W.heap.size + 1 + 1) 36 Cell.c 2 r ((xs.take k).filter (gpB w h)) ∧ (∀ i x, xs[i]? = some x → ∀ j u, (Cell.c x)[j]? = some u → wr.cell? ⟨W.heap.size + 1, i * 2 + j, none⟩ = some u) ∧ W.heap.size + 1 + 1 ≤ wr.heap.size ∧ Below W.heap.size W wr) (fun _ i _ => 4 - (intOf i).toNat)
  case atStart =>
    refine ⟨0, by omega, rfl, HO0.out, ?_, ?_, hB2.out⟩
    · obtain ⟨A, cap, hv, _, _, hc⟩ := hS0.out.out
      obtain ⟨b', o', hA, _, hc⟩ := hc (by rw [hfl]; omega)
      injection hv with e1 e2 e3
      rw [hA] at e1
      injection e1 with e1
      injection e1 with e1 e4
      subst e1; subst e4
      intro i x hx j u hu
      have := hc i x hx j u hu
      rwa [Nat.zero_add] at this
    · have := HO0.out.lt (W.heap.size + 1 + 1) (by simp [Value.ownBlock])
      omega
  case round =>
    clear HO0 hS0 hB2
    obtain ⟨k, hk, rfl, hO, hL, hsz, hb⟩ := hrel
    have HO := Lib.hid hO
    have HL := Lib.hid hL
    have HS := Lib.hid hsz
    have HBr := Lib.hid hb
    clear hO hL hsz hb
    by_cases hlt : k < 4
    · have hkl : k < xs.length := by omega
      have c0 : wr.cell? ⟨W.heap.size + 1, k * 2, none⟩ = some (.int .i8 xs[k].x) := HL.out k xs[k] (List.getElem?_eq_getElem hkl) 0 _ rfl
      have c1 : wr.cell? ⟨W.heap.size + 1, k * 2 + 1, none⟩ = some (.int .i8 xs[k].y) := HL.out k xs[k] (List.getElem?_eq_getElem hkl) 1 _ rfl
      have hok := Lib.hid (hfo.out xs[k] (List.getElem_mem hkl))
      have hst := Lib.hid (filt_take (gpB w h) xs k hkl)
      have hlen := Lib.hid (show ((xs.take k).filter (gpB w h)).length ≤ 4 from Nat.le_trans (List.length_filter_le _ _) (by rw [List.length_take]; omega))
      obtain ⟨x, hxe⟩ : ∃ x, xs[k] = x := ⟨_, rfl⟩
      rw [hxe] at c0 c1 hok hst
      clear hxe
      have q1 := Lib.hid (qi.out x hok.out wr (HA.out.ext HBr.out))
      have hkk : (k : Int) < 4 := by omega
      have hk0 : (0 : Int) ≤ (k : Int) := by omega
      have hkd : decide ((k : Int) < 4) = true := decide_eq_true hkk
      cases hg : gpB w h x
      · rw [hg] at q1 hst
        rw [if_neg (by decide)] at hst
        clear hg
        go_wp2_with fail
        refine q1.out.mono ?_
        rintro e w3 ⟨rfl, hb3⟩
        have HO3 := Lib.hid (HO.out.ext hb3)
        have HB3 := Lib.hid (ext_trans HBr.out hb3)
        have HL3 := Lib.hid (show ∀ i x, xs[i]? = some x → ∀ j u, (Cell.c x)[j]? = some u → w3.cell? ⟨W.heap.size + 1, i * 2 + j, none⟩ = some u from fun i x hx j u hu => (hb3.cell (p := ⟨W.heap.size + 1, _, none⟩) (by have := HS.out; show W.heap.size + 1 < _; omega)).trans (HL.out i x hx j u hu))
        have HS3 := Lib.hid (Nat.le_trans HS.out hb3.size)
        clear hb3
        go_wp2_with fail
        go_roundw
        case rel => exact ⟨k + 1, by omega, by go_num, by rw [hst.out]; exact HO3.out, HL3.out, HS3.out, HB3.out⟩
        case measure => first | (simp [intOf]; done) | (simp [intOf]; omega)
      · rw [hg] at q1 hst
        rw [if_pos rfl] at hst
        clear hg
        go_wp2_with fail
        refine q1.out.mono ?_
        rintro e w3 ⟨rfl, hb3⟩
        have HO3 := Lib.hid (HO.out.ext hb3)
        have HB3 := Lib.hid (ext_trans HBr.out hb3)
        have HL3 := Lib.hid (show ∀ i x, xs[i]? = some x → ∀ j u, (Cell.c x)[j]? = some u → w3.cell? ⟨W.heap.size + 1, i * 2 + j, none⟩ = some u from fun i x hx j u hu => (hb3.cell (p := ⟨W.heap.size + 1, _, none⟩) (by have := HS.out; show W.heap.size + 1 < _; omega)).trans (HL.out i x hx j u hu))
        have HS3 := Lib.hid (Nat.le_trans HS.out hb3.size)
        have d0 := (hb3.cell (p := ⟨W.heap.size + 1, k * 2, none⟩) (by have := HS.out; show W.heap.size + 1 < _; omega)).trans c0
        have d1 := (hb3.cell (p := ⟨W.heap.size + 1, k * 2 + 1, none⟩) (by have := HS.out; show W.heap.size + 1 < _; omega)).trans c1
        clear hb3 c0 c1
        generalize (xs.take k).filter (gpB w h) = out at *
        go_wp2_with (at_builtin; refine push_cellat rfl _ _ rfl (W.heap.size + 1 + 1) out _ rfl (HO3.out.alloc _) _ x rfl (Bk.new _ _ _ _ (by simp)) (by have := hlen.out; omega) (Nat.le_trans HS3.out (by simp)) ?_)
        intro v4 w4 hO4 hG4 hat4
        have hba := ext_alloc HB3.out (.cells #[.int .i8 x.x, .int .i8 x.y] 36)
        have HB4 := Lib.hid (hba.grown hG4 hba.size (fun j hj => by have := HO3.out.base j hj; omega))
        have HO4 := Lib.hid hO4
        have HS4 := Lib.hid (Nat.le_trans (Nat.le_trans HS3.out (by simp)) hG4.size)
        have HL4 := Lib.hid (show ∀ i x, xs[i]? = some x → ∀ j u, (Cell.c x)[j]? = some u → w4.cell? ⟨W.heap.size + 1, i * 2 + j, none⟩ = some u from fun i y hx j u hu => by
          have h5 := HL3.out i y hx j u hu
          have hk1 : W.heap.size + 1 < w3.heap.size := by have := HS3.out; omega
          have h6 := hG4.block (W.heap.size + 1) (by simp; omega) (fun e => by have := HO3.out.base _ e.symm; omega)
          have h7 : (w3.alloc (.cells #[.int .i8 x.x, .int .i8 x.y] 36)).heap[W.heap.size + 1]? = w3.heap[W.heap.size + 1]? := ((Below.refl w3.heap.size w3).alloc (Nat.le_refl _) _).block _ hk1
          simp only [World.cell?, h6, h7] at h5 ⊢
          exact h5)
        clear hO4 hG4 hat4 hba d0 d1
        go_wp2_with fail
        go_roundw
        case rel => exact ⟨k + 1, by omega, by go_num, by rw [hst.out]; exact HO4.out, HL4.out, HS4.out, HB4.out⟩
        case measure => first | (simp [intOf]; done) | (simp [intOf]; omega)
    · obtain rfl : k = 4 := by omega
      have hall := Lib.hid (show xs.take 4 = xs from List.take_of_length_le (by omega))
      rw [hall.out] at HO
      simp only [show ((4 : Nat) : Int) = 4 from rfl]
      have hkd : decide ((4 : Int) < 4) = false := by decide
      go_wp2_with fail
      go_ret
      exact ⟨_, rfl, by rw [← hE.out]; exact HO.out.more (by omega), HBr.out⟩
def told2 (s fine : Bool) : Int := if s = true then (if fine = true then 0 else 2) else 1
theorem sTold_callsC (b o : Nat) (w h : Int) (z : Value) (sl : List Slab) (fine : Bool) (W : World) (hq : SqIn W w h z sl) (ha : Sq.at_ W b o w h z) :
    Calls Try.prog 139 #[.pointer (some ⟨b, o, none⟩), .bool fine] W fun e w' => e = .returned (.int .i64 (told2 (sqOk w h sl) fine)) ∧ Below W.heap.size W w' := by
  have qo := Lib.hid (sokF_calls b o w h z sl W hq ha)
  clear hq ha
  generalize sqOk w h sl = s at *
  cases s <;> cases fine
  all_goals
    go_enter Try.func139, Try.ntmps139
    go_wp2_with fail
    refine qo.out.mono ?_
    rintro e w1 ⟨rfl, hb1⟩
    go_wp2_with fail
    go_ret
    exact ⟨rfl, hb1⟩
theorem sCells_calls (b o : Nat) (w h : Int) (z : Value) (sl : List Slab) (p r : Cell) (hp : p.ok) (hr : r.ok) (W : World) (hq : SqIn W w h z sl) (ha : Sq.at_ W b o w h z) :
    Calls Try.prog 76 #[.pointer (some ⟨b, o, none⟩), p.v, r.v] W fun e w' => e = .returned (.int .i64 (cellC w h sl [p, r])) ∧ Below W.heap.size W w' := by
  have hB := ext_alloc ((Below.refl W.heap.size W).alloc (Nat.le_refl _) (.cells #[.int .i8 p.x, .int .i8 p.y] 36)) (.cells #[.int .i8 r.x, .int .i8 r.y] 36)
  have HB := Lib.hid hB
  have HQ := Lib.hid (hq.ext hB)
  have HA := Lib.hid (ha.ext hB)
  have KR := Lib.hid (Bk.new (W.alloc (.cells #[.int .i8 p.x, .int .i8 p.y] 36)) 36 #[.int .i8 r.x, .int .i8 r.y] (W.heap.size + 1) (by simp))
  have q1 := Lib.hid (sIsC_calls b o w h hq.w0 hq.w1 hq.h0 hq.h1 z p hp _ HA.out)
  have q2 := Lib.hid (fun W' ha' => sIsC_calls b o w h hq.w0 hq.w1 hq.h0 hq.h1 z r hr W' ha')
  have hR := Lib.hid (show cellC w h sl [p, r] = told2 (sqOk w h sl) (gpB w h p && gpB w h r) from by simp [cellC, told2])
  clear hB hq ha
  generalize cellC w h sl [p, r] = C at *
  unfold Cell.v at *
  cases hg : gpB w h p
  · rw [hg] at q1 hR
    go_enter Try.func76, Try.ntmps76
    go_wp2_with fail
    refine q1.out.mono ?_
    rintro e w1 ⟨rfl, hb1⟩
    have HB1 := Lib.hid (ext_trans HB.out hb1)
    have qt := Lib.hid (sTold_callsC b o w h z sl false w1 (HQ.out.ext hb1) (HA.out.ext hb1))
    rw [Bool.false_and] at hR
    generalize told2 (sqOk w h sl) false = V at *
    clear hb1
    go_wp2_with fail
    refine qt.out.mono ?_
    rintro e w2 ⟨rfl, hb2⟩
    go_wp2_with fail
    go_ret
    exact ⟨ret_int hR.out.symm, ext_trans HB1.out hb2⟩
  · rw [hg] at q1 hR
    go_enter Try.func76, Try.ntmps76
    go_wp2_with fail
    refine q1.out.mono ?_
    rintro e w1 ⟨rfl, hb1⟩
    have HB1 := Lib.hid (ext_trans HB.out hb1)
    have HQ1 := Lib.hid (HQ.out.ext hb1)
    have HA1 := Lib.hid (HA.out.ext hb1)
    have x0 := (KR.out.ext hb1).cell 0 _ rfl
    have x1 := (KR.out.ext hb1).cell 1 _ rfl
    clear hb1
    go_wp2_with fail
    refine (q2.out _ HA1.out).mono ?_
    rintro e w2 ⟨rfl, hb2⟩
    have HB2 := Lib.hid (ext_trans HB1.out hb2)
    have qt := Lib.hid (sTold_callsC b o w h z sl (gpB w h r) w2 (HQ1.out.ext hb2) (HA1.out.ext hb2))
    clear hb2
    rw [Bool.true_and] at hR
    generalize told2 (sqOk w h sl) (gpB w h r) = V at *
    generalize gpB w h r = gr at *
    go_wp2_with fail
    refine qt.out.mono ?_
    rintro e w3 ⟨rfl, hb3⟩
    go_wp2_with fail
    go_ret
    exact ⟨ret_int hR.out.symm, ext_trans HB2.out hb3⟩
end Go.Proofs.Yteflpdfajfljfaa
