/-
Grounds: heights and points, of both. Conditions: numbers are of their kinds.
-/
import Derived.Test.YthlcmiediedcfaaDoorGD1
import Derived.Test.YthlcmiediedcfaaDoorGR1
set_option linter.unusedVariables false
set_option linter.unusedSimpArgs false
set_option maxRecDepth 100000
namespace Go.Proofs.YthlcmiediedcfaaDoor
open Go.RowKit
theorem htL_at (hs : List Int) (a b : Nat) : htL hs ⟨(a : Int), (b : Int)⟩ = hs.getD (b * 9 + a) 0 := by
  unfold htL
  congr 1
theorem Bk.ht {W : World} {g : Nat} {T : TypeId} {w h : Int} {hs : List Int} {z : Value} (hb : Bk W g T (gdA w h hs z)) (hl : hs.length = 81) (a b : Nat) (ha : a < 9) (hb2 : b < 9) : W.cell? ⟨g, 2 + b * 9 + a, none⟩ = some (.int .i16 (htL hs ⟨(a : Int), (b : Int)⟩)) := by
  rw [htL_at, Nat.add_assoc]
  exact hb.cell _ _ (gdA_h w h hs z hl _ (by omega))
theorem height_calls (w h : Int) (hs : List Int) (hl : hs.length = 81) (z : Value) (a b : Nat) (ha : a < 9) (hb : b < 9) (hw16 : -32768 ≤ htL hs ⟨(a : Int), (b : Int)⟩ ∧ htL hs ⟨(a : Int), (b : Int)⟩ ≤ 32767) (W : World) :
    Calls Tryd.prog 58 #[.agg (gdA w h hs z), .agg #[.int .i8 (a : Int), .int .i8 (b : Int)]] W fun e w' => e = .returned (.int .i64 (htL hs ⟨(a : Int), (b : Int)⟩)) ∧ Below W.heap.size W w' := by
  have HB := Lib.hid (ext_alloc ((Below.refl W.heap.size W).alloc (Nat.le_refl _) (.cells (gdA w h hs z) 54)) (.cells #[.int .i8 (a : Int), .int .i8 (b : Int)] 98))
  have K := Lib.hid ((Bk.new W 54 (gdA w h hs z) W.heap.size rfl).alloc (.cells #[.int .i8 (a : Int), .int .i8 (b : Int)] 98))
  have KP := Lib.hid (Bk.new (W.alloc (.cells (gdA w h hs z) 54)) 98 #[.int .i8 (a : Int), .int .i8 (b : Int)] (W.heap.size + 1) (by simp))
  have hh := K.out.ht hl a b ha hb
  generalize htL hs ⟨(a : Int), (b : Int)⟩ = n at *
  have wn : IntKind.i64.wrap n = n := wrapIn _ (by omega) (by omega)
  have HH := Lib.hid hh
  clear hh
  go_enter Tryd.func58, Tryd.ntmps58
  go_wp2_with fail
  generalize (W.alloc (.cells (gdA w h hs z) 54)).alloc (.cells #[.int .i8 (a : Int), .int .i8 (b : Int)] 98) = W1 at *
  have k0 := KP.out.cell 0 _ rfl
  have k1 := KP.out.cell 1 _ rfl
  have hh := HH.out
  go_quiet (fail)
  go_wp2_with fail
  go_ret
  exact ⟨rfl, ext_drewN HB.out _⟩
theorem sheight_calls (g : Nat) (T : TypeId) (w h : Int) (hs : List Int) (hl : hs.length = 81) (z : Value) (a b : Nat) (ha : a < 9) (hb : b < 9) (hw16 : -32768 ≤ htL hs ⟨(a : Int), (b : Int)⟩ ∧ htL hs ⟨(a : Int), (b : Int)⟩ ≤ 32767) (W : World) (hg : Bk W g T (gdA w h hs z)) :
    Calls Tryd.prog 92 #[.pointer (some ⟨g, 0, none⟩), .agg #[.int .i8 (a : Int), .int .i8 (b : Int)]] W fun e w' => e = .returned (.int .i64 (htL hs ⟨(a : Int), (b : Int)⟩)) ∧ Below W.heap.size W w' := by
  have HB := Lib.hid ((Below.refl W.heap.size W).alloc (Nat.le_refl _) (.cells #[.int .i8 (a : Int), .int .i8 (b : Int)] 98))
  have K := Lib.hid (hg.alloc (.cells #[.int .i8 (a : Int), .int .i8 (b : Int)] 98))
  have KP := Lib.hid (Bk.new W 98 #[.int .i8 (a : Int), .int .i8 (b : Int)] W.heap.size rfl)
  have hh := K.out.ht hl a b ha hb
  generalize htL hs ⟨(a : Int), (b : Int)⟩ = n at *
  have wn : IntKind.i64.wrap n = n := wrapIn _ (by omega) (by omega)
  have HH := Lib.hid hh
  clear hh hg
  go_enter Tryd.func92, Tryd.ntmps92
  go_wp2_with fail
  generalize W.alloc (.cells #[.int .i8 (a : Int), .int .i8 (b : Int)] 98) = W1 at *
  have k0 := KP.out.cell 0 _ rfl
  have k1 := KP.out.cell 1 _ rfl
  have hh := HH.out
  go_quiet (fail)
  go_wp2_with fail
  go_ret
  exact ⟨rfl, ext_drewN HB.out _⟩
abbrev GpS (W0 : World) (b c : Nat) (w h : Int) (p : Cell) (w' : World) : Prop :=
  Below W0.heap.size W0 w' ∧ w'.cell? ⟨b, 0, none⟩ = some (.int .i8 w) ∧ w'.cell? ⟨b, 1, none⟩ = some (.int .i8 h) ∧ w'.cell? ⟨c, 0, none⟩ = some (.int .i8 p.x) ∧ w'.cell? ⟨c, 1, none⟩ = some (.int .i8 p.y)
theorem GpS.first {W0 : World} {b c : Nat} {w h : Int} {hs : List Int} {z : Value} {p : Cell} {T T' : TypeId} (hb : Bk W0 b T (gdA w h hs z)) (hc : Bk W0 c T' #[.int .i8 p.x, .int .i8 p.y]) (w' : World) (k : Below W0.heap.size W0 w') : GpS W0 b c w h p w' :=
  ⟨k, (hb.ext k).cell 0 _ (gdA_0 _ _ _ _), (hb.ext k).cell 1 _ (gdA_1 _ _ _ _), (hc.ext k).cell 0 _ rfl, (hc.ext k).cell 1 _ rfl⟩
set_option maxHeartbeats 1000000 in
theorem sIsP_calls (g : Nat) (T : TypeId) (w h : Int) (w0 : -128 ≤ w) (w1 : w ≤ 127) (h0 : -128 ≤ h) (h1 : h ≤ 127) (hs : List Int) (z : Value) (p : Cell) (hp : p.ok) (W : World) (hg : Bk W g T (gdA w h hs z)) :
    Calls Tryd.prog 90 #[.pointer (some ⟨g, 0, none⟩), p.v] W fun e w' => e = .returned (.bool (gpB w h p)) ∧ Below W.heap.size W w' := by
  have HB := Lib.hid ((Below.refl W.heap.size W).alloc (Nat.le_refl _) (.cells #[.int .i8 p.x, .int .i8 p.y] 98))
  have K := Lib.hid (hg.alloc (.cells #[.int .i8 p.x, .int .i8 p.y] 98))
  have KP := Lib.hid (Bk.new W 98 #[.int .i8 p.x, .int .i8 p.y] W.heap.size rfl)
  obtain ⟨x0, x1, y0, y1⟩ := hp
  have v0 : IntKind.i64.wrap p.x = p.x := wrapIn _ (by omega) (by omega)
  have v1 : IntKind.i64.wrap p.y = p.y := wrapIn _ (by omega) (by omega)
  have v2 : IntKind.i64.wrap w = w := wrapIn _ (by omega) (by omega)
  have v3 : IntKind.i64.wrap h = h := wrapIn _ (by omega) (by omega)
  have v4 : IntKind.i64.wrap (w - 1) = w - 1 := wrapIn _ (by omega) (by omega)
  have v5 : IntKind.i64.wrap (h - 1) = h - 1 := wrapIn _ (by omega) (by omega)
  have hR := Lib.hid (show gpB w h p = (inB p.x 0 (w - 1) && inB p.y 0 (h - 1)) from by
    rw [Bool.eq_iff_iff, Bool.and_eq_true, inB_true, inB_true, gpB_true]
    omega)
  have qx := Lib.hid (fun W => in_calls p.x 0 (w - 1) W)
  have qy := Lib.hid (fun W => in_calls p.y 0 (h - 1) W)
  clear hg
  unfold Cell.v
  cases hx : inB p.x 0 (w - 1)
  · rw [hx] at hR qx
    clear hx
    go_enter Tryd.func90, Tryd.ntmps90
    go_wp2_with fail
    generalize W.alloc (.cells #[.int .i8 p.x, .int .i8 p.y] 98) = W1 at *
    have HS := Lib.hid (GpS.first K.out KP.out)
    refine wp_region_held_drew (S := (GpS W1 g W.heap.size w h p)) (by kernel_rfl) ?r2_hS0 (fun hHeld => ?r2_rest)
    case r2_hS0 => (try dsimp only); first | assumption | exact HS.out _ (kp0 _) | exact HS.out _ (Below.refl _ _) | exact HS.out _ (kp1 (And.left (b := _) (by assumption))) | exact HS.out _ (ext_trans (And.left (b := _) (by assumption)) (by assumption))
    refine wpAnyH_take (i := 0) (v := ?r2_vv0) (by (simp only [List.getElem?_toArray, List.getElem?_cons_succ, List.getElem?_cons_zero]; rfl)) (by kernel_rfl) (by kernel_rfl) (by kernel_rfl) (by exact fun _ _ _ h => h) (Or.inl ⟨by rfl, ?r2_hy0⟩) (by assumption) ?r2_rest0
    case r2_hy0 => intro w hSw; (try dsimp only at hSw); (go_simp <;> (with_reducible rfl))
    try simp only [Act.put, List.setIfInBounds_toArray, List.set_cons_zero, List.set_cons_succ]
    refine wpAnyH_take (i := 1) (v := ?r2_vv1) (by (simp only [List.getElem?_toArray, List.getElem?_cons_succ, List.getElem?_cons_zero]; rfl)) (by kernel_rfl) (by kernel_rfl) (by kernel_rfl) (by exact fun _ _ _ h => h) (Or.inl ⟨by rfl, ?r2_hy1⟩) (by assumption) ?r2_rest1
    case r2_hy1 => intro w hSw; (try dsimp only at hSw); (go_simp <;> (with_reducible rfl))
    try simp only [Act.put, List.setIfInBounds_toArray, List.set_cons_zero, List.set_cons_succ]
    refine wpAnyH_take (i := 2) (v := ?r2_vv2) (by (simp only [List.getElem?_toArray, List.getElem?_cons_succ, List.getElem?_cons_zero]; rfl)) (by kernel_rfl) (by kernel_rfl) (by kernel_rfl) (by exact fun _ _ _ h => h) (Or.inl ⟨by rfl, ?r2_hy2⟩) (by assumption) ?r2_rest2
    case r2_hy2 => intro w hSw; (try dsimp only at hSw); (go_simp <;> (with_reducible rfl))
    try simp only [Act.put, List.setIfInBounds_toArray, List.set_cons_zero, List.set_cons_succ]
    refine wpAnyH_take (i := 3) (v := ?r2_vv3) (by (simp only [List.getElem?_toArray, List.getElem?_cons_succ, List.getElem?_cons_zero]; rfl)) (by kernel_rfl) (by kernel_rfl) (by kernel_rfl) (by exact fun _ _ _ h => h) (Or.inl ⟨by rfl, ?r2_hy3⟩) (by assumption) ?r2_rest3
    case r2_hy3 => intro w hSw; (try dsimp only at hSw); (go_simp <;> (with_reducible rfl))
    try simp only [Act.put, List.setIfInBounds_toArray, List.set_cons_zero, List.set_cons_succ]
    refine wpAnyH_take (i := 4) (v := ?r2_vv4) (by (simp only [List.getElem?_toArray, List.getElem?_cons_succ, List.getElem?_cons_zero]; rfl)) (by kernel_rfl) (by kernel_rfl) (by kernel_rfl) (by exact fun _ _ _ h => h) (Or.inl ⟨by rfl, ?r2_hy4⟩) (by assumption) ?r2_rest4
    case r2_hy4 => intro w hSw; (try dsimp only at hSw); (go_simp <;> (with_reducible rfl))
    try simp only [Act.put, List.setIfInBounds_toArray, List.set_cons_zero, List.set_cons_succ]
    refine wpAnyH_take (i := 5) (v := ?r2_vv5) (by (simp only [List.getElem?_toArray, List.getElem?_cons_succ, List.getElem?_cons_zero]; rfl)) (by kernel_rfl) (by kernel_rfl) (by kernel_rfl) (by exact fun _ _ _ h => h) (Or.inl ⟨by rfl, ?r2_hy5⟩) (by assumption) ?r2_rest5
    case r2_hy5 => intro w hSw; (try dsimp only at hSw); (go_simp <;> (with_reducible rfl))
    try simp only [Act.put, List.setIfInBounds_toArray, List.set_cons_zero, List.set_cons_succ]
    refine wpAnyH_take (i := 6) (v := ?r2_vv6) (by (simp only [List.getElem?_toArray, List.getElem?_cons_succ, List.getElem?_cons_zero]; rfl)) (by kernel_rfl) (by kernel_rfl) (by kernel_rfl) (by exact fun _ _ _ h => h) (Or.inl ⟨by rfl, ?r2_hy6⟩) (by assumption) ?r2_rest6
    case r2_hy6 => intro w hSw; (try dsimp only at hSw); (go_simp <;> (with_reducible rfl))
    try simp only [Act.put, List.setIfInBounds_toArray, List.set_cons_zero, List.set_cons_succ]
    refine wpAnyH_take (i := 7) (v := ?r2_vv7) (by (simp only [List.getElem?_toArray, List.getElem?_cons_succ, List.getElem?_cons_zero]; rfl)) (by kernel_rfl) (by kernel_rfl) (by kernel_rfl) (by exact fun _ _ _ h => h) (Or.inl ⟨by rfl, ?r2_hy7⟩) (by assumption) ?r2_rest7
    case r2_hy7 => intro w hSw; (try dsimp only at hSw); (go_simp <;> (with_reducible rfl))
    try simp only [Act.put, List.setIfInBounds_toArray, List.set_cons_zero, List.set_cons_succ]
    refine wpAnyH_take (i := 8) (v := ?r2_vv8) (by (simp only [List.getElem?_toArray, List.getElem?_cons_succ, List.getElem?_cons_zero]; rfl)) (by kernel_rfl) (by kernel_rfl) (by kernel_rfl) (by exact fun _ _ _ h => h) (Or.inl ⟨by rfl, ?r2_hy8⟩) (by assumption) ?r2_rest8
    case r2_hy8 => intro w hSw; (try dsimp only at hSw); (go_simp <;> (with_reducible rfl))
    try simp only [Act.put, List.setIfInBounds_toArray, List.set_cons_zero, List.set_cons_succ]
    refine wpAnyH_ready (rs := [9]) (by kernel_rfl) (by simp) ?_
    refine AllReadyH.cons (by (simp only [List.getElem?_toArray, List.getElem?_cons_succ, List.getElem?_cons_zero]; rfl)) (fun K hK => ?_) AllReadyH.nil
    go_simp
    (go_at_call 75; with_reducible refine (qx.out _).mono ?_; rintro e w9 ⟨rfl, rfl⟩)
    try go_wp2_with fail
    refine hK.out _ _ ?r2_hS9 (fun hHeld => ?r2_r9)
    case r2_hS9 => (try dsimp only); first | assumption | exact HS.out _ (kp0 _) | exact HS.out _ (Below.refl _ _) | exact HS.out _ (kp1 (And.left (b := _) (by assumption))) | exact HS.out _ (ext_trans (And.left (b := _) (by assumption)) (by assumption))
    clear hK K
    try simp only [Act.put, List.setIfInBounds_toArray, List.set_cons_zero, List.set_cons_succ]
    refine wpAnyH_take (i := 10) (v := ?r2_vv10) (by (simp only [List.getElem?_toArray, List.getElem?_cons_succ, List.getElem?_cons_zero]; rfl)) (by kernel_rfl) (by kernel_rfl) (by kernel_rfl) (by exact fun _ _ _ h => h) (Or.inl ⟨by rfl, ?r2_hy10⟩) (by assumption) ?r2_rest10
    case r2_hy10 => intro w hSw; (try dsimp only at hSw); (go_simp <;> (with_reducible rfl))
    try simp only [Act.put, List.setIfInBounds_toArray, List.set_cons_zero, List.set_cons_succ]
    refine wpAnyH_take (i := 11) (v := undef) (by (simp only [List.getElem?_toArray, List.getElem?_cons_succ, List.getElem?_cons_zero]; rfl)) (by kernel_rfl) (by kernel_rfl) (by kernel_rfl) (by exact fun _ _ _ h => h) (Or.inr ⟨by rfl, rfl⟩) (by assumption) ?_
    try simp only [Act.put, List.setIfInBounds_toArray, List.set_cons_zero, List.set_cons_succ]
    refine wpAnyH_take (i := 12) (v := undef) (by (simp only [List.getElem?_toArray, List.getElem?_cons_succ, List.getElem?_cons_zero]; rfl)) (by kernel_rfl) (by kernel_rfl) (by kernel_rfl) (by exact fun _ _ _ h => h) (Or.inr ⟨by rfl, rfl⟩) (by assumption) ?_
    try simp only [Act.put, List.setIfInBounds_toArray, List.set_cons_zero, List.set_cons_succ]
    refine wpAnyH_take (i := 13) (v := undef) (by (simp only [List.getElem?_toArray, List.getElem?_cons_succ, List.getElem?_cons_zero]; rfl)) (by kernel_rfl) (by kernel_rfl) (by kernel_rfl) (by exact fun _ _ _ h => h) (Or.inr ⟨by rfl, rfl⟩) (by assumption) ?_
    try simp only [Act.put, List.setIfInBounds_toArray, List.set_cons_zero, List.set_cons_succ]
    refine wpAnyH_take (i := 14) (v := undef) (by (simp only [List.getElem?_toArray, List.getElem?_cons_succ, List.getElem?_cons_zero]; rfl)) (by kernel_rfl) (by kernel_rfl) (by kernel_rfl) (by exact fun _ _ _ h => h) (Or.inr ⟨by rfl, rfl⟩) (by assumption) ?_
    try simp only [Act.put, List.setIfInBounds_toArray, List.set_cons_zero, List.set_cons_succ]
    refine wpAnyH_take (i := 15) (v := undef) (by (simp only [List.getElem?_toArray, List.getElem?_cons_succ, List.getElem?_cons_zero]; rfl)) (by kernel_rfl) (by kernel_rfl) (by kernel_rfl) (by exact fun _ _ _ h => h) (Or.inr ⟨by rfl, rfl⟩) (by assumption) ?_
    try simp only [Act.put, List.setIfInBounds_toArray, List.set_cons_zero, List.set_cons_succ]
    refine wpAnyH_take (i := 16) (v := undef) (by (simp only [List.getElem?_toArray, List.getElem?_cons_succ, List.getElem?_cons_zero]; rfl)) (by kernel_rfl) (by kernel_rfl) (by kernel_rfl) (by exact fun _ _ _ h => h) (Or.inr ⟨by rfl, rfl⟩) (by assumption) ?_
    try simp only [Act.put, List.setIfInBounds_toArray, List.set_cons_zero, List.set_cons_succ]
    refine wpAnyH_take (i := 17) (v := undef) (by (simp only [List.getElem?_toArray, List.getElem?_cons_succ, List.getElem?_cons_zero]; rfl)) (by kernel_rfl) (by kernel_rfl) (by kernel_rfl) (by exact fun _ _ _ h => h) (Or.inr ⟨by rfl, rfl⟩) (by assumption) ?_
    try simp only [Act.put, List.setIfInBounds_toArray, List.set_cons_zero, List.set_cons_succ]
    refine wpAnyH_take (i := 18) (v := undef) (by (simp only [List.getElem?_toArray, List.getElem?_cons_succ, List.getElem?_cons_zero]; rfl)) (by kernel_rfl) (by kernel_rfl) (by kernel_rfl) (by exact fun _ _ _ h => h) (Or.inr ⟨by rfl, rfl⟩) (by assumption) ?_
    try simp only [Act.put, List.setIfInBounds_toArray, List.set_cons_zero, List.set_cons_succ]
    refine wpAnyH_take (i := 19) (v := undef) (by (simp only [List.getElem?_toArray, List.getElem?_cons_succ, List.getElem?_cons_zero]; rfl)) (by kernel_rfl) (by kernel_rfl) (by kernel_rfl) (by exact fun _ _ _ h => h) (Or.inr ⟨by rfl, rfl⟩) (by assumption) ?_
    try simp only [Act.put, List.setIfInBounds_toArray, List.set_cons_zero, List.set_cons_succ]
    refine wpAnyH_take (i := 20) (v := undef) (by (simp only [List.getElem?_toArray, List.getElem?_cons_succ, List.getElem?_cons_zero]; rfl)) (by kernel_rfl) (by kernel_rfl) (by kernel_rfl) (by exact fun _ _ _ h => h) (Or.inr ⟨by rfl, rfl⟩) (by assumption) ?_
    try simp only [Act.put, List.setIfInBounds_toArray, List.set_cons_zero, List.set_cons_succ]
    refine wpAnyH_take (i := 21) (v := ?r2_vv21) (by (simp only [List.getElem?_toArray, List.getElem?_cons_succ, List.getElem?_cons_zero]; rfl)) (by kernel_rfl) (by kernel_rfl) (by kernel_rfl) (by exact fun _ _ _ h => h) (Or.inl ⟨by rfl, ?r2_hy21⟩) (by assumption) ?r2_rest21
    case r2_hy21 => intro w hSw; (try dsimp only at hSw); (go_simp <;> (with_reducible rfl))
    try simp only [Act.put, List.setIfInBounds_toArray, List.set_cons_zero, List.set_cons_succ]
    refine wpAnyH_take (i := 22) (v := ?r2_vv22) (by (simp only [List.getElem?_toArray, List.getElem?_cons_succ, List.getElem?_cons_zero]; rfl)) (by kernel_rfl) (by kernel_rfl) (by kernel_rfl) (by exact fun _ _ _ h => h) (Or.inl ⟨by rfl, ?r2_hy22⟩) (by assumption) ?r2_rest22
    case r2_hy22 => intro w hSw; (try dsimp only at hSw); (go_simp <;> (with_reducible rfl))
    try simp only [Act.put, List.setIfInBounds_toArray, List.set_cons_zero, List.set_cons_succ]
    refine wpAnyH_done (by kernel_rfl) ?_ _
    go_wp2_with fail
    go_ret
    exact ⟨ret_bool hR.out.symm, ext_trans HB.out (And.left (b := _) (by assumption))⟩
  · rw [hx] at hR qx
    clear hx
    generalize inB p.y 0 (h - 1) = q at *
    go_enter Tryd.func90, Tryd.ntmps90
    go_wp2_with fail
    generalize W.alloc (.cells #[.int .i8 p.x, .int .i8 p.y] 98) = W1 at *
    have HS := Lib.hid (GpS.first K.out KP.out)
    refine wp_region_held_drew (S := (GpS W1 g W.heap.size w h p)) (by kernel_rfl) ?r3_hS0 (fun hHeld => ?r3_rest)
    case r3_hS0 => (try dsimp only); first | assumption | exact HS.out _ (kp0 _) | exact HS.out _ (Below.refl _ _) | exact HS.out _ (kp1 (And.left (b := _) (by assumption))) | exact HS.out _ (ext_trans (And.left (b := _) (by assumption)) (by assumption))
    refine wpAnyH_take (i := 0) (v := ?r3_vv0) (by (simp only [List.getElem?_toArray, List.getElem?_cons_succ, List.getElem?_cons_zero]; rfl)) (by kernel_rfl) (by kernel_rfl) (by kernel_rfl) (by exact fun _ _ _ h => h) (Or.inl ⟨by rfl, ?r3_hy0⟩) (by assumption) ?r3_rest0
    case r3_hy0 => intro w hSw; (try dsimp only at hSw); (go_simp <;> (with_reducible rfl))
    try simp only [Act.put, List.setIfInBounds_toArray, List.set_cons_zero, List.set_cons_succ]
    refine wpAnyH_take (i := 1) (v := ?r3_vv1) (by (simp only [List.getElem?_toArray, List.getElem?_cons_succ, List.getElem?_cons_zero]; rfl)) (by kernel_rfl) (by kernel_rfl) (by kernel_rfl) (by exact fun _ _ _ h => h) (Or.inl ⟨by rfl, ?r3_hy1⟩) (by assumption) ?r3_rest1
    case r3_hy1 => intro w hSw; (try dsimp only at hSw); (go_simp <;> (with_reducible rfl))
    try simp only [Act.put, List.setIfInBounds_toArray, List.set_cons_zero, List.set_cons_succ]
    refine wpAnyH_take (i := 2) (v := ?r3_vv2) (by (simp only [List.getElem?_toArray, List.getElem?_cons_succ, List.getElem?_cons_zero]; rfl)) (by kernel_rfl) (by kernel_rfl) (by kernel_rfl) (by exact fun _ _ _ h => h) (Or.inl ⟨by rfl, ?r3_hy2⟩) (by assumption) ?r3_rest2
    case r3_hy2 => intro w hSw; (try dsimp only at hSw); (go_simp <;> (with_reducible rfl))
    try simp only [Act.put, List.setIfInBounds_toArray, List.set_cons_zero, List.set_cons_succ]
    refine wpAnyH_take (i := 3) (v := ?r3_vv3) (by (simp only [List.getElem?_toArray, List.getElem?_cons_succ, List.getElem?_cons_zero]; rfl)) (by kernel_rfl) (by kernel_rfl) (by kernel_rfl) (by exact fun _ _ _ h => h) (Or.inl ⟨by rfl, ?r3_hy3⟩) (by assumption) ?r3_rest3
    case r3_hy3 => intro w hSw; (try dsimp only at hSw); (go_simp <;> (with_reducible rfl))
    try simp only [Act.put, List.setIfInBounds_toArray, List.set_cons_zero, List.set_cons_succ]
    refine wpAnyH_take (i := 4) (v := ?r3_vv4) (by (simp only [List.getElem?_toArray, List.getElem?_cons_succ, List.getElem?_cons_zero]; rfl)) (by kernel_rfl) (by kernel_rfl) (by kernel_rfl) (by exact fun _ _ _ h => h) (Or.inl ⟨by rfl, ?r3_hy4⟩) (by assumption) ?r3_rest4
    case r3_hy4 => intro w hSw; (try dsimp only at hSw); (go_simp <;> (with_reducible rfl))
    try simp only [Act.put, List.setIfInBounds_toArray, List.set_cons_zero, List.set_cons_succ]
    refine wpAnyH_take (i := 5) (v := ?r3_vv5) (by (simp only [List.getElem?_toArray, List.getElem?_cons_succ, List.getElem?_cons_zero]; rfl)) (by kernel_rfl) (by kernel_rfl) (by kernel_rfl) (by exact fun _ _ _ h => h) (Or.inl ⟨by rfl, ?r3_hy5⟩) (by assumption) ?r3_rest5
    case r3_hy5 => intro w hSw; (try dsimp only at hSw); (go_simp <;> (with_reducible rfl))
    try simp only [Act.put, List.setIfInBounds_toArray, List.set_cons_zero, List.set_cons_succ]
    refine wpAnyH_take (i := 6) (v := ?r3_vv6) (by (simp only [List.getElem?_toArray, List.getElem?_cons_succ, List.getElem?_cons_zero]; rfl)) (by kernel_rfl) (by kernel_rfl) (by kernel_rfl) (by exact fun _ _ _ h => h) (Or.inl ⟨by rfl, ?r3_hy6⟩) (by assumption) ?r3_rest6
    case r3_hy6 => intro w hSw; (try dsimp only at hSw); (go_simp <;> (with_reducible rfl))
    try simp only [Act.put, List.setIfInBounds_toArray, List.set_cons_zero, List.set_cons_succ]
    refine wpAnyH_take (i := 7) (v := ?r3_vv7) (by (simp only [List.getElem?_toArray, List.getElem?_cons_succ, List.getElem?_cons_zero]; rfl)) (by kernel_rfl) (by kernel_rfl) (by kernel_rfl) (by exact fun _ _ _ h => h) (Or.inl ⟨by rfl, ?r3_hy7⟩) (by assumption) ?r3_rest7
    case r3_hy7 => intro w hSw; (try dsimp only at hSw); (go_simp <;> (with_reducible rfl))
    try simp only [Act.put, List.setIfInBounds_toArray, List.set_cons_zero, List.set_cons_succ]
    refine wpAnyH_take (i := 8) (v := ?r3_vv8) (by (simp only [List.getElem?_toArray, List.getElem?_cons_succ, List.getElem?_cons_zero]; rfl)) (by kernel_rfl) (by kernel_rfl) (by kernel_rfl) (by exact fun _ _ _ h => h) (Or.inl ⟨by rfl, ?r3_hy8⟩) (by assumption) ?r3_rest8
    case r3_hy8 => intro w hSw; (try dsimp only at hSw); (go_simp <;> (with_reducible rfl))
    try simp only [Act.put, List.setIfInBounds_toArray, List.set_cons_zero, List.set_cons_succ]
    refine wpAnyH_ready (rs := [9]) (by kernel_rfl) (by simp) ?_
    refine AllReadyH.cons (by (simp only [List.getElem?_toArray, List.getElem?_cons_succ, List.getElem?_cons_zero]; rfl)) (fun K hK => ?_) AllReadyH.nil
    go_simp
    (go_at_call 75; with_reducible refine (qx.out _).mono ?_; rintro e w9 ⟨rfl, rfl⟩)
    try go_wp2_with fail
    refine hK.out _ _ ?r3_hS9 (fun hHeld => ?r3_r9)
    case r3_hS9 => (try dsimp only); first | assumption | exact HS.out _ (kp0 _) | exact HS.out _ (Below.refl _ _) | exact HS.out _ (kp1 (And.left (b := _) (by assumption))) | exact HS.out _ (ext_trans (And.left (b := _) (by assumption)) (by assumption))
    clear hK K
    try simp only [Act.put, List.setIfInBounds_toArray, List.set_cons_zero, List.set_cons_succ]
    refine wpAnyH_take (i := 10) (v := ?r3_vv10) (by (simp only [List.getElem?_toArray, List.getElem?_cons_succ, List.getElem?_cons_zero]; rfl)) (by kernel_rfl) (by kernel_rfl) (by kernel_rfl) (by exact fun _ _ _ h => h) (Or.inl ⟨by rfl, ?r3_hy10⟩) (by assumption) ?r3_rest10
    case r3_hy10 => intro w hSw; (try dsimp only at hSw); (go_simp <;> (with_reducible rfl))
    try simp only [Act.put, List.setIfInBounds_toArray, List.set_cons_zero, List.set_cons_succ]
    refine wpAnyH_take (i := 11) (v := ?r3_vv11) (by (simp only [List.getElem?_toArray, List.getElem?_cons_succ, List.getElem?_cons_zero]; rfl)) (by kernel_rfl) (by kernel_rfl) (by kernel_rfl) (by exact fun _ _ _ h => h) (Or.inl ⟨by rfl, ?r3_hy11⟩) (by assumption) ?r3_rest11
    case r3_hy11 => intro w hSw; (try dsimp only at hSw); (go_simp <;> (with_reducible rfl))
    try simp only [Act.put, List.setIfInBounds_toArray, List.set_cons_zero, List.set_cons_succ]
    refine wpAnyH_take (i := 12) (v := ?r3_vv12) (by (simp only [List.getElem?_toArray, List.getElem?_cons_succ, List.getElem?_cons_zero]; rfl)) (by kernel_rfl) (by kernel_rfl) (by kernel_rfl) (by exact fun _ _ _ h => h) (Or.inl ⟨by rfl, ?r3_hy12⟩) (by assumption) ?r3_rest12
    case r3_hy12 => intro w hSw; (try dsimp only at hSw); (go_simp <;> (with_reducible rfl))
    try simp only [Act.put, List.setIfInBounds_toArray, List.set_cons_zero, List.set_cons_succ]
    refine wpAnyH_take (i := 13) (v := ?r3_vv13) (by (simp only [List.getElem?_toArray, List.getElem?_cons_succ, List.getElem?_cons_zero]; rfl)) (by kernel_rfl) (by kernel_rfl) (by kernel_rfl) (by exact fun _ _ _ h => h) (Or.inl ⟨by rfl, ?r3_hy13⟩) (by assumption) ?r3_rest13
    case r3_hy13 => intro w hSw; (try dsimp only at hSw); (go_simp <;> (with_reducible rfl))
    try simp only [Act.put, List.setIfInBounds_toArray, List.set_cons_zero, List.set_cons_succ]
    refine wpAnyH_take (i := 14) (v := ?r3_vv14) (by (simp only [List.getElem?_toArray, List.getElem?_cons_succ, List.getElem?_cons_zero]; rfl)) (by kernel_rfl) (by kernel_rfl) (by kernel_rfl) (by exact fun _ _ _ h => h) (Or.inl ⟨by rfl, ?r3_hy14⟩) (by assumption) ?r3_rest14
    case r3_hy14 => intro w hSw; (try dsimp only at hSw); (go_simp <;> (with_reducible rfl))
    try simp only [Act.put, List.setIfInBounds_toArray, List.set_cons_zero, List.set_cons_succ]
    refine wpAnyH_take (i := 15) (v := ?r3_vv15) (by (simp only [List.getElem?_toArray, List.getElem?_cons_succ, List.getElem?_cons_zero]; rfl)) (by kernel_rfl) (by kernel_rfl) (by kernel_rfl) (by exact fun _ _ _ h => h) (Or.inl ⟨by rfl, ?r3_hy15⟩) (by assumption) ?r3_rest15
    case r3_hy15 => intro w hSw; (try dsimp only at hSw); (go_simp <;> (with_reducible rfl))
    try simp only [Act.put, List.setIfInBounds_toArray, List.set_cons_zero, List.set_cons_succ]
    refine wpAnyH_take (i := 16) (v := ?r3_vv16) (by (simp only [List.getElem?_toArray, List.getElem?_cons_succ, List.getElem?_cons_zero]; rfl)) (by kernel_rfl) (by kernel_rfl) (by kernel_rfl) (by exact fun _ _ _ h => h) (Or.inl ⟨by rfl, ?r3_hy16⟩) (by assumption) ?r3_rest16
    case r3_hy16 => intro w hSw; (try dsimp only at hSw); (go_simp <;> (with_reducible rfl))
    try simp only [Act.put, List.setIfInBounds_toArray, List.set_cons_zero, List.set_cons_succ]
    refine wpAnyH_take (i := 17) (v := ?r3_vv17) (by (simp only [List.getElem?_toArray, List.getElem?_cons_succ, List.getElem?_cons_zero]; rfl)) (by kernel_rfl) (by kernel_rfl) (by kernel_rfl) (by exact fun _ _ _ h => h) (Or.inl ⟨by rfl, ?r3_hy17⟩) (by assumption) ?r3_rest17
    case r3_hy17 => intro w hSw; (try dsimp only at hSw); (go_simp <;> (with_reducible rfl))
    try simp only [Act.put, List.setIfInBounds_toArray, List.set_cons_zero, List.set_cons_succ]
    refine wpAnyH_take (i := 18) (v := ?r3_vv18) (by (simp only [List.getElem?_toArray, List.getElem?_cons_succ, List.getElem?_cons_zero]; rfl)) (by kernel_rfl) (by kernel_rfl) (by kernel_rfl) (by exact fun _ _ _ h => h) (Or.inl ⟨by rfl, ?r3_hy18⟩) (by assumption) ?r3_rest18
    case r3_hy18 => intro w hSw; (try dsimp only at hSw); (go_simp <;> (with_reducible rfl))
    try simp only [Act.put, List.setIfInBounds_toArray, List.set_cons_zero, List.set_cons_succ]
    refine wpAnyH_take (i := 19) (v := ?r3_vv19) (by (simp only [List.getElem?_toArray, List.getElem?_cons_succ, List.getElem?_cons_zero]; rfl)) (by kernel_rfl) (by kernel_rfl) (by kernel_rfl) (by exact fun _ _ _ h => h) (Or.inl ⟨by rfl, ?r3_hy19⟩) (by assumption) ?r3_rest19
    case r3_hy19 => intro w hSw; (try dsimp only at hSw); (go_simp <;> (with_reducible rfl))
    try simp only [Act.put, List.setIfInBounds_toArray, List.set_cons_zero, List.set_cons_succ]
    refine wpAnyH_ready (rs := [20]) (by kernel_rfl) (by simp) ?_
    refine AllReadyH.cons (by (simp only [List.getElem?_toArray, List.getElem?_cons_succ, List.getElem?_cons_zero]; rfl)) (fun K hK => ?_) AllReadyH.nil
    go_simp
    (go_at_call 75; with_reducible refine (qy.out _).mono ?_; rintro e w10 ⟨rfl, rfl⟩)
    try go_wp2_with fail
    refine hK.out _ _ ?r3_hS20 (fun hHeld => ?r3_r20)
    case r3_hS20 => (try dsimp only); first | assumption | exact HS.out _ (kp0 _) | exact HS.out _ (Below.refl _ _) | exact HS.out _ (kp1 (And.left (b := _) (by assumption))) | exact HS.out _ (ext_trans (And.left (b := _) (by assumption)) (by assumption))
    clear hK K
    try simp only [Act.put, List.setIfInBounds_toArray, List.set_cons_zero, List.set_cons_succ]
    refine wpAnyH_take (i := 21) (v := ?r3_vv21) (by (simp only [List.getElem?_toArray, List.getElem?_cons_succ, List.getElem?_cons_zero]; rfl)) (by kernel_rfl) (by kernel_rfl) (by kernel_rfl) (by exact fun _ _ _ h => h) (Or.inl ⟨by rfl, ?r3_hy21⟩) (by assumption) ?r3_rest21
    case r3_hy21 => intro w hSw; (try dsimp only at hSw); (go_simp <;> (with_reducible rfl))
    try simp only [Act.put, List.setIfInBounds_toArray, List.set_cons_zero, List.set_cons_succ]
    refine wpAnyH_take (i := 22) (v := ?r3_vv22) (by (simp only [List.getElem?_toArray, List.getElem?_cons_succ, List.getElem?_cons_zero]; rfl)) (by kernel_rfl) (by kernel_rfl) (by kernel_rfl) (by exact fun _ _ _ h => h) (Or.inl ⟨by rfl, ?r3_hy22⟩) (by assumption) ?r3_rest22
    case r3_hy22 => intro w hSw; (try dsimp only at hSw); (go_simp <;> (with_reducible rfl))
    try simp only [Act.put, List.setIfInBounds_toArray, List.set_cons_zero, List.set_cons_succ]
    refine wpAnyH_done (by kernel_rfl) ?_ _
    go_wp2_with fail
    go_ret
    exact ⟨ret_bool (by rw [hR.out]; simp), ext_trans HB.out (And.left (b := _) (by assumption))⟩
theorem isGully_calls (w h : Int) (hs : List Int) (hl : hs.length = 81) (gl : List Cell) (z : Value) (p : Cell) (W : World) (hz : Sl W W.heap.size Cell.c 2 z gl) :
    Calls Tryd.prog 59 #[.agg (gdA w h hs z), p.v] W fun e w' => e = .returned (.bool (decide (p ∈ gl))) ∧ Below W.heap.size W w' := by
  have hB := ext_alloc ((Below.refl W.heap.size W).alloc (Nat.le_refl _) (.cells (gdA w h hs z) 54)) (.cells #[.int .i8 p.x, .int .i8 p.y] 98)
  have HB := Lib.hid hB
  have g83 := gdA_z w h hs z hl
  have qc := Lib.hid (containsCell gl z p _ (hz.ext hB))
  obtain ⟨A, cap, rfl, -, -, -⟩ := hz.cell
  clear hB hz
  unfold Cell.v at *
  go_enter Tryd.func59, Tryd.ntmps59
  go_wp2_with fail
  refine qc.out.mono ?_
  rintro e w1 ⟨rfl, hb1⟩
  go_wp2_with fail
  go_ret
  exact ⟨rfl, ext_trans HB.out hb1⟩
end Go.Proofs.YthlcmiediedcfaaDoor
