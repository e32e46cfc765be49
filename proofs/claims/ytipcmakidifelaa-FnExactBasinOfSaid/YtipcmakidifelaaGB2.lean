/-
BasinOf, of both. Conditions: numbers are of their kinds; slices can be read.
-/
import Derived.Test.YtipcmakidifelaaGB1
set_option linter.unusedVariables false
set_option linter.unusedSimpArgs false
set_option maxRecDepth 100000
namespace Go.Proofs.Ytipcmakidifelaa
open Go.RowKit
def basinOf (w h : Int) (hs : List Int) (gl : List Cell) (n : Int) : List Cell × Int := if askG w h hs gl (inB n 0 ((gl.length : Int) - 1)) = 0 then ((ptsG w.toNat h.toNat).filter (fun c => drainL w h hs gl c == n), 0) else ([], askG w h hs gl (inB n 0 ((gl.length : Int) - 1)))
theorem basinOf_len (w h : Int) (hs : List Int) (gl : List Cell) (n : Int) : (basinOf w h hs gl n).1.length ≤ 202 := by
  unfold basinOf
  split
  · rename_i hc
    have ok := gOk_ok (askG_ok hc).1
    refine Nat.le_trans (List.length_filter_le _ _) ?_
    rw [ptsG_len]
    have h1 : w.toNat ≤ 9 := by have := ok.w1; omega
    have h2 : h.toNat ≤ 9 := by have := ok.h1; omega
    have : h.toNat * w.toNat ≤ 9 * 9 := Nat.mul_le_mul h2 h1
    omega
  · simp
theorem sizeC_calls (xs : List Cell) (v : Value) (W : World) (hs : Sl W W.heap.size Cell.c 2 v xs) : Calls Try.prog 45 #[v] W fun e w' => e = .returned (.int .i64 (xs.length : Int)) ∧ W = w' := by
  obtain ⟨A, cap, rfl, hl, hm, -⟩ := hs.cell
  have wn : IntKind.i64.wrap (xs.length : Int) = (xs.length : Int) := wrapIn _ (by omega) (by omega)
  go_enter Try.func45, Try.ntmps45
  go_wp2_with fail
  go_ret
  exact ⟨rfl, rfl⟩
abbrev BbS (W0 : World) (b gn c : Nat) (w h : Int) (hs : List Int) (z : Value) (n : Int) (p : Cell) (w' : World) : Prop :=
  Below W0.heap.size W0 w' ∧ (loadVar 36 ⟨b, 0, none⟩).run Try.prog w' = .ok (.agg (gdA w h hs z)) w' ∧ w'.cell? ⟨c, 0, none⟩ = some (.int .i8 p.x) ∧ w'.cell? ⟨c, 1, none⟩ = some (.int .i8 p.y) ∧ w'.cell? ⟨gn, 0, none⟩ = some (.int .i64 n)
theorem BbS.first {W0 : World} {b gn c : Nat} {w h : Int} {hs : List Int} {z : Value} {n : Int} {p : Cell} {T T' T2 : TypeId} (hl : hs.length = 81) (hb : Bk W0 b T (gdA w h hs z)) (hc : Bk W0 c T' #[.int .i8 p.x, .int .i8 p.y]) (hn : Bk W0 gn T2 #[.int .i64 n]) (w' : World) (k : Below W0.heap.size W0 w') : BbS W0 b gn c w h hs z n p w' :=
  ⟨k, load_gd hl (hb.ext k), (hc.ext k).cell 0 _ rfl, (hc.ext k).cell 1 _ rfl, (hn.ext k).cell 0 _ rfl⟩
theorem basin1_calls {w h : Int} {hs : List Int} {gl : List Cell} (ok : GOk w h hs gl) (hl : hs.length = 81) (z : Value) (g gn : Nat) (T T2 : TypeId) (n : Int) (c : Cell) (hc : gpB w h c = true) (W : World) (hg : Bk W g T (gdA w h hs z)) (hgn : Bk W gn T2 #[.int .i64 n]) (hz : Sl W W.heap.size Cell.c 2 z gl) :
    Calls Try.prog 47 #[.agg #[.int .i8 c.x, .int .i8 c.y], .pointer (some ⟨g, 0, none⟩), .pointer (some ⟨gn, 0, none⟩)] W fun e w' => e = .returned (.bool (drainL w h hs gl c == n)) ∧ Below W.heap.size W w' := by
  have hB := (Below.refl W.heap.size W).alloc (Nat.le_refl _) (.cells #[.int .i8 c.x, .int .i8 c.y] 38)
  have HB := Lib.hid hB
  have KG := Lib.hid (hg.alloc (.cells #[.int .i8 c.x, .int .i8 c.y] 38))
  have KN := Lib.hid (hgn.alloc (.cells #[.int .i8 c.x, .int .i8 c.y] 38))
  have KC := Lib.hid (Bk.new W 38 #[.int .i8 c.x, .int .i8 c.y] W.heap.size rfl)
  have HZ := Lib.hid hz
  have qd := Lib.hid (fun W' (hb : Below W.heap.size W W') => drain_calls ok hl z c hc W' (HZ.out.ext hb))
  clear hB hg hgn hz
  go_enter Try.func47, Try.ntmps47
  go_wp2_with fail
  generalize W.alloc (.cells #[.int .i8 c.x, .int .i8 c.y] 38) = W1 at *
  have HS := Lib.hid (BbS.first hl KG.out KC.out KN.out)
  refine wp_region_held_drew (S := (BbS W1 g gn W.heap.size w h hs z n c)) (by kernel_rfl) ?r20_hS0 (fun hHeld => ?r20_rest)
  case r20_hS0 => (try dsimp only); first | assumption | exact HS.out _ (kp0 _) | exact HS.out _ (Below.refl _ _) | exact HS.out _ (kp1 (And.left (b := _) (by assumption))) | exact HS.out _ (ext_trans (And.left (b := _) (by assumption)) (by assumption))
  refine wpAnyH_take (i := 0) (v := ?r20_vv0) (by (simp only [List.getElem?_toArray, List.getElem?_cons_succ, List.getElem?_cons_zero]; rfl)) (by kernel_rfl) (by kernel_rfl) (by kernel_rfl) (by exact fun _ _ _ h => h) (Or.inl ⟨by rfl, ?r20_hy0⟩) (by assumption) ?r20_rest0
  case r20_hy0 => intro w hSw; (try dsimp only at hSw); refine (exec_load rfl rfl hSw.2.1).trans ?_; with_reducible rfl
  try simp only [Act.put, List.setIfInBounds_toArray, List.set_cons_zero, List.set_cons_succ]
  refine wpAnyH_take (i := 1) (v := ?r20_vv1) (by (simp only [List.getElem?_toArray, List.getElem?_cons_succ, List.getElem?_cons_zero]; rfl)) (by kernel_rfl) (by kernel_rfl) (by kernel_rfl) (by exact fun _ _ _ h => h) (Or.inl ⟨by rfl, ?r20_hy1⟩) (by assumption) ?r20_rest1
  case r20_hy1 => intro w hSw; (try dsimp only at hSw); (go_simp <;> (with_reducible rfl))
  try simp only [Act.put, List.setIfInBounds_toArray, List.set_cons_zero, List.set_cons_succ]
  refine wpAnyH_take (i := 3) (v := ?r20_vv3) (by (simp only [List.getElem?_toArray, List.getElem?_cons_succ, List.getElem?_cons_zero]; rfl)) (by kernel_rfl) (by kernel_rfl) (by kernel_rfl) (by exact fun _ _ _ h => h) (Or.inl ⟨by rfl, ?r20_hy3⟩) (by assumption) ?r20_rest3
  case r20_hy3 => intro w hSw; (try dsimp only at hSw); (go_simp <;> (with_reducible rfl))
  try simp only [Act.put, List.setIfInBounds_toArray, List.set_cons_zero, List.set_cons_succ]
  refine wpAnyH_ready (rs := [2]) (by kernel_rfl) (by simp) ?_
  refine AllReadyH.cons (by (simp only [List.getElem?_toArray, List.getElem?_cons_succ, List.getElem?_cons_zero]; rfl)) (fun K hK => ?_) AllReadyH.nil
  go_simp
  (go_at_call 48; with_reducible refine (qd.out _ (ext_trans HB.out (And.left (b := _) (by assumption)))).mono ?_; rintro e w8 ⟨rfl, hb8⟩)
  try go_wp2_with fail
  refine hK.out _ _ ?r20_hS2 (fun hHeld => ?r20_r2)
  case r20_hS2 => (try dsimp only); first | assumption | exact HS.out _ (kp0 _) | exact HS.out _ (Below.refl _ _) | exact HS.out _ (kp1 (And.left (b := _) (by assumption))) | exact HS.out _ (ext_trans (And.left (b := _) (by assumption)) (by assumption))
  clear hK K
  try simp only [Act.put, List.setIfInBounds_toArray, List.set_cons_zero, List.set_cons_succ]
  refine wpAnyH_take (i := 4) (v := ?r20_vv4) (by (simp only [List.getElem?_toArray, List.getElem?_cons_succ, List.getElem?_cons_zero]; rfl)) (by kernel_rfl) (by kernel_rfl) (by kernel_rfl) (by exact fun _ _ _ h => h) (Or.inl ⟨by rfl, ?r20_hy4⟩) (by assumption) ?r20_rest4
  case r20_hy4 => intro w hSw; (try dsimp only at hSw); (go_simp <;> (with_reducible rfl))
  try simp only [Act.put, List.setIfInBounds_toArray, List.set_cons_zero, List.set_cons_succ]
  refine wpAnyH_take (i := 5) (v := ?r20_vv5) (by (simp only [List.getElem?_toArray, List.getElem?_cons_succ, List.getElem?_cons_zero]; rfl)) (by kernel_rfl) (by kernel_rfl) (by kernel_rfl) (by exact fun _ _ _ h => h) (Or.inl ⟨by rfl, ?r20_hy5⟩) (by assumption) ?r20_rest5
  case r20_hy5 => intro w hSw; (try dsimp only at hSw); (go_simp <;> (with_reducible rfl))
  try simp only [Act.put, List.setIfInBounds_toArray, List.set_cons_zero, List.set_cons_succ]
  refine wpAnyH_done (by kernel_rfl) ?_ _
  go_wp2_with fail
  go_ret
  exact ⟨rfl, ext_trans HB.out (And.left (b := _) (by assumption))⟩
abbrev BaS (W0 : World) (b gn : Nat) (n : Int) (z : Value) (w' : World) : Prop :=
  Below W0.heap.size W0 w' ∧ w'.cell? ⟨b, 83, none⟩ = some z ∧ w'.cell? ⟨gn, 0, none⟩ = some (.int .i64 n)
theorem BaS.first {W0 : World} {b gn : Nat} {w h : Int} {hs : List Int} {z : Value} {n : Int} {T T2 : TypeId} (hl : hs.length = 81) (hb : Bk W0 b T (gdA w h hs z)) (hn : Bk W0 gn T2 #[.int .i64 n]) (w' : World) (k : Below W0.heap.size W0 w') : BaS W0 b gn n z w' :=
  ⟨k, (hb.ext k).cell 83 _ (gdA_z _ _ _ _ hl), (hn.ext k).cell 0 _ rfl⟩
theorem askG_no {w h : Int} {hs : List Int} {gl : List Cell} (b : Bool) (hk : gOk w h hs gl = false) : askG w h hs gl b = 1 := by simp [askG, hk]
theorem askG_yes {w h : Int} {hs : List Int} {gl : List Cell} (b : Bool) (hk : gOk w h hs gl = true) : askG w h hs gl b = if b = true then 0 else 2 := by simp [askG, hk]
set_option maxHeartbeats 1000000 in
theorem implBasinOf_calls (w h : Int) (hs : List Int) (gl : List Cell) (z : Value) (n : Int) (W : World) (hq : GdIn W w h hs gl z) (hn0 : -9223372036854775808 ≤ n) (hn1 : n ≤ 9223372036854775807) :
    Calls Try.prog 20 #[.agg (gdA w h hs z), .int .i64 n] W (RetC2 W (basinOf w h hs gl n)) := by
  have hB := ext_alloc ((Below.refl W.heap.size W).alloc (Nat.le_refl _) (.cells (gdA w h hs z) 36)) (.cells #[.int .i64 n] 2)
  have HB := Lib.hid hB
  have KG := Lib.hid ((Bk.new W 36 (gdA w h hs z) W.heap.size rfl).alloc (.cells #[.int .i64 n] 2))
  have KN := Lib.hid (Bk.new (W.alloc (.cells (gdA w h hs z) 36)) 2 #[.int .i64 n] (W.heap.size + 1) (by simp))
  have qo := Lib.hid (validGround_calls w h hq.w0 hq.w1 hq.h0 hq.h1 hs hq.hl hq.h16 gl z hq.ok _ (hq.sl.ext hB))
  have HQ := Lib.hid hq
  have hl := hq.hl
  obtain ⟨A, cap, rfl, hcap, hcap2, -⟩ := hq.sl.cell
  have ldg := load_gd hl KG.out
  have eg := enters_of Try.func47 (by kernel_rfl) rfl
  clear hB hq
  go_enter Try.func20, Try.ntmps20
  go_wp2_with (refine wpList_load_w rfl 36 (.tmp 2) rfl _ rfl _ ldg ?_)
  cases hk : gOk w h hs gl
  · have hA := Lib.hid (askG_no (inB n 0 ((gl.length : Int) - 1)) hk)
    have hE := Lib.hid (show basinOf w h hs gl n = ([], 1) from by unfold basinOf; rw [hA.out]; rfl)
    rw [hk] at qo
    clear hk
    refine qo.out.mono ?_
    rintro e w1 ⟨rfl, hb1⟩
    go_wp2_with fail
    go_ret2
    rw [hE.out]
    exact RetC2.mk rfl (Own.nil_ _ _ _ _ _) (ext_trans HB.out hb1)
  · have hA := Lib.hid (askG_yes (inB n 0 ((gl.length : Int) - 1)) hk)
    have ok := gOk_ok hk
    rw [hk] at qo
    clear hk
    refine qo.out.mono ?_
    rintro e w1 ⟨rfl, hb1⟩
    have HB1 := Lib.hid (ext_trans HB.out hb1)
    have KG1 := Lib.hid (KG.out.ext hb1)
    have KN1 := Lib.hid (KN.out.ext hb1)
    have HS := Lib.hid (BaS.first hl KG1.out KN1.out)
    have HSL := Lib.hid (HQ.out.sl.ext HB1.out)
    have qs := Lib.hid (show ∀ W', Calls Try.prog 45 #[.slice A gl.length cap] W' (fun e w' => e = .returned (.int .i64 (gl.length : Int)) ∧ W' = w') from fun W' => by
      have wn : IntKind.i64.wrap (gl.length : Int) = (gl.length : Int) := wrapIn _ (by omega) (by omega)
      go_enter Try.func45, Try.ntmps45
      go_wp2_with fail
      go_ret
      exact ⟨rfl, rfl⟩)
    have wl : IntKind.i64.wrap ((gl.length : Int) - 1) = (gl.length : Int) - 1 := wrapIn _ (by omega) (by omega)
    have wl2 : wrap64 ((gl.length : Int) - 1) = (gl.length : Int) - 1 := wr64 (by omega) (by omega)
    have qi := Lib.hid (fun W' => within_calls n 0 ((gl.length : Int) - 1) W')
    clear hb1 ldg
    cases hin : inB n 0 ((gl.length : Int) - 1)
    · have hE := Lib.hid (show basinOf w h hs gl n = ([], 2) from by unfold basinOf; rw [hA.out, hin]; rfl)
      rw [hin] at qi
      clear hin hA
      go_wp2_with fail
      refine wp_region_held_drew (S := (BaS w1 W.heap.size (W.heap.size + 1) n (.slice A gl.length cap))) (by kernel_rfl) ?r21_hS0 (fun hHeld => ?r21_rest)
      case r21_hS0 => (try dsimp only); first | assumption | exact HS.out _ (kp0 _) | exact HS.out _ (Below.refl _ _) | exact HS.out _ (kp1 (And.left (b := _) (by assumption))) | exact HS.out _ (ext_trans (And.left (b := _) (by assumption)) (by assumption))
      refine wpAnyH_take (i := 0) (v := ?r21_vv0) (by (simp only [List.getElem?_toArray, List.getElem?_cons_succ, List.getElem?_cons_zero]; rfl)) (by kernel_rfl) (by kernel_rfl) (by kernel_rfl) (by exact fun _ _ _ h => h) (Or.inl ⟨by rfl, ?r21_hy0⟩) (by assumption) ?r21_rest0
      case r21_hy0 => intro w hSw; (try dsimp only at hSw); (go_simp <;> (with_reducible rfl))
      try simp only [Act.put, List.setIfInBounds_toArray, List.set_cons_zero, List.set_cons_succ]
      refine wpAnyH_take (i := 1) (v := ?r21_vv1) (by (simp only [List.getElem?_toArray, List.getElem?_cons_succ, List.getElem?_cons_zero]; rfl)) (by kernel_rfl) (by kernel_rfl) (by kernel_rfl) (by exact fun _ _ _ h => h) (Or.inl ⟨by rfl, ?r21_hy1⟩) (by assumption) ?r21_rest1
      case r21_hy1 => intro w hSw; (try dsimp only at hSw); (go_simp <;> (with_reducible rfl))
      try simp only [Act.put, List.setIfInBounds_toArray, List.set_cons_zero, List.set_cons_succ]
      refine wpAnyH_take (i := 2) (v := ?r21_vv2) (by (simp only [List.getElem?_toArray, List.getElem?_cons_succ, List.getElem?_cons_zero]; rfl)) (by kernel_rfl) (by kernel_rfl) (by kernel_rfl) (by exact fun _ _ _ h => h) (Or.inl ⟨by rfl, ?r21_hy2⟩) (by assumption) ?r21_rest2
      case r21_hy2 => intro w hSw; (try dsimp only at hSw); (go_simp <;> (with_reducible rfl))
      try simp only [Act.put, List.setIfInBounds_toArray, List.set_cons_zero, List.set_cons_succ]
      refine wpAnyH_ready (rs := [3]) (by kernel_rfl) (by simp) ?_
      refine AllReadyH.cons (by (simp only [List.getElem?_toArray, List.getElem?_cons_succ, List.getElem?_cons_zero]; rfl)) (fun K hK => ?_) AllReadyH.nil
      go_simp
      (go_at_call 45; with_reducible refine (qs.out _).mono ?_; rintro e w8 ⟨rfl, rfl⟩)
      try go_wp2_with fail
      refine hK.out _ _ ?r21_hS3 (fun hHeld => ?r21_r3)
      case r21_hS3 => (try dsimp only); first | assumption | exact HS.out _ (kp0 _) | exact HS.out _ (Below.refl _ _) | exact HS.out _ (kp1 (And.left (b := _) (by assumption))) | exact HS.out _ (ext_trans (And.left (b := _) (by assumption)) (by assumption))
      clear hK K
      try simp only [Act.put, List.setIfInBounds_toArray, List.set_cons_zero, List.set_cons_succ]
      refine wpAnyH_take (i := 4) (v := ?r21_vv4) (by (simp only [List.getElem?_toArray, List.getElem?_cons_succ, List.getElem?_cons_zero]; rfl)) (by kernel_rfl) (by kernel_rfl) (by kernel_rfl) (by exact fun _ _ _ h => h) (Or.inl ⟨by rfl, ?r21_hy4⟩) (by assumption) ?r21_rest4
      case r21_hy4 => intro w hSw; (try dsimp only at hSw); (go_simp <;> (with_reducible rfl))
      try simp only [Act.put, List.setIfInBounds_toArray, List.set_cons_zero, List.set_cons_succ]
      refine wpAnyH_ready (rs := [5]) (by kernel_rfl) (by simp) ?_
      refine AllReadyH.cons (by (simp only [List.getElem?_toArray, List.getElem?_cons_succ, List.getElem?_cons_zero]; rfl)) (fun K hK => ?_) AllReadyH.nil
      go_simp
      (go_at_call 44; with_reducible refine (qi.out _).mono ?_; rintro e w9 ⟨rfl, rfl⟩)
      try go_wp2_with fail
      refine hK.out _ _ ?r21_hS5 (fun hHeld => ?r21_r5)
      case r21_hS5 => (try dsimp only); first | assumption | exact HS.out _ (kp0 _) | exact HS.out _ (Below.refl _ _) | exact HS.out _ (kp1 (And.left (b := _) (by assumption))) | exact HS.out _ (ext_trans (And.left (b := _) (by assumption)) (by assumption))
      clear hK K
      try simp only [Act.put, List.setIfInBounds_toArray, List.set_cons_zero, List.set_cons_succ]
      refine wpAnyH_take (i := 6) (v := ?r21_vv6) (by (simp only [List.getElem?_toArray, List.getElem?_cons_succ, List.getElem?_cons_zero]; rfl)) (by kernel_rfl) (by kernel_rfl) (by kernel_rfl) (by exact fun _ _ _ h => h) (Or.inl ⟨by rfl, ?r21_hy6⟩) (by assumption) ?r21_rest6
      case r21_hy6 => intro w hSw; (try dsimp only at hSw); (go_simp <;> (with_reducible rfl))
      try simp only [Act.put, List.setIfInBounds_toArray, List.set_cons_zero, List.set_cons_succ]
      refine wpAnyH_take (i := 7) (v := ?r21_vv7) (by (simp only [List.getElem?_toArray, List.getElem?_cons_succ, List.getElem?_cons_zero]; rfl)) (by kernel_rfl) (by kernel_rfl) (by kernel_rfl) (by exact fun _ _ _ h => h) (Or.inl ⟨by rfl, ?r21_hy7⟩) (by assumption) ?r21_rest7
      case r21_hy7 => intro w hSw; (try dsimp only at hSw); (go_simp <;> (with_reducible rfl))
      try simp only [Act.put, List.setIfInBounds_toArray, List.set_cons_zero, List.set_cons_succ]
      refine wpAnyH_done (by kernel_rfl) ?_ _
      go_wp2_with fail
      go_ret2
      rw [hE.out]
      exact RetC2.mk rfl (Own.nil_ _ _ _ _ _) (ext_trans HB1.out (And.left (b := _) (by assumption)))
    · have hE := Lib.hid (show basinOf w h hs gl n = ((ptsG w.toNat h.toNat).filter (fun c => drainL w h hs gl c == n), 0) from by unfold basinOf; rw [hA.out, hin]; rfl)
      rw [hin] at qi
      clear hin hA
      go_wp2_with fail
      refine wp_region_held_drew (S := (BaS w1 W.heap.size (W.heap.size + 1) n (.slice A gl.length cap))) (by kernel_rfl) ?r22_hS0 (fun hHeld => ?r22_rest)
      case r22_hS0 => (try dsimp only); first | assumption | exact HS.out _ (kp0 _) | exact HS.out _ (Below.refl _ _) | exact HS.out _ (kp1 (And.left (b := _) (by assumption))) | exact HS.out _ (ext_trans (And.left (b := _) (by assumption)) (by assumption))
      refine wpAnyH_take (i := 0) (v := ?r22_vv0) (by (simp only [List.getElem?_toArray, List.getElem?_cons_succ, List.getElem?_cons_zero]; rfl)) (by kernel_rfl) (by kernel_rfl) (by kernel_rfl) (by exact fun _ _ _ h => h) (Or.inl ⟨by rfl, ?r22_hy0⟩) (by assumption) ?r22_rest0
      case r22_hy0 => intro w hSw; (try dsimp only at hSw); (go_simp <;> (with_reducible rfl))
      try simp only [Act.put, List.setIfInBounds_toArray, List.set_cons_zero, List.set_cons_succ]
      refine wpAnyH_take (i := 1) (v := ?r22_vv1) (by (simp only [List.getElem?_toArray, List.getElem?_cons_succ, List.getElem?_cons_zero]; rfl)) (by kernel_rfl) (by kernel_rfl) (by kernel_rfl) (by exact fun _ _ _ h => h) (Or.inl ⟨by rfl, ?r22_hy1⟩) (by assumption) ?r22_rest1
      case r22_hy1 => intro w hSw; (try dsimp only at hSw); (go_simp <;> (with_reducible rfl))
      try simp only [Act.put, List.setIfInBounds_toArray, List.set_cons_zero, List.set_cons_succ]
      refine wpAnyH_take (i := 2) (v := ?r22_vv2) (by (simp only [List.getElem?_toArray, List.getElem?_cons_succ, List.getElem?_cons_zero]; rfl)) (by kernel_rfl) (by kernel_rfl) (by kernel_rfl) (by exact fun _ _ _ h => h) (Or.inl ⟨by rfl, ?r22_hy2⟩) (by assumption) ?r22_rest2
      case r22_hy2 => intro w hSw; (try dsimp only at hSw); (go_simp <;> (with_reducible rfl))
      try simp only [Act.put, List.setIfInBounds_toArray, List.set_cons_zero, List.set_cons_succ]
      refine wpAnyH_ready (rs := [3]) (by kernel_rfl) (by simp) ?_
      refine AllReadyH.cons (by (simp only [List.getElem?_toArray, List.getElem?_cons_succ, List.getElem?_cons_zero]; rfl)) (fun K hK => ?_) AllReadyH.nil
      go_simp
      (go_at_call 45; with_reducible refine (qs.out _).mono ?_; rintro e w8 ⟨rfl, rfl⟩)
      try go_wp2_with fail
      refine hK.out _ _ ?r22_hS3 (fun hHeld => ?r22_r3)
      case r22_hS3 => (try dsimp only); first | assumption | exact HS.out _ (kp0 _) | exact HS.out _ (Below.refl _ _) | exact HS.out _ (kp1 (And.left (b := _) (by assumption))) | exact HS.out _ (ext_trans (And.left (b := _) (by assumption)) (by assumption))
      clear hK K
      try simp only [Act.put, List.setIfInBounds_toArray, List.set_cons_zero, List.set_cons_succ]
      refine wpAnyH_take (i := 4) (v := ?r22_vv4) (by (simp only [List.getElem?_toArray, List.getElem?_cons_succ, List.getElem?_cons_zero]; rfl)) (by kernel_rfl) (by kernel_rfl) (by kernel_rfl) (by exact fun _ _ _ h => h) (Or.inl ⟨by rfl, ?r22_hy4⟩) (by assumption) ?r22_rest4
      case r22_hy4 => intro w hSw; (try dsimp only at hSw); (go_simp <;> (with_reducible rfl))
      try simp only [Act.put, List.setIfInBounds_toArray, List.set_cons_zero, List.set_cons_succ]
      refine wpAnyH_ready (rs := [5]) (by kernel_rfl) (by simp) ?_
      refine AllReadyH.cons (by (simp only [List.getElem?_toArray, List.getElem?_cons_succ, List.getElem?_cons_zero]; rfl)) (fun K hK => ?_) AllReadyH.nil
      go_simp
      (go_at_call 44; with_reducible refine (qi.out _).mono ?_; rintro e w9 ⟨rfl, rfl⟩)
      try go_wp2_with fail
      refine hK.out _ _ ?r22_hS5 (fun hHeld => ?r22_r5)
      case r22_hS5 => (try dsimp only); first | assumption | exact HS.out _ (kp0 _) | exact HS.out _ (Below.refl _ _) | exact HS.out _ (kp1 (And.left (b := _) (by assumption))) | exact HS.out _ (ext_trans (And.left (b := _) (by assumption)) (by assumption))
      clear hK K
      try simp only [Act.put, List.setIfInBounds_toArray, List.set_cons_zero, List.set_cons_succ]
      refine wpAnyH_take (i := 6) (v := ?r22_vv6) (by (simp only [List.getElem?_toArray, List.getElem?_cons_succ, List.getElem?_cons_zero]; rfl)) (by kernel_rfl) (by kernel_rfl) (by kernel_rfl) (by exact fun _ _ _ h => h) (Or.inl ⟨by rfl, ?r22_hy6⟩) (by assumption) ?r22_rest6
      case r22_hy6 => intro w hSw; (try dsimp only at hSw); (go_simp <;> (with_reducible rfl))
      try simp only [Act.put, List.setIfInBounds_toArray, List.set_cons_zero, List.set_cons_succ]
      refine wpAnyH_take (i := 7) (v := ?r22_vv7) (by (simp only [List.getElem?_toArray, List.getElem?_cons_succ, List.getElem?_cons_zero]; rfl)) (by kernel_rfl) (by kernel_rfl) (by kernel_rfl) (by exact fun _ _ _ h => h) (Or.inl ⟨by rfl, ?r22_hy7⟩) (by assumption) ?r22_rest7
      case r22_hy7 => intro w hSw; (try dsimp only at hSw); (go_simp <;> (with_reducible rfl))
      try simp only [Act.put, List.setIfInBounds_toArray, List.set_cons_zero, List.set_cons_succ]
      refine wpAnyH_done (by kernel_rfl) ?_ _
      have HW := Lib.hid (show Below w1.heap.size w1 w1.drew from And.left (b := _) (by assumption))
      have HB9 := Lib.hid (ext_trans HB1.out HW.out)
      have ldg9 := load_gd hl (KG1.out.ext HW.out)
      have e1 : ((w.toNat : Nat) : Int) = w := by have := ok.w0; omega
      have e2 : ((h.toNat : Nat) : Int) = h := by have := ok.h0; omega
      have qp := Lib.hid (pointsG_calls 47 #[.pointer (some ⟨W.heap.size, 0, none⟩), .pointer (some ⟨W.heap.size + 1, 0, none⟩)] (fun c => drainL w h hs gl c == n) eg w.toNat h.toNat (by have := ok.w1; omega) (by have := ok.h1; omega) hs hl (.slice A gl.length cap) w1.drew (fun c hc W' hb => basin1_calls ok hl _ W.heap.size (W.heap.size + 1) _ _ n c (by rw [← e1, ← e2]; exact hc) W' ((KG1.out.ext HW.out).ext hb) ((KN1.out.ext HW.out).ext hb) ((HQ.out.sl.ext HB9.out).ext hb)))
      rw [e1, e2] at qp
      clear e1 e2
      repeat clear hHeld
      go_wp2_with (refine wpList_load_w rfl 36 (.tmp 2) rfl _ rfl _ ldg9 ?_)
      refine qp.out.mono ?_
      rintro e w2 ⟨v2, rfl, hO2, hb2⟩
      go_wp2_with fail
      go_ret2
      rw [hE.out]
      exact RetC2.mk rfl (hO2.more HB9.out.size) (ext_trans HB9.out hb2)
theorem filt_take {α : Type} (p : α → Bool) (xs : List α) (k : Nat) (hk : k < xs.length) : (xs.take (k + 1)).filter p = if p xs[k] = true then (xs.take k).filter p ++ [xs[k]] else (xs.take k).filter p := filt_take_succ p xs k hk
set_option maxHeartbeats 1000000 in
theorem specBasinOf_calls (w h : Int) (hs : List Int) (gl : List Cell) (z : Value) (n : Int) (W : World) (hq : GdIn W w h hs gl z) (hn0 : -9223372036854775808 ≤ n) (hn1 : n ≤ 9223372036854775807) :
    Calls Try.prog 19 #[.agg (gdA w h hs z), .int .i64 n] W (RetC2 W (basinOf w h hs gl n)) := by
  have hB := ext_alloc ((Below.refl W.heap.size W).alloc (Nat.le_refl _) (.cells (gdA w h hs z) 36)) (.cells #[] 38)
  have HB := Lib.hid hB
  have KG := Lib.hid ((Bk.new W 36 (gdA w h hs z) W.heap.size rfl).alloc (.cells #[] 38))
  have hO0 := Lib.hid (Own.empty (α := Cell) (c := Cell.c) (sz := 2) (E := 38) (W.alloc (.cells (gdA w h hs z) 36)) (W.heap.size + 1) (W.heap.size + 1) (by simp) (by simp))
  have HQ := Lib.hid hq
  have hl := hq.hl
  obtain ⟨A, cap, rfl, hcap, hcap2, -⟩ := hq.sl.cell
  have wl : IntKind.i64.wrap ((gl.length : Int) - 1) = (gl.length : Int) - 1 := wrapIn _ (by omega) (by omega)
  have wl2 : wrap64 ((gl.length : Int) - 1) = (gl.length : Int) - 1 := wr64 (by omega) (by omega)
  have wl3 : IntKind.i64.wrap (gl.length : Int) = (gl.length : Int) := wrapIn _ (by omega) (by omega)
  have qi := Lib.hid (fun W' => in_calls n 0 ((gl.length : Int) - 1) W')
  have k83 := KG.out.cell 83 _ (gdA_z _ _ _ _ hl)
  have qo := Lib.hid (fun b => sAskG_calls W.heap.size _ w h hs gl (.slice A gl.length cap) b _ (hq.ext hB) KG.out)
  clear hB hq
  go_enter Try.func19, Try.ntmps19
  go_upto_region 2 with (fail)
  generalize (W.alloc (.cells (gdA w h hs (.slice A gl.length cap)) 36)).alloc (.cells #[] 38) = W1 at *
  go_wp2_with fail
  refine (qi.out _).mono ?_
  rintro e w0 ⟨rfl, rfl⟩
  go_wp2_with fail
  refine (qo.out _).mono ?_
  rintro e w1 ⟨rfl, hb1⟩
  have HB1 := Lib.hid (ext_trans HB.out hb1)
  have KG1 := Lib.hid (KG.out.ext hb1)
  have hO1 := Lib.hid (hO0.out.ext hb1)
  clear hb1 k83
  by_cases hc : askG w h hs gl (inB n 0 ((gl.length : Int) - 1)) = 0
  · have hE := Lib.hid (show basinOf w h hs gl n = ((ptsG w.toNat h.toNat).filter (fun c => drainL w h hs gl c == n), 0) from if_pos hc)
    have ok := gOk_ok (askG_ok hc).1
    have e1 : ((w.toNat : Nat) : Int) = w := by have := ok.w0; omega
    have e2 : ((h.toNat : Nat) : Int) = h := by have := ok.h0; omega
    have qa := Lib.hid (sAll_calls W.heap.size 36 w.toNat h.toNat (by have := ok.w1; omega) (by have := ok.h1; omega) hs (.slice A gl.length cap) w1 (by rw [e1, e2]; exact KG1.out))
    have hpt := Lib.hid (fun c (hcm : c ∈ ptsG w.toNat h.toNat) => show gpB w h c = true from by have := ptsG_pt _ _ c hcm; rwa [e1, e2] at this)
    have hpl := Lib.hid (show (ptsG w.toNat h.toNat).length ≤ 81 from by
      rw [ptsG_len]
      have h1 : w.toNat ≤ 9 := by have := ok.w1; omega
      have h2 : h.toNat ≤ 9 := by have := ok.h1; omega
      have : h.toNat * w.toNat ≤ 9 * 9 := Nat.mul_le_mul h2 h1
      omega)
    generalize ptsG w.toNat h.toNat = xs at *
    rw [hc]
    clear hc e1 e2
    go_wp2_with fail
    refine qa.out.mono ?_
    rintro e w2 ⟨v2, rfl, hO2, hb2⟩
    obtain ⟨A2, cap2, rfl, -, -, -⟩ := (hO2.sl Cell.c_len).cell
    have HO2 := Lib.hid hO2
    have HB2 := Lib.hid (ext_trans HB1.out hb2)
    have KG2 := Lib.hid (KG1.out.ext hb2)
    have hO12 := Lib.hid (hO1.out.ext hb2)
    have hdis := Lib.hid (show ∀ j, (Value.slice (some ⟨W.heap.size + 1, 0, none⟩) 0 0).ownBlock = some j → (Value.slice A2 xs.length cap2).ownBlock = some j → False from fun j h1 h2 => by have := hO1.out.lt j h1; have := hO2.base j h2; omega)
    clear hO2 hb2
    go_wp2_with fail
    go_loopw [6, 9] (fun o i wr => ∃ k : Nat, k ≤ xs.length ∧ i = .int .i64 (k : Int) ∧ Own wr (W.heap.size + 1) 38 Cell.c 2 o ((xs.take k).filter (fun c => drainL w h hs gl c == n)) ∧ Own wr w1.heap.size 38 Cell.c 2 (.slice A2 xs.length cap2) xs ∧ (∀ j, o.ownBlock = some j → (Value.slice A2 xs.length cap2).ownBlock = some j → False) ∧ Bk wr W.heap.size 36 (gdA w h hs (.slice A gl.length cap)) ∧ Below W.heap.size W wr) (fun _ i _ => xs.length - (intOf i).toNat)
    case atStart => exact ⟨0, by omega, rfl, by simpa using hO12.out, HO2.out, hdis.out, KG2.out, HB2.out⟩
    case round =>
      obtain ⟨k, hk, rfl, hO, hX, hD, hG, hb⟩ := hrel
      have HO := Lib.hid hO
      have HX := Lib.hid hX
      have HD := Lib.hid hD
      have HG := Lib.hid hG
      have HBr := Lib.hid hb
      clear hO hX hD hG hb
      have hp81 := hpl.out
      by_cases hlt : k < xs.length
      · obtain ⟨A3, cap3, hv, -, -, hcell⟩ := (HX.out.sl Cell.c_len).cell
        obtain ⟨rfl, rfl⟩ : A2 = A3 ∧ cap2 = cap3 := by injection hv with e1 e2 e3; exact ⟨e1, e3⟩
        obtain ⟨b2, o2, rfl, hbb, c0, c1⟩ := hcell k hlt
        have hst := Lib.hid (filt_take (fun c => drainL w h hs gl c == n) xs k hlt)
        have hle := Lib.hid (show ((xs.take k).filter (fun c => drainL w h hs gl c == n)).length ≤ 81 from Nat.le_trans (List.length_filter_le _ _) (by rw [List.length_take]; omega))
        have hqpt := hpt.out xs[k] (List.getElem_mem hlt)
        have hkd : decide ((k : Int) < (xs.length : Int)) = true := by rw [decide_eq_true_eq]; omega
        have hk0 : (0 : Int) ≤ (k : Int) := by omega
        have hk1 : (k : Int) < (xs.length : Int) := by omega
        clear hcell hv
        generalize xs[k] = c at *
        have qd := Lib.hid (sdrain_calls ok hl (.slice A gl.length cap) W.heap.size _ c hqpt wr HG.out (HQ.out.sl.ext HBr.out))
        generalize (xs.take k).filter (fun c => drainL w h hs gl c == n) = out at *
        generalize drainL w h hs gl c = D at *
        cases hd : (D == n)
        · have hs2 := Lib.hid (hst.out.trans (if_neg (by rw [hd]; decide)))
          clear hst
          go_wp2_with fail
          refine qd.out.mono ?_
          rintro e w4 ⟨rfl, hb4⟩
          have HB4 := Lib.hid hb4
          clear hb4 c0 c1
          go_wp2_with fail
          go_roundw
          case rel => exact ⟨k + 1, by omega, by go_num, by rw [hs2.out]; exact HO.out.ext HB4.out, HX.out.ext HB4.out, HD.out, HG.out.ext HB4.out, ext_trans HBr.out HB4.out⟩
          case measure => first | (simp [intOf]; done) | (simp [intOf]; omega)
        · have hs2 := Lib.hid (hst.out.trans (if_pos hd))
          clear hst
          go_wp2_with fail
          refine qd.out.mono ?_
          rintro e w4 ⟨rfl, hb4⟩
          have HO4 := Lib.hid (HO.out.ext hb4)
          have HX4 := Lib.hid (HX.out.ext hb4)
          have HG4 := Lib.hid (HG.out.ext hb4)
          have HB4 := Lib.hid (ext_trans HBr.out hb4)
          have d0 := (hb4.cell (p := ⟨b2, _, none⟩) hbb).trans c0
          have d1 := (hb4.cell (p := ⟨b2, _, none⟩) hbb).trans c1
          clear hb4 c0 c1
          have HBa := Lib.hid (HB4.out.alloc HB4.out.size (.cells #[.int .i8 c.x, .int .i8 c.y] 38))
          have HXa := Lib.hid (HX4.out.alloc (.cells #[.int .i8 c.x, .int .i8 c.y] 38))
          have HGa := Lib.hid (HG4.out.alloc (.cells #[.int .i8 c.x, .int .i8 c.y] 38))
          go_wp2_with (at_builtin; refine push_cellat rfl _ _ rfl (W.heap.size + 1) out _ rfl (HO4.out.alloc _) _ c rfl (Bk.new _ _ _ _ (by simp)) (by have := hle.out; omega) (Nat.le_trans HG4.out.lt (by simp)) ?_)
          intro v6 w6 hO6 hG6 hat
          have HB6 := Lib.hid (HBa.out.grown hG6 HBa.out.size (fun j hj => by have := HO4.out.base j hj; omega))
          have HX6 := Lib.hid (HXa.out.keep (fun j hj => hG6.block j (HXa.out.lt j hj) (fun e => HD.out j e.symm hj)))
          have HG6 := Lib.hid (show Bk w6 W.heap.size _ _ from (hG6.block _ HGa.out.lt (fun e => by have := HO4.out.base _ e.symm; omega)).trans HGa.out)
          have HD6 := Lib.hid (show ∀ j, v6.ownBlock = some j → (Value.slice (some ⟨b2, o2, none⟩) xs.length cap2).ownBlock = some j → False from fun j h1 h2 => by
            rcases hat with he | he
            · exact HD.out j (he ▸ h1) h2
            · rw [he] at h1
              injection h1 with h1
              have := HX4.out.lt j h2
              try simp at h1
              omega)
          rw [← hs2.out] at hO6
          have HO6 := Lib.hid hO6
          clear hO6 hG6 hat d0 d1
          go_wp2_with fail
          go_roundw
          case rel => exact ⟨k + 1, by omega, by go_num, HO6.out, HX6.out, HD6.out, HG6.out, HB6.out⟩
          case measure => first | (simp [intOf]; done) | (simp [intOf]; omega)
      · obtain rfl : k = xs.length := by omega
        have hkd : decide ((xs.length : Int) < (xs.length : Int)) = false := by rw [decide_eq_false_iff_not]; omega
        rw [List.take_length] at HO
        go_wp2_with fail
        go_ret2
        rw [hE.out]
        exact RetC2.mk rfl (HO.out.more (by omega)) HBr.out
  · have hE := Lib.hid (show basinOf w h hs gl n = ([], askG w h hs gl (inB n 0 ((gl.length : Int) - 1))) from if_neg hc)
    have hcb : (askG w h hs gl (inB n 0 ((gl.length : Int) - 1)) == 0) = false := by simpa using hc
    have hcb2 : (askG w h hs gl (inB n 0 ((gl.length : Int) - 1)) != 0) = true := by simpa using hc
    generalize askG w h hs gl (inB n 0 ((gl.length : Int) - 1)) = C at *
    clear hc
    go_wp2_with fail
    go_ret2
    rw [hE.out]
    exact RetC2.mk rfl (hO1.out.more (by omega)) HB1.out
end Go.Proofs.Ytipcmakidifelaa
