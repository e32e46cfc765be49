/-
Grounds: the gully in which water goes away, of both. Conditions: the ground is valid, the point is a point.
-/
import Derived.Test.YtipcmakidifelaaGD10
set_option linter.unusedVariables false
set_option linter.unusedSimpArgs false
set_option maxRecDepth 100000
namespace Go.Proofs.Ytipcmakidifelaa
open Go.RowKit
def lastC (xs : List Cell) : Cell := xs.getD (xs.length - 1) ⟨0, 0⟩
def drainL (w h : Int) (hs : List Int) (gl : List Cell) (c : Cell) : Int := findI (fun y => y == lastC (runL w h hs gl c)) gl
theorem lastC_at {xs : List Cell} {m : Nat} (h : xs.length = m + 1) : ∃ hm : m < xs.length, xs[m] = lastC xs := by
  refine ⟨by omega, ?_⟩
  unfold lastC
  have e : xs.length - 1 = m := by omega
  rw [e, List.getD_eq_getElem?_getD, List.getElem?_eq_getElem (by omega)]
  rfl
abbrev DrS (W0 : World) (b b2 o1 : Nat) (z : Value) (q : Cell) (w' : World) : Prop :=
  Below W0.heap.size W0 w' ∧ w'.cell? ⟨b, 83, none⟩ = some z ∧ w'.cell? ⟨b2, o1, none⟩ = some (.int .i8 q.x) ∧ w'.cell? ⟨b2, o1 + 1, none⟩ = some (.int .i8 q.y)
theorem DrS.first {W0 : World} {b b2 o1 : Nat} {w h : Int} {hs : List Int} {z : Value} {q : Cell} {T : TypeId} (hl : hs.length = 81) (hb : Bk W0 b T (gdA w h hs z)) (hb1 : b2 < W0.heap.size) (c0 : W0.cell? ⟨b2, o1, none⟩ = some (.int .i8 q.x)) (c1 : W0.cell? ⟨b2, o1 + 1, none⟩ = some (.int .i8 q.y)) (w' : World) (k : Below W0.heap.size W0 w') : DrS W0 b b2 o1 z q w' :=
  ⟨k, (hb.ext k).cell 83 _ (gdA_z _ _ _ _ hl), (k.cell (p := ⟨b2, o1, none⟩) hb1).trans c0, (k.cell (p := ⟨b2, o1 + 1, none⟩) hb1).trans c1⟩
set_option maxHeartbeats 1000000 in
theorem drain_calls {w h : Int} {hs : List Int} {gl : List Cell} (ok : GOk w h hs gl) (hl : hs.length = 81) (z : Value) (p : Cell) (hp : gpB w h p = true) (W : World) (hz : Sl W W.heap.size Cell.c 2 z gl) :
    Calls Try.prog 48 #[.agg (gdA w h hs z), .agg #[.int .i8 p.x, .int .i8 p.y]] W fun e w' => e = .returned (.int .i64 (drainL w h hs gl p)) ∧ Below W.heap.size W w' := by
  have hB := ext_alloc ((Below.refl W.heap.size W).alloc (Nat.le_refl _) (.cells (gdA w h hs z) 36)) (.cells #[.int .i8 p.x, .int .i8 p.y] 38)
  have HB := Lib.hid hB
  have KG := Lib.hid ((Bk.new W 36 (gdA w h hs z) W.heap.size rfl).alloc (.cells #[.int .i8 p.x, .int .i8 p.y] 38))
  have qr := Lib.hid (run_calls ok hl z p hp _ (hz.ext hB))
  have HZ := Lib.hid hz
  obtain ⟨A, cap, rfl, -, -, -⟩ := hz.cell
  have ldg := load_gd hl KG.out
  have hlen := Lib.hid (runF_len (f := stepL w h hs gl) 201 p)
  have hR := Lib.hid (show drainL w h hs gl p = findI (fun y => y == lastC (runL w h hs gl p)) gl from rfl)
  have hRR := Lib.hid (show runL w h hs gl p = runF (stepL w h hs gl) 201 p from rfl)
  rw [← hRR.out] at hlen
  clear hB hz hRR
  go_enter Try.func48, Try.ntmps48
  go_wp2_with (refine wpList_load_w rfl 36 (.tmp 2) rfl _ rfl _ ldg ?_)
  refine qr.out.mono ?_
  rintro e w1 ⟨v1, rfl, hO1, hb1⟩
  obtain ⟨m, hm⟩ : ∃ m, (runL w h hs gl p).length = m + 1 := ⟨(runL w h hs gl p).length - 1, by have := hlen.out; omega⟩
  obtain ⟨hm1, hlast⟩ := lastC_at hm
  obtain ⟨A1, cap1, rfl, -, -, hcell⟩ := (hO1.sl Cell.c_len).cell
  obtain ⟨b2, o2, rfl, hb2, c0, c1⟩ := hcell m hm1
  have hm202 : m ≤ 201 := by have := hlen.out; omega
  rw [hlast] at c0 c1
  rw [hm]
  have HB1 := Lib.hid (ext_trans HB.out hb1)
  have KG1 := Lib.hid (KG.out.ext hb1)
  have HS := Lib.hid (DrS.first hl KG1.out hb2 c0 c1)
  have qi := Lib.hid (fun W' (hb : Below W.heap.size W W') => indexCell gl (.slice A gl.length cap) (lastC (runL w h hs gl p)) W' (HZ.out.ext hb))
  unfold Cell.v at qi
  generalize lastC (runL w h hs gl p) = q at *
  have hm2 : ((m + 1 : Nat) : Int) - 1 = (m : Int) := by omega
  have hm3 : IntKind.i64.wrap (m : Int) = (m : Int) := wrapIn _ (by omega) (by omega)
  have hm4 : (0 : Int) ≤ (m : Int) := by omega
  have hm5 : (m : Int) < ((m + 1 : Nat) : Int) := by omega
  have hm6 : (m : Int) < (m : Int) + 1 := by omega
  have hm7 : wrap64 (m : Int) = (m : Int) := wr64 (by omega) (by omega)
  clear hcell hO1 hb1 ldg hlast hm hm1 c0 c1 qr
  go_wp2_with fail
  refine wp_region_held_drew (S := (DrS w1 W.heap.size b2 (o2 + m * 2) (.slice A gl.length cap) q)) (by kernel_rfl) ?r18_hS0 (fun hHeld => ?r18_rest)
  case r18_hS0 => (try dsimp only); first | assumption | exact HS.out _ (kp0 _) | exact HS.out _ (Below.refl _ _) | exact HS.out _ (kp1 (And.left (b := _) (by assumption))) | exact HS.out _ (ext_trans (And.left (b := _) (by assumption)) (by assumption))
  refine wpAnyH_take (i := 0) (v := ?r18_vv0) (by (simp only [List.getElem?_toArray, List.getElem?_cons_succ, List.getElem?_cons_zero]; rfl)) (by kernel_rfl) (by kernel_rfl) (by kernel_rfl) (by exact fun _ _ _ h => h) (Or.inl ⟨by rfl, ?r18_hy0⟩) (by assumption) ?r18_rest0
  case r18_hy0 => intro w hSw; (try dsimp only at hSw); (go_simp <;> (with_reducible rfl))
  try simp only [Act.put, List.setIfInBounds_toArray, List.set_cons_zero, List.set_cons_succ]
  refine wpAnyH_take (i := 1) (v := ?r18_vv1) (by (simp only [List.getElem?_toArray, List.getElem?_cons_succ, List.getElem?_cons_zero]; rfl)) (by kernel_rfl) (by kernel_rfl) (by kernel_rfl) (by exact fun _ _ _ h => h) (Or.inl ⟨by rfl, ?r18_hy1⟩) (by assumption) ?r18_rest1
  case r18_hy1 => intro w hSw; (try dsimp only at hSw); (go_simp <;> (with_reducible rfl))
  try simp only [Act.put, List.setIfInBounds_toArray, List.set_cons_zero, List.set_cons_succ]
  refine wpAnyH_take (i := 2) (v := ?r18_vv2) (by (simp only [List.getElem?_toArray, List.getElem?_cons_succ, List.getElem?_cons_zero]; rfl)) (by kernel_rfl) (by kernel_rfl) (by kernel_rfl) (by exact fun _ _ _ h => h) (Or.inl ⟨by rfl, ?r18_hy2⟩) (by assumption) ?r18_rest2
  case r18_hy2 => intro w hSw; (try dsimp only at hSw); (go_simp <;> (with_reducible rfl))
  try simp only [Act.put, List.setIfInBounds_toArray, List.set_cons_zero, List.set_cons_succ]
  refine wpAnyH_take (i := 3) (v := ?r18_vv3) (by (simp only [List.getElem?_toArray, List.getElem?_cons_succ, List.getElem?_cons_zero]; rfl)) (by kernel_rfl) (by kernel_rfl) (by kernel_rfl) (by exact fun _ _ _ h => h) (Or.inl ⟨by rfl, ?r18_hy3⟩) (by assumption) ?r18_rest3
  case r18_hy3 => intro w hSw; (try dsimp only at hSw); (go_simp <;> (with_reducible rfl))
  try simp only [Act.put, List.setIfInBounds_toArray, List.set_cons_zero, List.set_cons_succ]
  refine wpAnyH_take (i := 4) (v := ?r18_vv4) (by (simp only [List.getElem?_toArray, List.getElem?_cons_succ, List.getElem?_cons_zero]; rfl)) (by kernel_rfl) (by kernel_rfl) (by kernel_rfl) (by exact fun _ _ _ h => h) (Or.inl ⟨by rfl, ?r18_hy4⟩) (by assumption) ?r18_rest4
  case r18_hy4 => intro w hSw; (try dsimp only at hSw); (go_simp <;> (with_reducible rfl))
  try simp only [Act.put, List.setIfInBounds_toArray, List.set_cons_zero, List.set_cons_succ]
  refine wpAnyH_take (i := 5) (v := ?r18_vv5) (by (simp only [List.getElem?_toArray, List.getElem?_cons_succ, List.getElem?_cons_zero]; rfl)) (by kernel_rfl) (by kernel_rfl) (by kernel_rfl) (by exact fun _ _ _ h => h) (Or.inl ⟨by rfl, ?r18_hy5⟩) (by assumption) ?r18_rest5
  case r18_hy5 => intro w hSw; (try dsimp only at hSw); (go_simp <;> (with_reducible rfl))
  try simp only [Act.put, List.setIfInBounds_toArray, List.set_cons_zero, List.set_cons_succ]
  refine wpAnyH_take (i := 6) (v := ?r18_vv6) (by (simp only [List.getElem?_toArray, List.getElem?_cons_succ, List.getElem?_cons_zero]; rfl)) (by kernel_rfl) (by kernel_rfl) (by kernel_rfl) (by exact fun _ _ _ h => h) (Or.inl ⟨by rfl, ?r18_hy6⟩) (by assumption) ?r18_rest6
  case r18_hy6 => intro w hSw; (try dsimp only at hSw); (go_simp <;> (with_reducible rfl))
  try simp only [Act.put, List.setIfInBounds_toArray, List.set_cons_zero, List.set_cons_succ]
  refine wpAnyH_take (i := 7) (v := ?r18_vv7) (by (simp only [List.getElem?_toArray, List.getElem?_cons_succ, List.getElem?_cons_zero]; rfl)) (by kernel_rfl) (by kernel_rfl) (by kernel_rfl) (by exact fun _ _ _ h => h) (Or.inl ⟨by rfl, ?r18_hy7⟩) (by assumption) ?r18_rest7
  case r18_hy7 => intro w hSw; (try dsimp only at hSw); (go_simp <;> (with_reducible rfl))
  try simp only [Act.put, List.setIfInBounds_toArray, List.set_cons_zero, List.set_cons_succ]
  refine wpAnyH_ready (rs := [8]) (by kernel_rfl) (by simp) ?_
  refine AllReadyH.cons (by (simp only [List.getElem?_toArray, List.getElem?_cons_succ, List.getElem?_cons_zero]; rfl)) (fun K hK => ?_) AllReadyH.nil
  go_simp
  (go_at_call 70; with_reducible refine (qi.out _ (ext_trans HB1.out (And.left (b := _) (by assumption)))).mono ?_; rintro e w8 ⟨rfl, hb8⟩)
  try go_wp2_with fail
  refine hK.out _ _ ?r18_hS8 (fun hHeld => ?r18_r8)
  case r18_hS8 => (try dsimp only); first | assumption | exact HS.out _ (kp0 _) | exact HS.out _ (Below.refl _ _) | exact HS.out _ (kp1 (And.left (b := _) (by assumption))) | exact HS.out _ (ext_trans (And.left (b := _) (by assumption)) (by assumption))
  clear hK K
  try simp only [Act.put, List.setIfInBounds_toArray, List.set_cons_zero, List.set_cons_succ]
  refine wpAnyH_take (i := 9) (v := ?r18_vv9) (by (simp only [List.getElem?_toArray, List.getElem?_cons_succ, List.getElem?_cons_zero]; rfl)) (by kernel_rfl) (by kernel_rfl) (by kernel_rfl) (by exact fun _ _ _ h => h) (Or.inl ⟨by rfl, ?r18_hy9⟩) (by assumption) ?r18_rest9
  case r18_hy9 => intro w hSw; (try dsimp only at hSw); (go_simp <;> (with_reducible rfl))
  try simp only [Act.put, List.setIfInBounds_toArray, List.set_cons_zero, List.set_cons_succ]
  refine wpAnyH_done (by kernel_rfl) ?_ _
  go_wp2_with fail
  go_ret
  exact ⟨ret_int hR.out.symm, ext_trans HB1.out (And.left (b := _) (by assumption))⟩
set_option maxHeartbeats 1000000 in
theorem sdrain_calls {w h : Int} {hs : List Int} {gl : List Cell} (ok : GOk w h hs gl) (hl : hs.length = 81) (z : Value) (g : Nat) (T : TypeId) (p : Cell) (hp : gpB w h p = true) (W : World) (hg : Bk W g T (gdA w h hs z)) (hz : Sl W W.heap.size Cell.c 2 z gl) :
    Calls Try.prog 42 #[.pointer (some ⟨g, 0, none⟩), .agg #[.int .i8 p.x, .int .i8 p.y]] W fun e w' => e = .returned (.int .i64 (drainL w h hs gl p)) ∧ Below W.heap.size W w' := by
  have hB := (Below.refl W.heap.size W).alloc (Nat.le_refl _) (.cells #[.int .i8 p.x, .int .i8 p.y] 38)
  have HB := Lib.hid hB
  have qr := Lib.hid (srun_calls ok hl z g T p hp _ (hg.ext hB) (hz.ext hB))
  have HZ := Lib.hid hz
  have HG := Lib.hid hg
  have hlen := Lib.hid (runF_len (f := stepL w h hs gl) 201 p)
  have hR := Lib.hid (show drainL w h hs gl p = findI (fun y => y == lastC (runL w h hs gl p)) gl from rfl)
  have hRR := Lib.hid (show runL w h hs gl p = runF (stepL w h hs gl) 201 p from rfl)
  rw [← hRR.out] at hlen
  clear hB hz hRR hg
  go_enter Try.func42, Try.ntmps42
  go_wp2_with fail
  refine qr.out.mono ?_
  rintro e w1 ⟨v1, rfl, hO1, hb1⟩
  obtain ⟨m, hm⟩ : ∃ m, (runL w h hs gl p).length = m + 1 := ⟨(runL w h hs gl p).length - 1, by have := hlen.out; omega⟩
  obtain ⟨hm1, hlast⟩ := lastC_at hm
  obtain ⟨A1, cap1, rfl, -, -, hcell⟩ := (hO1.sl Cell.c_len).cell
  obtain ⟨b2, o2, rfl, hb2, c0, c1⟩ := hcell m hm1
  have hm202 : m ≤ 201 := by have := hlen.out; omega
  rw [hlast] at c0 c1
  rw [hm]
  have HB1 := Lib.hid (ext_trans HB.out hb1)
  have qi := Lib.hid (sgully_calls g T w h hs hl gl z (lastC (runL w h hs gl p)) w1 (HG.out.ext HB1.out) (HZ.out.ext HB1.out))
  unfold Cell.v at qi
  generalize lastC (runL w h hs gl p) = q at *
  have hm2 : ((m + 1 : Nat) : Int) - 1 = (m : Int) := by omega
  have hm3 : IntKind.i64.wrap (m : Int) = (m : Int) := wrapIn _ (by omega) (by omega)
  have hm4 : (0 : Int) ≤ (m : Int) := by omega
  have hm5 : (m : Int) < ((m + 1 : Nat) : Int) := by omega
  have hm6 : (m : Int) < (m : Int) + 1 := by omega
  have hm7 : wrap64 (m : Int) = (m : Int) := wr64 (by omega) (by omega)
  clear hcell hO1 hb1 hlast hm hm1 qr
  go_wp2_with fail
  refine qi.out.mono ?_
  rintro e w2 ⟨rfl, hb2⟩
  go_wp2_with fail
  go_ret
  exact ⟨ret_int hR.out.symm, ext_trans HB1.out hb2⟩
end Go.Proofs.Ytipcmakidifelaa
