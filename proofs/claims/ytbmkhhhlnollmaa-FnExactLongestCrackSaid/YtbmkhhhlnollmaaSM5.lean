/-
MeetOf of the program. Conditions: numbers are of their kinds; slices can be read; the two are no longer than 2^20.
-/
import Derived.Test.YtbmkhhhlnollmaaSM4
set_option linter.unusedVariables false
set_option linter.unusedSimpArgs false
set_option maxRecDepth 100000
namespace Go.Proofs.Ytbmkhhhlnollmaa
open Go.RowKit
theorem cell_ret2 {P : Program} {fn : Func} {g2 t : Nat} {R : Ending → World → Prop} {a : Act} {W : World} {T : TypeId} {d : TypeDesc} (hr : fn.results = #[.cell g2 T, .tmp t]) {p : Nat} (hp : a.tmps.getD g2 undef = .pointer (some ⟨p, 0, none⟩)) {cs : Array Value} {T' : TypeId} (hb : Bk W p T' cs)
    (hu : P.underlying T = some d) (hrow : d.isRow = true) (hi : (P.info? T).map (·.size) = some cs.size) (hd : a.defers = []) (hR : R (.returned (.tuple #[.agg cs, a.tmps.getD t undef])) W) : bodyPost P fn R .ret a W := by
  refine bodyPost_ret (v := .tuple #[.agg cs, a.tmps.getD t undef]) ?_ hd hR
  have := run_loadVar_mid (P := P) W p 0 T cs.toList _ (fun j v hj => by rw [Nat.zero_add]; exact hb.cell j v (by simpa using hj)) hu hrow (by simpa using hi)
  have hp2 : a.tmps[g2]?.getD undef = .pointer (some ⟨p, 0, none⟩) := by simpa using hp
  simp [results, hr, hp2, this, asAddr, Sem.run_bind, Result.andThen]
def meetC (w h : Int) (sl : List Slab) (xs ys : List Cell) : Int := if cornC w h sl (xs ++ ys) = 0 then (if (crkB sl xs && crkB sl ys) = true then 0 else 4) else cornC w h sl (xs ++ ys)
def meetOf (w h : Int) (sl : List Slab) (xs ys : List Cell) : Cell × Int :=
  if meetC w h sl xs ys = 0 then (if findI (fun x => decide (x ∈ ys)) xs < 0 then (⟨0, 0⟩, 6) else (xs.getD (findI (fun x => decide (x ∈ ys)) xs).toNat ⟨0, 0⟩, 0)) else (⟨0, 0⟩, meetC w h sl xs ys)
theorem res_set {W w : World} {b : Nat} {T : TypeId} {x0 y0 : Value} (K : Bk w b T #[x0, y0]) (hB : Below W.heap.size W w) (hb : W.heap.size ≤ b) (x y : Int) :
    Bk ((w.setCell ⟨b, 0, none⟩ (.int .i8 x)).setCell ⟨b, 1, none⟩ (.int .i8 y)) b T #[.int .i8 x, .int .i8 y] ∧ Below W.heap.size W ((w.setCell ⟨b, 0, none⟩ (.int .i8 x)).setCell ⟨b, 1, none⟩ (.int .i8 y)) :=
  ⟨by simpa using (K.set 0 (.int .i8 x)).set 1 (.int .i8 y), hB.grown ((gby_set w b 0 (.int .i8 x)).trans (gby_set (w.setCell ⟨b, 0, none⟩ (.int .i8 x)) b 1 (.int .i8 y))) hB.size (fun j hj => by injection hj with hj; omega)⟩
abbrev CmS (W0 : World) (d : Nat) (w h : Int) (z : Value) (c : Nat) (u : Value) (w' : World) : Prop :=
  Below W0.heap.size W0 w' ∧ w'.cell? ⟨d, 0, none⟩ = some (.int .i8 w) ∧ w'.cell? ⟨d, 1, none⟩ = some (.int .i8 h) ∧ w'.cell? ⟨d, 2, none⟩ = some z ∧ w'.cell? ⟨c, 0, none⟩ = some u
theorem CmS.keep {W0 w1 w2 : World} {d c : Nat} {w h : Int} {z u : Value} (hd : d < W0.heap.size) (hc : c < W0.heap.size) (hS : CmS W0 d w h z c u w1) (k : Below w1.heap.size w1 w2) : CmS W0 d w h z c u w2 := by
  obtain ⟨h0, h1, h2, h3, h4⟩ := hS
  have r : ∀ o, w2.cell? ⟨d, o, none⟩ = w1.cell? ⟨d, o, none⟩ := fun o => k.cell (p := ⟨d, o, none⟩) (Nat.lt_of_lt_of_le hd h0.size)
  have q : ∀ o, w2.cell? ⟨c, o, none⟩ = w1.cell? ⟨c, o, none⟩ := fun o => k.cell (p := ⟨c, o, none⟩) (Nat.lt_of_lt_of_le hc h0.size)
  exact ⟨ext_trans h0 k, (r _).trans h1, (r _).trans h2, (r _).trans h3, (q _).trans h4⟩
theorem meetFn (ys : List Cell) (A : Option Addr) (cap b : Nat) (W : World) (hb : b < W.heap.size) (hc : W.cell? ⟨b, 0, none⟩ = some (.slice A ys.length cap)) (hs : Sl W W.heap.size Cell.c 2 (.slice A ys.length cap) ys) (x : Cell) :
    Tells Try.prog 70 #[.pointer (some ⟨b, 0, none⟩)] Cell.v (fun x => decide (x ∈ ys)) W x := by
  intro W' hW
  have hc' := (hW.cell (p := ⟨b, _, none⟩) hb).trans hc
  have hB := (Below.refl W'.heap.size W').alloc (Nat.le_refl _) (.cells #[.int .i8 x.x, .int .i8 x.y] 36)
  have hc2 := (hB.cell (p := ⟨b, 0, none⟩) (Nat.lt_of_lt_of_le hb hW.size)).trans hc'
  have HB := Lib.hid hB
  have qc := Lib.hid (containsCell ys _ x _ ((hs.ext hW).ext hB))
  clear hB hc
  unfold Cell.v at *
  go_enter Try.func70, Try.ntmps70
  go_wp2_with fail
  refine qc.out.mono ?_
  rintro e w1 ⟨rfl, hb1⟩
  go_wp2_with fail
  go_ret
  exact ⟨rfl, ext_trans HB.out hb1⟩
set_option maxHeartbeats 2000000 in
theorem implMeetOf_calls (w h : Int) (z : Value) (sl : List Slab) (xs ys : List Cell) (hx : ∀ x ∈ xs, x.ok) (hy : ∀ x ∈ ys, x.ok) (v u : Value) (W : World) (hq : SqIn W w h z sl) (hs : Sl W W.heap.size Cell.c 2 v xs) (ht : Sl W W.heap.size Cell.c 2 u ys) (hn : xs.length ≤ 1048576) (hm : ys.length ≤ 1048576) :
    Calls Try.prog 27 #[sqv w h z, v, u] W fun e w' => e = .returned (.tuple #[(meetOf w h sl xs ys).1.v, .int .i64 (meetOf w h sl xs ys).2]) ∧ Below W.heap.size W w' := by
  obtain ⟨A, cap, hz, -, -, -⟩ := hq.sl.slab
  subst hz
  have HXs := Lib.hid hs
  obtain ⟨A1, cap1, rfl, -, -, hcell⟩ := hs.cell
  obtain ⟨A2, cap2, rfl, -, -, -⟩ := ht.cell
  have hB := ext_alloc (ext_alloc ((Below.refl W.heap.size W).alloc (Nat.le_refl _) (.cells #[.int .i8 w, .int .i8 h, .slice A sl.length cap] 34)) (.cells #[.slice A2 ys.length cap2] 47)) (.cells #[.int .i8 0, .int .i8 0] 36)
  have HB := Lib.hid hB
  have HQ := Lib.hid (hq.ext hB)
  have HS := Lib.hid (hs.ext hB)
  have HT := Lib.hid (ht.ext hB)
  have K0 := Lib.hid (((Bk.new W 34 #[.int .i8 w, .int .i8 h, .slice A sl.length cap] W.heap.size rfl).alloc (.cells #[.slice A2 ys.length cap2] 47)).alloc (.cells #[.int .i8 0, .int .i8 0] 36))
  have K1 := Lib.hid ((Bk.new (W.alloc (.cells #[.int .i8 w, .int .i8 h, .slice A sl.length cap] 34)) 47 #[.slice A2 ys.length cap2] (W.heap.size + 1) (by simp)).alloc (.cells #[.int .i8 0, .int .i8 0] 36))
  have K2 := Lib.hid (Bk.new ((W.alloc (.cells #[.int .i8 w, .int .i8 h, .slice A sl.length cap] 34)).alloc (.cells #[.slice A2 ys.length cap2] 47)) 36 #[.int .i8 0, .int .i8 0] (W.heap.size + 1 + 1) (by simp))
  have HX := Lib.hid hx
  have HY := Lib.hid hy
  have hxy := Lib.hid (show ∀ x ∈ xs ++ ys, x.ok from fun x h => (List.mem_append.1 h).elim (hx x) (hy x))
  have eg := Lib.hid (enters_of Try.func70 (by kernel_rfl) rfl)
  obtain ⟨R, hR0⟩ : ∃ R, R = meetOf w h sl xs ys := ⟨_, rfl⟩
  rw [← hR0]
  have hR := Lib.hid hR0
  clear hR0 hB hs ht hq hx hy
  unfold sqv
  go_enter Try.func27, Try.ntmps27
  go_wp2_with fail
  generalize ((W.alloc (.cells #[.int .i8 w, .int .i8 h, .slice A sl.length cap] 34)).alloc (.cells #[.slice A2 ys.length cap2] 47)).alloc (.cells #[.int .i8 0, .int .i8 0] 36) = W1 at *
  have hl1 := K0.out.lt
  have hl2 := K1.out.lt
  have hS : CmS W1 W.heap.size w h (.slice A sl.length cap) (W.heap.size + 1) (.slice A2 ys.length cap2) W1 := ⟨Below.refl _ _, K0.out.cell 0 _ rfl, K0.out.cell 1 _ rfl, K0.out.cell 2 _ rfl, K1.out.cell 0 _ rfl⟩
  refine wp_region_held_drew (S := (CmS W1 W.heap.size w h (.slice A sl.length cap) (W.heap.size + 1) (.slice A2 ys.length cap2))) (by kernel_rfl) ?r1_hS0 (fun hHeld => ?r1_rest)
  case r1_hS0 => (try dsimp only); first | assumption | exact CmS.keep hl1 hl2 (by assumption) ((Below.refl _ _).drew) | exact CmS.keep hl1 hl2 (by assumption) (by assumption) | exact CmS.keep hl1 hl2 (by assumption) ((Below.refl _ _).alloc (Nat.le_refl _) _)
  refine wpAnyH_take (i := 0) (v := ?r1_vv0) (by (simp only [List.getElem?_toArray, List.getElem?_cons_succ, List.getElem?_cons_zero]; rfl)) (by kernel_rfl) (by kernel_rfl) (by kernel_rfl) (by exact fun _ _ _ h => h) (Or.inl ⟨by rfl, ?r1_hy0⟩) (by assumption) ?r1_rest0
  case r1_hy0 => intro w hSw; (try dsimp only at hSw); (go_simp <;> (with_reducible rfl))
  try simp only [Act.put, List.setIfInBounds_toArray, List.set_cons_zero, List.set_cons_succ]
  refine wpAnyH_take (i := 1) (v := ?r1_vv1) (by (simp only [List.getElem?_toArray, List.getElem?_cons_succ, List.getElem?_cons_zero]; rfl)) (by kernel_rfl) (by kernel_rfl) (by kernel_rfl) (by exact fun _ _ _ h => h) (Or.inl ⟨by rfl, ?r1_hy1⟩) (by assumption) ?r1_rest1
  case r1_hy1 => intro w hSw; (try dsimp only at hSw); (go_simp <;> (with_reducible rfl))
  try simp only [Act.put, List.setIfInBounds_toArray, List.set_cons_zero, List.set_cons_succ]
  refine wpAnyH_take (i := 2) (v := ?r1_vv2) (by (simp only [List.getElem?_toArray, List.getElem?_cons_succ, List.getElem?_cons_zero]; rfl)) (by kernel_rfl) (by kernel_rfl) (by kernel_rfl) (by exact fun _ _ _ h => h) (Or.inl ⟨by rfl, ?r1_hy2⟩) (by assumption) ?r1_rest2
  case r1_hy2 => intro w hSw; (try dsimp only at hSw); (go_simp <;> (with_reducible rfl))
  try simp only [Act.put, List.setIfInBounds_toArray, List.set_cons_zero, List.set_cons_succ]
  refine wpAnyH_ready (rs := [3]) (by kernel_rfl) (by simp) ?_
  refine AllReadyH.cons (by (simp only [List.getElem?_toArray, List.getElem?_cons_succ, List.getElem?_cons_zero]; rfl)) (fun K hK => ?_) AllReadyH.nil
  go_simp
  skip
  try go_wp2_with fail
  refine hK.out _ _ ?r1_hS3 (fun hHeld => ?r1_r3)
  case r1_hS3 => (try dsimp only); first | assumption | exact CmS.keep hl1 hl2 (by assumption) ((Below.refl _ _).drew) | exact CmS.keep hl1 hl2 (by assumption) (by assumption) | exact CmS.keep hl1 hl2 (by assumption) ((Below.refl _ _).alloc (Nat.le_refl _) _)
  clear hK K
  try simp only [Act.put, List.setIfInBounds_toArray, List.set_cons_zero, List.set_cons_succ]
  refine wpAnyH_ready (rs := [4]) (by kernel_rfl) (by simp) ?_
  refine AllReadyH.cons (by (simp only [List.getElem?_toArray, List.getElem?_cons_succ, List.getElem?_cons_zero]; rfl)) (fun K hK => ?_) AllReadyH.nil
  go_simp
  (go_at_call 67; refine (concat_calls xs ys _ _ _ _ (by first | exact (HS.out.ext ((Below.refl _ _).drew)).alloc _ | exact (HS.out.alloc _).ext ((Below.refl _ _).drew)) (by first | exact (HT.out.ext ((Below.refl _ _).drew)).alloc _ | exact (HT.out.alloc _).ext ((Below.refl _ _).drew)) (by first | exact Bk.new _ _ _ _ (by simp) | exact (Bk.new _ _ _ _ (by simp)).ext ((Below.refl _ _).drew)) hn hm).mono ?_; rintro e w4 ⟨v4, rfl, hO4, hb4⟩)
  try go_wp2_with fail
  refine hK.out _ _ ?r1_hS4 (fun hHeld => ?r1_r4)
  case r1_hS4 => (try dsimp only); first | assumption | exact CmS.keep hl1 hl2 (by assumption) ((Below.refl _ _).drew) | exact CmS.keep hl1 hl2 (by assumption) (by assumption) | exact CmS.keep hl1 hl2 (by assumption) ((Below.refl _ _).alloc (Nat.le_refl _) _)
  clear hK K
  try simp only [Act.put, List.setIfInBounds_toArray, List.set_cons_zero, List.set_cons_succ]
  refine wpAnyH_ready (rs := [5]) (by kernel_rfl) (by simp) ?_
  refine AllReadyH.cons (by (simp only [List.getElem?_toArray, List.getElem?_cons_succ, List.getElem?_cons_zero]; rfl)) (fun K hK => ?_) AllReadyH.nil
  go_simp
  (go_at_call 61; refine (cornerCode_calls w h _ sl (xs ++ ys) hxy.out v4 w4 (HQ.out.ext (And.left (b := _) (by assumption))) (hO4.sl Cell.c_len)).mono ?_; rintro e w5 ⟨rfl, hb5⟩)
  try go_wp2_with fail
  refine hK.out _ _ ?r1_hS5 (fun hHeld => ?r1_r5)
  case r1_hS5 => (try dsimp only); first | assumption | exact CmS.keep hl1 hl2 (by assumption) ((Below.refl _ _).drew) | exact CmS.keep hl1 hl2 (by assumption) (by assumption) | exact CmS.keep hl1 hl2 (by assumption) ((Below.refl _ _).alloc (Nat.le_refl _) _)
  clear hK K
  try simp only [Act.put, List.setIfInBounds_toArray, List.set_cons_zero, List.set_cons_succ]
  refine wpAnyH_take (i := 6) (v := ?r1_vv6) (by (simp only [List.getElem?_toArray, List.getElem?_cons_succ, List.getElem?_cons_zero]; rfl)) (by kernel_rfl) (by kernel_rfl) (by kernel_rfl) (by exact fun _ _ _ h => h) (Or.inl ⟨by rfl, ?r1_hy6⟩) (by assumption) ?r1_rest6
  case r1_hy6 => intro w hSw; (try dsimp only at hSw); (go_simp <;> (with_reducible rfl))
  try simp only [Act.put, List.setIfInBounds_toArray, List.set_cons_zero, List.set_cons_succ]
  refine wpAnyH_done (by kernel_rfl) ?_ _
  have h9 := And.left (b := _) (show CmS W1 W.heap.size w h (.slice A sl.length cap) (W.heap.size + 1) (.slice A2 ys.length cap2) w5 by assumption)
  have HB5 := Lib.hid (HB.out.trans (h9.mono HB.out.size))
  have HQ5 := Lib.hid (HQ.out.ext h9)
  have HS5 := Lib.hid (HS.out.ext h9)
  have HT5 := Lib.hid (HT.out.ext h9)
  have k0 := K0.out.ext h9
  have k1 := K1.out.ext h9
  have K25 := Lib.hid (K2.out.ext h9)
  have K15 := Lib.hid k1
  clear hS h9 hb4 hb5 hO4 hl1 hl2
  repeat clear hHeld
  have s0 := k0.cell 0 _ rfl
  have s1 := k0.cell 1 _ rfl
  have s2 := k0.cell 2 _ rfl
  have s3 := k1.cell 0 _ rfl
  clear k0 k1
  by_cases hc : cornC w h sl (xs ++ ys) = 0
  · have qc := Lib.hid (isCrack_calls w h _ sl xs HX.out _ w5 HQ5.out HS5.out)
    unfold sqv at qc
    rw [hc]
    cases hb1 : crkB sl xs
    · have hM := Lib.hid (show meetC w h sl xs ys = 4 from by unfold meetC; rw [if_pos hc, hb1]; rfl)
      have hE := Lib.hid (show R = (⟨0, 0⟩, 4) from by rw [hR.out, meetOf, hM.out, if_neg (by omega)])
      rw [hb1] at qc
      clear hc hb1
      go_wp2_with fail
      refine qc.out.mono ?_
      rintro e w6 ⟨rfl, hb6⟩
      have HB6 := Lib.hid (ext_trans HB5.out hb6)
      have K26 := Lib.hid (K25.out.ext hb6)
      clear hb6
      have f0 := (K26.out).frz 0
      have f1 := (K26.out).frz 1
      have e0 := (K26.out).cell 0 _ rfl
      have e1 := (K26.out).cell 1 _ rfl
      have HRES := Lib.hid (res_set (K26.out) HB6.out (by omega) 0 0)
      go_wp2_with fail
      (try simp only [Exit.inBlock, Exit.then])
      refine cell_ret2 Try.results27 rfl HRES.out.1 Try.underlying36 rfl (by kernel_rfl) rfl ?_
      exact ⟨by rw [hE.out]; rfl, HRES.out.2⟩
    · rw [hb1] at qc
      have hb1H := Lib.hid hb1
      clear hb1
      have hcH := Lib.hid hc
      clear hc
      go_wp2_with fail
      refine qc.out.mono ?_
      rintro e w6 ⟨rfl, hb6⟩
      have HB6 := Lib.hid (ext_trans HB5.out hb6)
      have K26 := Lib.hid (K25.out.ext hb6)
      have K16 := Lib.hid (K15.out.ext hb6)
      have HS6 := Lib.hid (HS5.out.ext hb6)
      have HT6 := Lib.hid (HT5.out.ext hb6)
      have t0 := (hb6.cell (p := ⟨W.heap.size, 0, none⟩) (by show W.heap.size < _; have := K15.out.lt; omega)).trans s0
      have t1 := (hb6.cell (p := ⟨W.heap.size, 1, none⟩) (by show W.heap.size < _; have := K15.out.lt; omega)).trans s1
      have t2 := (hb6.cell (p := ⟨W.heap.size, 2, none⟩) (by show W.heap.size < _; have := K15.out.lt; omega)).trans s2
      have t3 := K16.out.cell 0 _ rfl
      have qc2 := Lib.hid (isCrack_calls w h _ sl ys HY.out _ w6 (HQ5.out.ext hb6) HT6.out)
      unfold sqv at qc2
      clear hb6 s0 s1 s2 s3
      cases hb2 : crkB sl ys
      · have hM := Lib.hid (show meetC w h sl xs ys = 4 from by unfold meetC; rw [if_pos hcH.out, hb1H.out, hb2]; rfl)
        have hE := Lib.hid (show R = (⟨0, 0⟩, 4) from by rw [hR.out, meetOf, hM.out, if_neg (by omega)])
        rw [hb2] at qc2
        clear hb2
        go_wp2_with fail
        refine qc2.out.mono ?_
        rintro e w7 ⟨rfl, hb7⟩
        have HB7 := Lib.hid (ext_trans HB6.out hb7)
        have K27 := Lib.hid (K26.out.ext hb7)
        clear hb7
        have f0 := (K27.out).frz 0
        have f1 := (K27.out).frz 1
        have e0 := (K27.out).cell 0 _ rfl
        have e1 := (K27.out).cell 1 _ rfl
        have HRES := Lib.hid (res_set (K27.out) HB7.out (by omega) 0 0)
        go_wp2_with fail
        (try simp only [Exit.inBlock, Exit.then])
        refine cell_ret2 Try.results27 rfl HRES.out.1 Try.underlying36 rfl (by kernel_rfl) rfl ?_
        exact ⟨by rw [hE.out]; rfl, HRES.out.2⟩
      · have hM := Lib.hid (show meetC w h sl xs ys = 0 from by unfold meetC; rw [if_pos hcH.out, hb1H.out, hb2]; rfl)
        have hE := Lib.hid (hR.out.trans (show meetOf w h sl xs ys = _ from by rw [meetOf, hM.out, if_pos rfl]))
        rw [hb2] at qc2
        clear hb2
        go_wp2_with fail
        refine qc2.out.mono ?_
        rintro e w7 ⟨rfl, hb7⟩
        have HB7 := Lib.hid (ext_trans HB6.out hb7)
        have K27 := Lib.hid (K26.out.ext hb7)
        have K17 := Lib.hid (K16.out.ext hb7)
        have qi := Lib.hid (indexFuncCell xs _ w7 (HS6.out.ext hb7) _ _ _ eg.out (fun x _ => meetFn ys A2 cap2 (W.heap.size + 1) w7 K17.out.lt (K17.out.cell 0 _ rfl) (HT6.out.ext hb7) x))
        clear hb7 t0 t1 t2 t3
        go_wp2_with fail
        refine qi.out.mono ?_
        rintro e w8 ⟨rfl, hb8⟩
        have HB8 := Lib.hid (ext_trans HB7.out hb8)
        have K28 := Lib.hid (K27.out.ext hb8)
        clear hb8
        by_cases hj : findI (fun x => decide (x ∈ ys)) xs < 0
        · have hE2 := Lib.hid (hE.out.trans (if_pos hj))
          have hjd : decide (findI (fun x => decide (x ∈ ys)) xs < 0) = true := by rw [decide_eq_true_eq]; exact hj
          generalize findI (fun x => decide (x ∈ ys)) xs = J at *
          clear hj
          have f0 := (K28.out).frz 0
          have f1 := (K28.out).frz 1
          have e0 := (K28.out).cell 0 _ rfl
          have e1 := (K28.out).cell 1 _ rfl
          have HRES := Lib.hid (res_set (K28.out) HB8.out (by omega) 0 0)
          go_wp2_with fail
          (try simp only [Exit.inBlock, Exit.then])
          refine cell_ret2 Try.results27 rfl HRES.out.1 Try.underlying36 rfl (by kernel_rfl) rfl ?_
          exact ⟨by rw [hE2.out]; rfl, HRES.out.2⟩
        · obtain ⟨k, hkj⟩ : ∃ k : Nat, findI (fun x => decide (x ∈ ys)) xs = (k : Int) := ⟨(findI (fun x => decide (x ∈ ys)) xs).toNat, (Int.toNat_of_nonneg (by omega)).symm⟩
          obtain ⟨hkl, -⟩ := findI_spec _ xs k hkj
          have hE2 := Lib.hid (show R = (xs[k], 0) from by rw [hE.out, if_neg hj, hkj]; simp [List.getD_eq_getElem?_getD, hkl])
          rw [hkj]
          obtain ⟨b, o, rfl, hbb, g0, g1⟩ := hcell k hkl
          have g0 := (HB8.out.cell (p := ⟨b, _, none⟩) hbb).trans g0
          have g1 := (HB8.out.cell (p := ⟨b, _, none⟩) hbb).trans g1
          have hk0 : (0 : Int) ≤ (k : Int) := by omega
          have hk1 : (k : Int) < (xs.length : Int) := by omega
          have hk2 : decide ((k : Int) < 0) = false := by rw [decide_eq_false_iff_not]; omega
          generalize xs[k] = p at *
          clear hj hkj hcell
          have f0 := (K28.out).frz 0
          have f1 := (K28.out).frz 1
          have e0 := (K28.out).cell 0 _ rfl
          have e1 := (K28.out).cell 1 _ rfl
          have HRES := Lib.hid (res_set (K28.out) HB8.out (by omega) p.x p.y)
          go_wp2_with fail
          (try simp only [Exit.inBlock, Exit.then])
          refine cell_ret2 Try.results27 rfl HRES.out.1 Try.underlying36 rfl (by kernel_rfl) rfl ?_
          exact ⟨by rw [hE2.out]; rfl, HRES.out.2⟩
  · have hM := Lib.hid (show meetC w h sl xs ys = cornC w h sl (xs ++ ys) from by unfold meetC; rw [if_neg hc])
    have hE := Lib.hid (show R = (⟨0, 0⟩, cornC w h sl (xs ++ ys)) from by rw [hR.out, meetOf, hM.out, if_neg hc])
    have hcb : (cornC w h sl (xs ++ ys) == 0) = false := by simpa using hc
    have hcb2 : (cornC w h sl (xs ++ ys) != 0) = true := by simpa using hc
    generalize cornC w h sl (xs ++ ys) = C at *
    clear hc
    have f0 := (K25.out).frz 0
    have f1 := (K25.out).frz 1
    have e0 := (K25.out).cell 0 _ rfl
    have e1 := (K25.out).cell 1 _ rfl
    have HRES := Lib.hid (res_set (K25.out) HB5.out (by omega) 0 0)
    go_wp2_with fail
    (try simp only [Exit.inBlock, Exit.then])
    refine cell_ret2 Try.results27 rfl HRES.out.1 Try.underlying36 rfl (by kernel_rfl) rfl ?_
    exact ⟨by rw [hE.out]; rfl, HRES.out.2⟩
end Go.Proofs.Ytbmkhhhlnollmaa
