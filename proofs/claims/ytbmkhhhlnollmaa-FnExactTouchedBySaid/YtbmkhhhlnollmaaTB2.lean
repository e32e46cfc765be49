/-
TouchedBy of the program. Conditions: slices can be read and are short.
-/
import Derived.Test.YtbmkhhhlnollmaaTB1
import Derived.Test.YtbmkhhhlnollmaaTR2
import Derived.Test.YtbmkhhhlnollmaaAP
set_option linter.unusedVariables false
set_option linter.unusedSimpArgs false
set_option maxRecDepth 100000
namespace Go.Proofs.Ytbmkhhhlnollmaa
open Go.RowKit
set_option maxHeartbeats 4000000 in
theorem implTouchedBy_calls (w h : Int) (z : Value) (sl : List Slab) (xs : List Cell) (hp : ∀ x ∈ xs, x.ok) (v : Value) (W : World) (hq : SqIn W w h z sl) (hs : Sl W W.heap.size Cell.c 2 v xs) (hn : xs.length ≤ 1048576) :
    Calls Try.prog 43 #[sqv w h z, v] W (RetRow2 W 2 i64c 1 (touchedBy w h sl xs)) := by
  obtain ⟨A, cap, hz, -, -, -⟩ := hq.sl.slab
  subst hz
  obtain ⟨A1, cap1, rfl, -, -, hcellp⟩ := id hs.cell
  have HQ := Lib.hid hq
  have CP := Lib.hid hcellp
  have HP := Lib.hid hp
  have HB := Lib.hid ((Below.refl W.heap.size W).alloc (Nat.le_refl _) (.cells #[.int .i8 w, .int .i8 h, .slice A sl.length cap] 34))
  have K0 := Lib.hid (Bk.new W 34 #[.int .i8 w, .int .i8 h, .slice A sl.length cap] W.heap.size rfl)
  have HS := Lib.hid hs
  have qc := Lib.hid (cornerCode_calls w h _ sl xs hp _ _ (hq.ext HB.out) (hs.ext HB.out))
  obtain ⟨R, hR0⟩ : ∃ R, R = touchedBy w h sl xs := ⟨_, rfl⟩
  rw [← hR0]
  have hR := Lib.hid hR0
  have k0 := K0.out.cell 0 _ rfl
  have k1 := K0.out.cell 1 _ rfl
  have k2 := K0.out.cell 2 _ rfl
  clear hq hs hR0 hcellp hp
  unfold sqv at *
  go_enter Try.func43, Try.ntmps43
  go_wp2_with fail
  refine qc.out.mono ?_
  rintro e w1 ⟨rfl, hb1⟩
  have HB1 := Lib.hid (ext_trans HB.out hb1)
  have K01 := Lib.hid (K0.out.ext hb1)
  clear hb1 k0 k1 k2 qc
  by_cases hc : cornC w h sl xs = 0
  · have qk := Lib.hid (isCrack_calls w h _ sl xs HP.out _ w1 (HQ.out.ext HB1.out) (HS.out.ext HB1.out))
    have k0 := K01.out.cell 0 _ rfl
    have k1 := K01.out.cell 1 _ rfl
    have k2 := K01.out.cell 2 _ rfl
    unfold sqv at qk
    rw [hc]
    cases hcr : crkB sl xs
    · have hE := Lib.hid (show touchedBy w h sl xs = ([], 4) from by simp [touchedBy, touchC, hc, hcr])
      rw [hcr] at qk
      clear hc hcr
      go_wp2_with fail
      refine qk.out.mono ?_
      rintro e w2 ⟨rfl, hb2⟩
      have HB2 := Lib.hid (ext_trans HB1.out hb2)
      clear hb2 k0 k1 k2
      go_wp2_with fail
      go_ret2
      rw [hR.out, hE.out]
      exact RetRow2.mk rfl (Own.nil_ _ _ _ _ _) HB2.out
    · have hE := Lib.hid (show touchedBy w h sl xs = (tlN (flatT sl xs (xs.length - 1)) sl.length, 0) from by simp [touchedBy, touchC, hc, hcr])
      have hcs := Lib.hid (compact_sorted (flatT sl xs (xs.length - 1)) sl.length (flatT_bounds (n := xs.length - 1) hcr (xs.length - 1) (Nat.le_refl _)))
      rw [hcr] at qk
      clear hc hcr
      go_wp2_with fail
      refine qk.out.mono ?_
      rintro e w2 ⟨rfl, hb2⟩
      have HB2 := Lib.hid ((ext_trans HB1.out hb2).alloc (ext_trans HB1.out hb2).size (.cells #[] 2))
      have K02 := Lib.hid ((K01.out.ext hb2).alloc (.cells #[] 2))
      have HO2 := Lib.hid ((Own.empty (α := Int) (c := i64c) (sz := 1) (E := 2) w2 w2.heap.size w2.heap.size rfl (Nat.le_refl _)).more (show W.heap.size + 1 ≤ w2.heap.size from (K01.out.ext hb2).lt))
      clear hb2 k0 k1 k2
      go_wp2_with fail
      go_loopw [7, 8, 9, 10, 11] (fun r i _ _ _ wr => ∃ k : Nat, k ≤ xs.length - 1 ∧ i = .int .i64 ((k : Int) + 1) ∧ (∃ g c, r = .slice (some ⟨g, 0, none⟩) (flatT sl xs k).length c) ∧ Own wr (W.heap.size + 1) 2 i64c 1 r (flatT sl xs k) ∧ Bk wr W.heap.size 34 #[.int .i8 w, .int .i8 h, .slice A sl.length cap] ∧ Below W.heap.size W wr) (fun _ i _ _ _ _ => xs.length - (intOf i).toNat)
      case atStart => exact ⟨0, by omega, rfl, ⟨_, _, rfl⟩, HO2.out, K02.out, HB2.out⟩
      case round =>
        obtain ⟨k, hk, rfl, ⟨g, c, rfl⟩, hO, hK, hb⟩ := hrel
        have HO := Lib.hid hO
        have HK := Lib.hid hK
        have HBr := Lib.hid hb
        have hfl := Lib.hid (flatT_len sl xs k)
        clear hO hK hb
        by_cases hlt : k + 1 < xs.length
        · obtain ⟨b, o, rfl, hbb, c0, c1⟩ := CP.out k (by omega)
          obtain ⟨b2, o2, he, hbb2, g0, g1⟩ := CP.out (k + 1) hlt
          obtain ⟨rfl, rfl⟩ : b = b2 ∧ o = o2 := by injection he with he; injection he with e1 e2; exact ⟨e1, e2⟩
          have c0 := (HBr.out.cell (p := ⟨b, _, none⟩) hbb).trans c0
          have c1 := (HBr.out.cell (p := ⟨b, _, none⟩) hbb).trans c1
          have g0 := (HBr.out.cell (p := ⟨b, _, none⟩) hbb).trans g0
          have g1 := (HBr.out.cell (p := ⟨b, _, none⟩) hbb).trans g1
          have hk8 : (0 : Int) ≤ (k : Int) := by omega
          have wk := wrapIn (k : Int) (by omega) (by omega)
          have hk9 : (k : Int) < (xs.length : Int) := by omega
          have hk10 : (0 : Int) ≤ (k : Int) + 1 := by omega
          have hk11 : (k : Int) + 1 < (xs.length : Int) := by omega
          have hbo2 : b < wr.heap.size := Nat.lt_of_lt_of_le hbb HBr.out.size
          have hd1 := HK.out.lt
          have hst := Lib.hid (show flatT sl xs (k + 1) = flatT sl xs k ++ [(sidesAt sl xs[k] xs[k + 1]).1, (sidesAt sl xs[k] xs[k + 1]).2.1] from by rw [flatT, sdT_at sl xs k hlt])
          have qj := Lib.hid (show ∀ W', Below wr.heap.size wr W' → Calls Try.prog 81 #[.agg #[.int .i8 w, .int .i8 h, .slice A sl.length cap], .agg #[.int .i8 xs[k].x, .int .i8 xs[k].y], .agg #[.int .i8 xs[k + 1].x, .int .i8 xs[k + 1].y]] W' (fun e w' => e = .returned (.tuple #[.int .i64 (sidesAt sl xs[k] xs[k + 1]).1, .int .i64 (sidesAt sl xs[k] xs[k + 1]).2.1, .bool (sidesAt sl xs[k] xs[k + 1]).2.2]) ∧ Below W'.heap.size W' w') from fun W' hW' => sidesOf_calls w h _ sl xs[k] xs[k + 1] (HP.out _ (List.getElem_mem _)) (HP.out _ (List.getElem_mem _)) W' ((HQ.out.ext HBr.out).ext hW'))
          generalize xs[k] = p at *
          generalize xs[k + 1] = q at *
          generalize (sidesAt sl p q).1 = s1 at *
          generalize (sidesAt sl p q).2.1 = s2 at *
          generalize (sidesAt sl p q).2.2 = s3 at *
          generalize flatT sl xs k = us at *
          have hS : CqS wr b (o + k * 2) (o + (k + 1) * 2) p q W.heap.size w h (.slice A sl.length cap) wr := ⟨⟨Below.refl _ _, c0, c1, g0, g1⟩, HK.out.cell 0 _ rfl, HK.out.cell 1 _ rfl, HK.out.cell 2 _ rfl⟩
          clear c0 c1 g0 g1 he hbb hbb2
          go_wp2_with fail
          refine wp_region_held_drew (S := (CqS wr b (o + k * 2) (o + (k + 1) * 2) p q W.heap.size w h (.slice A sl.length cap))) (by kernel_rfl) ?r39_hS0 (fun hHeld => ?r39_rest)
          case r39_hS0 => (try dsimp only); first | assumption | exact CqS.keep hbo2 hd1 (by assumption) ((Below.refl _ _).drew) | exact CqS.keep hbo2 hd1 (by assumption) (by assumption)
          refine wpAnyH_take (i := 0) (v := ?r39_vv0) (by (simp only [List.getElem?_toArray, List.getElem?_cons_succ, List.getElem?_cons_zero]; rfl)) (by kernel_rfl) (by kernel_rfl) (by kernel_rfl) (by exact fun _ _ _ h => h) (Or.inl ⟨by rfl, ?r39_hy0⟩) (by assumption) ?r39_rest0
          case r39_hy0 => intro w hSw; (try dsimp only at hSw); (go_simp <;> (with_reducible rfl))
          try simp only [Act.put, List.setIfInBounds_toArray, List.set_cons_zero, List.set_cons_succ]
          refine wpAnyH_take (i := 1) (v := ?r39_vv1) (by (simp only [List.getElem?_toArray, List.getElem?_cons_succ, List.getElem?_cons_zero]; rfl)) (by kernel_rfl) (by kernel_rfl) (by kernel_rfl) (by exact fun _ _ _ h => h) (Or.inl ⟨by rfl, ?r39_hy1⟩) (by assumption) ?r39_rest1
          case r39_hy1 => intro w hSw; (try dsimp only at hSw); (go_simp <;> (with_reducible rfl))
          try simp only [Act.put, List.setIfInBounds_toArray, List.set_cons_zero, List.set_cons_succ]
          refine wpAnyH_take (i := 2) (v := ?r39_vv2) (by (simp only [List.getElem?_toArray, List.getElem?_cons_succ, List.getElem?_cons_zero]; rfl)) (by kernel_rfl) (by kernel_rfl) (by kernel_rfl) (by exact fun _ _ _ h => h) (Or.inl ⟨by rfl, ?r39_hy2⟩) (by assumption) ?r39_rest2
          case r39_hy2 => intro w hSw; (try dsimp only at hSw); (go_simp <;> (with_reducible rfl))
          try simp only [Act.put, List.setIfInBounds_toArray, List.set_cons_zero, List.set_cons_succ]
          refine wpAnyH_take (i := 3) (v := ?r39_vv3) (by (simp only [List.getElem?_toArray, List.getElem?_cons_succ, List.getElem?_cons_zero]; rfl)) (by kernel_rfl) (by kernel_rfl) (by kernel_rfl) (by exact fun _ _ _ h => h) (Or.inl ⟨by rfl, ?r39_hy3⟩) (by assumption) ?r39_rest3
          case r39_hy3 => intro w hSw; (try dsimp only at hSw); (go_simp <;> (with_reducible rfl))
          try simp only [Act.put, List.setIfInBounds_toArray, List.set_cons_zero, List.set_cons_succ]
          refine wpAnyH_take (i := 4) (v := ?r39_vv4) (by (simp only [List.getElem?_toArray, List.getElem?_cons_succ, List.getElem?_cons_zero]; rfl)) (by kernel_rfl) (by kernel_rfl) (by kernel_rfl) (by exact fun _ _ _ h => h) (Or.inl ⟨by rfl, ?r39_hy4⟩) (by assumption) ?r39_rest4
          case r39_hy4 => intro w hSw; (try dsimp only at hSw); (go_simp <;> (with_reducible rfl))
          try simp only [Act.put, List.setIfInBounds_toArray, List.set_cons_zero, List.set_cons_succ]
          refine wpAnyH_take (i := 5) (v := ?r39_vv5) (by (simp only [List.getElem?_toArray, List.getElem?_cons_succ, List.getElem?_cons_zero]; rfl)) (by kernel_rfl) (by kernel_rfl) (by kernel_rfl) (by exact fun _ _ _ h => h) (Or.inl ⟨by rfl, ?r39_hy5⟩) (by assumption) ?r39_rest5
          case r39_hy5 => intro w hSw; (try dsimp only at hSw); (go_simp <;> (with_reducible rfl))
          try simp only [Act.put, List.setIfInBounds_toArray, List.set_cons_zero, List.set_cons_succ]
          refine wpAnyH_take (i := 6) (v := ?r39_vv6) (by (simp only [List.getElem?_toArray, List.getElem?_cons_succ, List.getElem?_cons_zero]; rfl)) (by kernel_rfl) (by kernel_rfl) (by kernel_rfl) (by exact fun _ _ _ h => h) (Or.inl ⟨by rfl, ?r39_hy6⟩) (by assumption) ?r39_rest6
          case r39_hy6 => intro w hSw; (try dsimp only at hSw); (go_simp <;> (with_reducible rfl))
          try simp only [Act.put, List.setIfInBounds_toArray, List.set_cons_zero, List.set_cons_succ]
          refine wpAnyH_take (i := 7) (v := ?r39_vv7) (by (simp only [List.getElem?_toArray, List.getElem?_cons_succ, List.getElem?_cons_zero]; rfl)) (by kernel_rfl) (by kernel_rfl) (by kernel_rfl) (by exact fun _ _ _ h => h) (Or.inl ⟨by rfl, ?r39_hy7⟩) (by assumption) ?r39_rest7
          case r39_hy7 => intro w hSw; (try dsimp only at hSw); (go_simp <;> (with_reducible rfl))
          try simp only [Act.put, List.setIfInBounds_toArray, List.set_cons_zero, List.set_cons_succ]
          refine wpAnyH_take (i := 8) (v := ?r39_vv8) (by (simp only [List.getElem?_toArray, List.getElem?_cons_succ, List.getElem?_cons_zero]; rfl)) (by kernel_rfl) (by kernel_rfl) (by kernel_rfl) (by exact fun _ _ _ h => h) (Or.inl ⟨by rfl, ?r39_hy8⟩) (by assumption) ?r39_rest8
          case r39_hy8 => intro w hSw; (try dsimp only at hSw); (go_simp <;> (with_reducible rfl))
          try simp only [Act.put, List.setIfInBounds_toArray, List.set_cons_zero, List.set_cons_succ]
          refine wpAnyH_take (i := 9) (v := ?r39_vv9) (by (simp only [List.getElem?_toArray, List.getElem?_cons_succ, List.getElem?_cons_zero]; rfl)) (by kernel_rfl) (by kernel_rfl) (by kernel_rfl) (by exact fun _ _ _ h => h) (Or.inl ⟨by rfl, ?r39_hy9⟩) (by assumption) ?r39_rest9
          case r39_hy9 => intro w hSw; (try dsimp only at hSw); (go_simp <;> (with_reducible rfl))
          try simp only [Act.put, List.setIfInBounds_toArray, List.set_cons_zero, List.set_cons_succ]
          refine wpAnyH_ready (rs := [10]) (by kernel_rfl) (by simp) ?_
          refine AllReadyH.cons (by (simp only [List.getElem?_toArray, List.getElem?_cons_succ, List.getElem?_cons_zero]; rfl)) (fun K hK => ?_) AllReadyH.nil
          go_simp
          (go_at_call 81; with_reducible refine (qj.out _ (And.left (b := _) (And.left (b := _) (by assumption)))).mono ?_; rintro e w9 ⟨rfl, hb9⟩)
          try go_wp2_with fail
          refine hK.out _ _ ?r39_hS10 (fun hHeld => ?r39_r10)
          case r39_hS10 => (try dsimp only); first | assumption | exact CqS.keep hbo2 hd1 (by assumption) ((Below.refl _ _).drew) | exact CqS.keep hbo2 hd1 (by assumption) (by assumption)
          clear hK K
          try simp only [Act.put, List.setIfInBounds_toArray, List.set_cons_zero, List.set_cons_succ]
          refine wpAnyH_take (i := 11) (v := ?r39_vv11) (by (simp only [List.getElem?_toArray, List.getElem?_cons_succ, List.getElem?_cons_zero]; rfl)) (by kernel_rfl) (by kernel_rfl) (by kernel_rfl) (by exact fun _ _ _ h => h) (Or.inl ⟨by rfl, ?r39_hy11⟩) (by assumption) ?r39_rest11
          case r39_hy11 => intro w hSw; (try dsimp only at hSw); (go_simp <;> (with_reducible rfl))
          try simp only [Act.put, List.setIfInBounds_toArray, List.set_cons_zero, List.set_cons_succ]
          refine wpAnyH_take (i := 12) (v := ?r39_vv12) (by (simp only [List.getElem?_toArray, List.getElem?_cons_succ, List.getElem?_cons_zero]; rfl)) (by kernel_rfl) (by kernel_rfl) (by kernel_rfl) (by exact fun _ _ _ h => h) (Or.inl ⟨by rfl, ?r39_hy12⟩) (by assumption) ?r39_rest12
          case r39_hy12 => intro w hSw; (try dsimp only at hSw); (go_simp <;> (with_reducible rfl))
          try simp only [Act.put, List.setIfInBounds_toArray, List.set_cons_zero, List.set_cons_succ]
          refine wpAnyH_take (i := 13) (v := ?r39_vv13) (by (simp only [List.getElem?_toArray, List.getElem?_cons_succ, List.getElem?_cons_zero]; rfl)) (by kernel_rfl) (by kernel_rfl) (by kernel_rfl) (by exact fun _ _ _ h => h) (Or.inl ⟨by rfl, ?r39_hy13⟩) (by assumption) ?r39_rest13
          case r39_hy13 => intro w hSw; (try dsimp only at hSw); (go_simp <;> (with_reducible rfl))
          try simp only [Act.put, List.setIfInBounds_toArray, List.set_cons_zero, List.set_cons_succ]
          refine wpAnyH_take (i := 14) (v := ?r39_vv14) (by (simp only [List.getElem?_toArray, List.getElem?_cons_succ, List.getElem?_cons_zero]; rfl)) (by kernel_rfl) (by kernel_rfl) (by kernel_rfl) (by exact fun _ _ _ h => h) (Or.inl ⟨by rfl, ?r39_hy14⟩) (by assumption) ?r39_rest14
          case r39_hy14 => intro w hSw; (try dsimp only at hSw); (go_simp <;> (with_reducible rfl))
          try simp only [Act.put, List.setIfInBounds_toArray, List.set_cons_zero, List.set_cons_succ]
          refine wpAnyH_take (i := 15) (v := ?r39_vv15) (by (simp only [List.getElem?_toArray, List.getElem?_cons_succ, List.getElem?_cons_zero]; rfl)) (by kernel_rfl) (by kernel_rfl) (by kernel_rfl) (by exact fun _ _ _ h => h) (Or.inl ⟨by rfl, ?r39_hy15⟩) (by assumption) ?r39_rest15
          case r39_hy15 => intro w hSw; (try dsimp only at hSw); (go_simp <;> (with_reducible rfl))
          try simp only [Act.put, List.setIfInBounds_toArray, List.set_cons_zero, List.set_cons_succ]
          refine wpAnyH_take (i := 16) (v := ?r39_vv16) (by (simp only [List.getElem?_toArray, List.getElem?_cons_succ, List.getElem?_cons_zero]; rfl)) (by kernel_rfl) (by kernel_rfl) (by kernel_rfl) (by exact fun _ _ _ h => h) (Or.inl ⟨by rfl, ?r39_hy16⟩) (by assumption) ?r39_rest16
          case r39_hy16 => intro w hSw; (try dsimp only at hSw); (go_simp <;> (with_reducible rfl))
          try simp only [Act.put, List.setIfInBounds_toArray, List.set_cons_zero, List.set_cons_succ]
          refine wpAnyH_take (i := 17) (v := ?r39_vv17) (by (simp only [List.getElem?_toArray, List.getElem?_cons_succ, List.getElem?_cons_zero]; rfl)) (by kernel_rfl) (by kernel_rfl) (by kernel_rfl) (by exact fun _ _ _ h => h) (Or.inl ⟨by rfl, ?r39_hy17⟩) (by assumption) ?r39_rest17
          case r39_hy17 => intro w hSw; (try dsimp only at hSw); (go_simp <;> (with_reducible rfl))
          try simp only [Act.put, List.setIfInBounds_toArray, List.set_cons_zero, List.set_cons_succ]
          refine wpAnyH_done (by kernel_rfl) ?_ _
          have HB9 := Lib.hid (show Below wr.heap.size wr w9 from And.left (b := _) (And.left (b := _) (by assumption)))
          clear hS hb9
          repeat clear hHeld
          have HO9 := Lib.hid (HO.out.ext HB9.out)
          have HK9 := Lib.hid (HK.out.ext HB9.out)
          have HBt := Lib.hid (ext_trans HBr.out HB9.out)
          have hba := Lib.hid (HBt.out.alloc HBt.out.size (.cells #[.int .i64 s1, .int .i64 s2] 2))
          have hka := Lib.hid (HK9.out.alloc (.cells #[.int .i64 s1, .int .i64 s2] 2))
          go_wp2_with (at_builtin; refine push_app appI64 rfl _ _ rfl (W.heap.size + 1) us [s1, s2] _ _ rfl rfl (HO9.out.alloc _) (bk_i64s [s1, s2] (Bk.new _ _ _ _ rfl) rfl (by simp)) (by have := hfl.out; simp; omega) (by have := hfl.out; simp; omega) (Nat.le_trans HK9.out.lt (by simp)) ?_)
          intro v4 w4 hO4 hG4 hat
          have hb4 := Lib.hid (hba.out.grown hG4 hba.out.size (fun j hj => by have := HO9.out.base j hj; omega))
          have hk4 := Lib.hid (show Bk w4 W.heap.size _ _ from (hG4.block _ hka.out.lt (fun e => by have := HO9.out.base _ e.symm; omega)).trans hka.out)
          obtain ⟨g4, c4, hv4, -⟩ := hO4.room i64c_len (by simp)
          rw [← hst.out] at hO4 hv4
          have hO4 := Lib.hid hO4
          have hv4 := Lib.hid hv4
          clear hG4 hat
          go_wp2_with fail
          go_roundw
          case rel => exact ⟨k + 1, by omega, by go_num, ⟨g4, c4, hv4.out⟩, hO4.out, hk4.out, hb4.out⟩
          case measure => first | (simp [intOf]; done) | (simp [intOf]; omega)
        · obtain rfl : k = xs.length - 1 := by omega
          have qs := Lib.hid (sortI64_calls (flatT sl xs (xs.length - 1)) g c (W.heap.size + 1) wr HO.out (by have := hfl.out; omega))
          have hlt2 : decide (((xs.length - 1 : Nat) : Int) + 1 < (xs.length : Int)) = false := by rw [decide_eq_false_iff_not]; omega
          have hgl := Lib.hid (HO.out.base g rfl)
          generalize flatT sl xs (xs.length - 1) = us at *
          clear hlt
          go_wp2_with fail
          refine qs.out.mono ?_
          rintro e w4 ⟨rfl, hO4, hG4⟩
          have qcm := Lib.hid (compactI64_calls (us.mergeSort fun x y => decide (x ≤ y)) g c (W.heap.size + 1) w4 (by rw [List.length_mergeSort]; exact hO4) (by rw [List.length_mergeSort]; have := hfl.out; omega))
          rw [List.length_mergeSort, hcs.out] at qcm
          have HB4 := Lib.hid (HBr.out.grown hG4 HBr.out.size (fun j hj => by injection hj with hj; have := hgl.out; omega))
          clear hO4 hG4
          go_wp2_with fail
          refine qcm.out.mono ?_
          rintro e w5 ⟨rfl, hO5, hG5⟩
          have HO5 := Lib.hid hO5
          have HB5 := Lib.hid (HB4.out.grown hG5 HB4.out.size (fun j hj => by injection hj with hj; have := hgl.out; omega))
          clear hO5 hG5
          go_wp2_with fail
          go_ret2
          rw [hR.out, hE.out]
          exact RetRow2.mk rfl (HO5.out.more (by omega)) HB5.out
  · have hE := Lib.hid (show touchedBy w h sl xs = ([], cornC w h sl xs) from by simp [touchedBy, touchC, hc])
    have hcb : (cornC w h sl xs == 0) = false := by simpa using hc
    have hcb2 : (cornC w h sl xs != 0) = true := by simpa using hc
    generalize cornC w h sl xs = C at *
    clear hc
    go_wp2_with fail
    go_ret2
    rw [hR.out, hE.out]
    exact RetRow2.mk rfl (Own.nil_ _ _ _ _ _) HB1.out
end Go.Proofs.Ytbmkhhhlnollmaa
