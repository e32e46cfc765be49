/-
TouchedBy of the reference. Conditions: slices can be read and are short.
-/
import Derived.Test.YtbmkhhhlnollmaaTB2
set_option linter.unusedVariables false
set_option linter.unusedSimpArgs false
set_option maxRecDepth 100000
namespace Go.Proofs.Ytbmkhhhlnollmaa
open Go.RowKit
set_option maxHeartbeats 8000000 in
theorem specTouchedBy_calls (w h : Int) (z : Value) (sl : List Slab) (xs : List Cell) (hp : ∀ x ∈ xs, x.ok) (v : Value) (W : World) (hq : SqIn W w h z sl) (hs : Sl W W.heap.size Cell.c 2 v xs) (hn : xs.length ≤ 1048576) :
    Calls Try.prog 42 #[sqv w h z, v] W (RetRow2 W 2 i64c 1 (touchedBy w h sl xs)) := by
  obtain ⟨A, cap, hz, -, -, -⟩ := hq.sl.slab
  subst hz
  obtain ⟨A1, cap1, rfl, -, -, hcellp⟩ := id hs.cell
  have HQ := Lib.hid hq
  have HS := Lib.hid hs
  have CP := Lib.hid hcellp
  have HP := Lib.hid hp
  have HB := Lib.hid (ext_alloc ((Below.refl W.heap.size W).alloc (Nat.le_refl _) (.cells #[.int .i8 w, .int .i8 h, .slice A sl.length cap] 34)) (.cells #[] 2))
  have K0 := Lib.hid ((Bk.new W 34 #[.int .i8 w, .int .i8 h, .slice A sl.length cap] W.heap.size rfl).alloc (.cells #[] 2))
  have HA := Lib.hid (show Sq.at_ ((W.alloc (.cells #[.int .i8 w, .int .i8 h, .slice A sl.length cap] 34)).alloc (.cells #[] 2)) W.heap.size 0 w h (.slice A sl.length cap) from ⟨K0.out.cell 0 _ rfl, K0.out.cell 1 _ rfl, K0.out.cell 2 _ rfl, K0.out.lt⟩)
  have hO0 := Lib.hid (Own.empty (α := Int) (c := i64c) (sz := 1) (E := 2) (W.alloc (.cells #[.int .i8 w, .int .i8 h, .slice A sl.length cap] 34)) (W.heap.size + 1) (W.heap.size + 1) (by simp) (by simp))
  obtain ⟨R, hR0⟩ : ∃ R, R = touchedBy w h sl xs := ⟨_, rfl⟩
  rw [← hR0]
  have hR := Lib.hid hR0
  have hsz1 := Lib.hid (show ((W.alloc (.cells #[.int .i8 w, .int .i8 h, .slice A sl.length cap] 34)).alloc (.cells #[] 2)).heap.size = W.heap.size + 1 + 1 from by simp)
  have qt := Lib.hid (told_calls W.heap.size 0 w h _ sl xs HP.out _ true _ (HQ.out.ext HB.out) HA.out (HS.out.ext HB.out))
  rw [toldC_corn] at qt
  clear hq hs hR0 hcellp hp
  unfold sqv
  go_enter Try.func42, Try.ntmps42
  go_wp2_with fail
  refine qt.out.mono ?_
  rintro e w1 ⟨g, rfl, hgl, hgr, hb1⟩
  generalize (W.alloc (.cells #[.int .i8 w, .int .i8 h, .slice A sl.length cap] 34)).alloc (.cells #[] 2) = W1 at *
  have HB1 := Lib.hid (ext_trans HB.out hb1)
  have hs1 := Lib.hid (show W.heap.size + 1 < w1.heap.size from by have := hb1.size; have := hsz1.out; omega)
  have K8 := Lib.hid (Bk.new w1 85 Try.zeroCells85 w1.heap.size rfl)
  have KQ2 := Lib.hid ((K0.out.ext hb1).alloc (.cells Try.zeroCells85 85))
  have HO2 := Lib.hid ((hO0.out.ext hb1).alloc (.cells Try.zeroCells85 85))
  have HB2 := Lib.hid (HB1.out.alloc HB1.out.size (.cells Try.zeroCells85 85))
  have hglH := Lib.hid hgl
  have hgrH := Lib.hid hgr
  clear hb1 hgl hgr qt
  go_wp2_with (refine wpList_store_bk rfl 85 (.tmp 7) (.tmp 18) rfl _ (gcells g) rfl rfl _ _ K8.out (by rw [zsize, gcells_size, hglH.out]) (ginfo _ hglH.out) (gcells_one _) ?_)
  intro w2 k8 G8
  have k8 := Lib.hid k8
  have HBw := Lib.hid (HB2.out.grown G8 HB2.out.size (fun j hj => by injection hj with hj; have := hs1.out; omega))
  have KQw := Lib.hid (KQ2.out.grown G8 (by have := hs1.out; omega))
  have hs2 := Lib.hid (show w1.heap.size < w2.heap.size from k8.out.lt)
  have HOw := Lib.hid (HO2.out.keep (fun j hj => G8.block j (HO2.out.lt j hj) (fun he => by
    injection he with he
    have h1 : W.heap.size + 1 = j := by simpa [Value.ownBlock] using hj
    have := hs1.out
    omega)))
  clear G8
  by_cases hc : cornC w h sl xs = 0
  · obtain ⟨hv, hpts⟩ := cornC_ok hc
    obtain ⟨⟨w0, w1'⟩, ⟨h0, h1⟩, hl⟩ := sqOk_edges hv
    have hgg := hgrH.out hc
    subst hgg
    have qk := Lib.hid (along_calls w h sl hl ⟨w1', h1⟩ xs hpts _ w1.heap.size w2 k8.out (HS.out.ext HBw.out))
    have hn60 := sqOk_len hv
    rw [hc]
    cases hcr : crkB sl xs
    · have hE := Lib.hid (show touchedBy w h sl xs = ([], 4) from by simp [touchedBy, touchC, hc, hcr])
      rw [hcr] at qk
      clear hc hcr hv hpts hl
      go_wp2_with fail
      refine qk.out.mono ?_
      rintro e w3 ⟨rfl, hb3⟩
      have HB3 := Lib.hid (ext_trans HBw.out hb3)
      have HO3 := Lib.hid (HOw.out.ext hb3)
      clear hb3
      go_wp2_with fail
      go_ret2
      rw [hR.out, hE.out]
      exact RetRow2.mk rfl (HO3.out.more (by omega)) HB3.out
    · have hE := Lib.hid (show touchedBy w h sl xs = (tlN (flatT sl xs (xs.length - 1)) sl.length, 0) from by simp [touchedBy, touchC, hc, hcr])
      have HCR := Lib.hid (show crkN sl xs (xs.length - 1) = true from hcr)
      have HL := Lib.hid hl
      have HW := Lib.hid (show w ≤ 12 ∧ h ≤ 12 from ⟨w1', h1⟩)
      have hmk : ∀ W : World, (Instr.makeSlice 109 (.int .i64 ((sl.length : Int) + 1)) (.int .i64 ((sl.length : Int) + 1))).run Try.prog W = .ok (.slice (some ⟨W.heap.size, 0, none⟩) (sl.length + 1) (sl.length + 1)) (W.alloc (.cells (madeCells (Value.bool false).cells ((sl.length + 1) * 1)) 4)) := fun W => by
        have := run_makeOf (P := Try.prog) 109 4 (.bool false) 1 1 Try.underlying109 (by kernel_rfl) (sl.length + 1) (by omega) (by omega) W
        simpa using this
      rw [hcr] at qk
      clear hc hcr hv hpts hl
      go_wp2_with fail
      refine qk.out.mono ?_
      rintro e w3 ⟨rfl, hb3⟩
      have HB3 := Lib.hid (ext_trans HBw.out hb3)
      have HO3 := Lib.hid (HOw.out.ext hb3)
      have KG3 := Lib.hid (k8.out.ext hb3)
      have KQ3 := Lib.hid (KQw.out.ext hb3)
      have hs3 := Lib.hid (show w1.heap.size < w3.heap.size from KG3.out.lt)
      have a2 := KQ3.out.cell 2 _ rfl
      have hOM := Lib.hid (show Own (w3.alloc (.cells (madeCells #[Value.bool false] (sl.length + 1)) 4)) w3.heap.size 4 boolc 1 (.slice (some ⟨w3.heap.size, 0, none⟩) (sl.length + 1) (sl.length + 1)) (List.replicate (sl.length + 1) false) from by
        have := Own.made (B := w3.heap.size) (E := 4) boolc_len (by omega) w3 (Nat.le_refl _) false (sl.length + 1) (by omega)
        rwa [Nat.mul_one] at this)
      rw [← mkN_start] at hOM
      have HXM := Lib.hid ((Below.refl w3.heap.size w3).alloc (Nat.le_refl _) (.cells (madeCells #[Value.bool false] (sl.length + 1)) 4))
      clear hb3 qk
      go_wp2_with fail
      go_loopw [10, 11, 12] (fun i _ _ wr => ∃ k : Nat, k ≤ xs.length - 1 ∧ i = .int .i64 ((k : Int) + 1) ∧ Own wr w3.heap.size 4 boolc 1 (.slice (some ⟨w3.heap.size, 0, none⟩) (sl.length + 1) (sl.length + 1)) (mkN sl.length (flatT sl xs k)) ∧ Below w3.heap.size w3 wr) (fun i _ _ _ => xs.length - (intOf i).toNat)
      case atStart => exact ⟨0, by omega, rfl, by simpa [flatT] using hOM.out, by simpa using HXM.out⟩
      case round =>
        obtain ⟨k, hk, rfl, hO, hb⟩ := hrel
        have HO := Lib.hid hO
        have HBr := Lib.hid hb
        clear hO hb
        by_cases hlt : k + 1 < xs.length
        · obtain ⟨b, o, rfl, hbb, c0, c1⟩ := CP.out k (by omega)
          obtain ⟨b2, o2, he, hbb2, g0, g1⟩ := CP.out (k + 1) hlt
          obtain ⟨rfl, rfl⟩ : b = b2 ∧ o = o2 := by injection he with he; injection he with e1 e2; exact ⟨e1, e2⟩
          have HBt := Lib.hid (ext_trans HB3.out HBr.out)
          have c0 := (HBt.out.cell (p := ⟨b, _, none⟩) hbb).trans c0
          have c1 := (HBt.out.cell (p := ⟨b, _, none⟩) hbb).trans c1
          have g0 := (HBt.out.cell (p := ⟨b, _, none⟩) hbb).trans g0
          have g1 := (HBt.out.cell (p := ⟨b, _, none⟩) hbb).trans g1
          have hk8 : (0 : Int) ≤ (k : Int) := by omega
          have wk := wrapIn (k : Int) (by omega) (by omega)
          have hk9 : (k : Int) < (xs.length : Int) := by omega
          have hk10 : (0 : Int) ≤ (k : Int) + 1 := by omega
          have hk11 : (k : Int) + 1 < (xs.length : Int) := by omega
          have hbo2 : b < wr.heap.size := Nat.lt_of_lt_of_le hbb HBt.out.size
          have hst := Lib.hid (show flatT sl xs (k + 1) = flatT sl xs k ++ [(sidesAt sl xs[k] xs[k + 1]).1, (sidesAt sl xs[k] xs[k + 1]).2.1] from by rw [flatT, sdT_at sl xs k hlt])
          have hj : (sidesAt sl xs[k] xs[k + 1]).2.2 = true := by have := crkN_at HCR.out (k := k) (by omega); rwa [sdT_at sl xs k hlt] at this
          obtain ⟨⟨s10, s11⟩, s20, s21⟩ := sides_joint hj
          have qj := Lib.hid (show ∀ W', Below wr.heap.size wr W' → Calls Try.prog 80 #[.pointer (some ⟨w1.heap.size, 0, none⟩), .agg #[.int .i8 xs[k].x, .int .i8 xs[k].y], .agg #[.int .i8 xs[k + 1].x, .int .i8 xs[k + 1].y]] W' (fun e w' => e = .returned (.tuple #[.int .i64 ((sidesAt sl xs[k] xs[k + 1]).2.1 + 1), .int .i64 ((sidesAt sl xs[k] xs[k + 1]).1 + 1)]) ∧ Below W'.heap.size W' w') from fun W' hW' => sSides_calls HL.out HW.out hj w1.heap.size W' ((KG3.out.ext HBr.out).ext hW'))
          generalize xs[k] = p at *
          generalize xs[k + 1] = q at *
          generalize (sidesAt sl p q).1 = s1 at *
          generalize (sidesAt sl p q).2.1 = s2 at *
          obtain ⟨u1, hu1⟩ : ∃ n : Nat, s1 = (n : Int) := ⟨s1.toNat, by omega⟩
          obtain ⟨u2, hu2⟩ : ∃ n : Nat, s2 = (n : Int) := ⟨s2.toNat, by omega⟩
          subst hu1; subst hu2
          have hu1 : u1 < sl.length := by omega
          have hu2 : u2 < sl.length := by omega
          obtain ⟨n1, hn1⟩ : ∃ n : Nat, n = u1 + 1 := ⟨_, rfl⟩
          obtain ⟨n2, hn2⟩ : ∃ n : Nat, n = u2 + 1 := ⟨_, rfl⟩
          have e1 : (u1 : Int) + 1 = (n1 : Int) := by omega
          have e2 : (u2 : Int) + 1 = (n2 : Int) := by omega
          rw [e1, e2] at qj
          generalize flatT sl xs k = us at *
          have hM2 := Lib.hid (show (mkN sl.length us).set n2 true = mkN sl.length (us ++ [(u2 : Int)]) from by rw [hn2]; exact mkN_set _ _ _ hu2)
          have hM1 := Lib.hid (show (mkN sl.length (us ++ [(u2 : Int)])).set n1 true = mkN sl.length (us ++ [(u1 : Int), (u2 : Int)]) from by
            rw [hn1, mkN_set _ _ _ hu1]
            exact mkN_perm _ _ _ (fun x => by simp; constructor <;> (intro h; rcases h with h | h | h <;> simp [h])))
          have N1 := Lib.hid (show n1 < sl.length + 1 from by omega)
          have N2 := Lib.hid (show n2 < sl.length + 1 from by omega)
          have hS : CkS wr b (o + k * 2) (o + (k + 1) * 2) p q wr := ⟨Below.refl _ _, c0, c1, g0, g1⟩
          clear c0 c1 g0 g1 he hbb hbb2 hj s10 s11 s20 s21 e1 e2 hn1 hn2 hu1 hu2
          go_upto_region 11 with (fail)
          refine wp_region_held_drew (S := (CkS wr b (o + k * 2) (o + (k + 1) * 2) p q)) (by kernel_rfl) ?r40_hS0 (fun hHeld => ?r40_rest)
          case r40_hS0 => (try dsimp only); first | assumption | exact CkS.keep hbo2 (by assumption) ((Below.refl _ _).drew) | exact CkS.keep hbo2 (by assumption) (by assumption)
          refine wpAnyH_take (i := 0) (v := ?r40_vv0) (by (simp only [List.getElem?_toArray, List.getElem?_cons_succ, List.getElem?_cons_zero]; rfl)) (by kernel_rfl) (by kernel_rfl) (by kernel_rfl) (by exact fun _ _ _ h => h) (Or.inl ⟨by rfl, ?r40_hy0⟩) (by assumption) ?r40_rest0
          case r40_hy0 => intro w hSw; (try dsimp only at hSw); (go_simp <;> (with_reducible rfl))
          try simp only [Act.put, List.setIfInBounds_toArray, List.set_cons_zero, List.set_cons_succ]
          refine wpAnyH_take (i := 1) (v := ?r40_vv1) (by (simp only [List.getElem?_toArray, List.getElem?_cons_succ, List.getElem?_cons_zero]; rfl)) (by kernel_rfl) (by kernel_rfl) (by kernel_rfl) (by exact fun _ _ _ h => h) (Or.inl ⟨by rfl, ?r40_hy1⟩) (by assumption) ?r40_rest1
          case r40_hy1 => intro w hSw; (try dsimp only at hSw); (go_simp <;> (with_reducible rfl))
          try simp only [Act.put, List.setIfInBounds_toArray, List.set_cons_zero, List.set_cons_succ]
          refine wpAnyH_take (i := 2) (v := ?r40_vv2) (by (simp only [List.getElem?_toArray, List.getElem?_cons_succ, List.getElem?_cons_zero]; rfl)) (by kernel_rfl) (by kernel_rfl) (by kernel_rfl) (by exact fun _ _ _ h => h) (Or.inl ⟨by rfl, ?r40_hy2⟩) (by assumption) ?r40_rest2
          case r40_hy2 => intro w hSw; (try dsimp only at hSw); (go_simp <;> (with_reducible rfl))
          try simp only [Act.put, List.setIfInBounds_toArray, List.set_cons_zero, List.set_cons_succ]
          refine wpAnyH_take (i := 3) (v := ?r40_vv3) (by (simp only [List.getElem?_toArray, List.getElem?_cons_succ, List.getElem?_cons_zero]; rfl)) (by kernel_rfl) (by kernel_rfl) (by kernel_rfl) (by exact fun _ _ _ h => h) (Or.inl ⟨by rfl, ?r40_hy3⟩) (by assumption) ?r40_rest3
          case r40_hy3 => intro w hSw; (try dsimp only at hSw); (go_simp <;> (with_reducible rfl))
          try simp only [Act.put, List.setIfInBounds_toArray, List.set_cons_zero, List.set_cons_succ]
          refine wpAnyH_take (i := 4) (v := ?r40_vv4) (by (simp only [List.getElem?_toArray, List.getElem?_cons_succ, List.getElem?_cons_zero]; rfl)) (by kernel_rfl) (by kernel_rfl) (by kernel_rfl) (by exact fun _ _ _ h => h) (Or.inl ⟨by rfl, ?r40_hy4⟩) (by assumption) ?r40_rest4
          case r40_hy4 => intro w hSw; (try dsimp only at hSw); (go_simp <;> (with_reducible rfl))
          try simp only [Act.put, List.setIfInBounds_toArray, List.set_cons_zero, List.set_cons_succ]
          refine wpAnyH_take (i := 5) (v := ?r40_vv5) (by (simp only [List.getElem?_toArray, List.getElem?_cons_succ, List.getElem?_cons_zero]; rfl)) (by kernel_rfl) (by kernel_rfl) (by kernel_rfl) (by exact fun _ _ _ h => h) (Or.inl ⟨by rfl, ?r40_hy5⟩) (by assumption) ?r40_rest5
          case r40_hy5 => intro w hSw; (try dsimp only at hSw); (go_simp <;> (with_reducible rfl))
          try simp only [Act.put, List.setIfInBounds_toArray, List.set_cons_zero, List.set_cons_succ]
          refine wpAnyH_take (i := 6) (v := ?r40_vv6) (by (simp only [List.getElem?_toArray, List.getElem?_cons_succ, List.getElem?_cons_zero]; rfl)) (by kernel_rfl) (by kernel_rfl) (by kernel_rfl) (by exact fun _ _ _ h => h) (Or.inl ⟨by rfl, ?r40_hy6⟩) (by assumption) ?r40_rest6
          case r40_hy6 => intro w hSw; (try dsimp only at hSw); (go_simp <;> (with_reducible rfl))
          try simp only [Act.put, List.setIfInBounds_toArray, List.set_cons_zero, List.set_cons_succ]
          refine wpAnyH_take (i := 7) (v := ?r40_vv7) (by (simp only [List.getElem?_toArray, List.getElem?_cons_succ, List.getElem?_cons_zero]; rfl)) (by kernel_rfl) (by kernel_rfl) (by kernel_rfl) (by exact fun _ _ _ h => h) (Or.inl ⟨by rfl, ?r40_hy7⟩) (by assumption) ?r40_rest7
          case r40_hy7 => intro w hSw; (try dsimp only at hSw); (go_simp <;> (with_reducible rfl))
          try simp only [Act.put, List.setIfInBounds_toArray, List.set_cons_zero, List.set_cons_succ]
          refine wpAnyH_take (i := 8) (v := ?r40_vv8) (by (simp only [List.getElem?_toArray, List.getElem?_cons_succ, List.getElem?_cons_zero]; rfl)) (by kernel_rfl) (by kernel_rfl) (by kernel_rfl) (by exact fun _ _ _ h => h) (Or.inl ⟨by rfl, ?r40_hy8⟩) (by assumption) ?r40_rest8
          case r40_hy8 => intro w hSw; (try dsimp only at hSw); (go_simp <;> (with_reducible rfl))
          try simp only [Act.put, List.setIfInBounds_toArray, List.set_cons_zero, List.set_cons_succ]
          refine wpAnyH_ready (rs := [9]) (by kernel_rfl) (by simp) ?_
          refine AllReadyH.cons (by (simp only [List.getElem?_toArray, List.getElem?_cons_succ, List.getElem?_cons_zero]; rfl)) (fun K hK => ?_) AllReadyH.nil
          go_simp
          (go_at_call 80; with_reducible refine (qj.out _ (And.left (b := _) (by assumption))).mono ?_; rintro e w9 ⟨rfl, hb9⟩)
          try go_wp2_with fail
          refine hK.out _ _ ?r40_hS9 (fun hHeld => ?r40_r9)
          case r40_hS9 => (try dsimp only); first | assumption | exact CkS.keep hbo2 (by assumption) ((Below.refl _ _).drew) | exact CkS.keep hbo2 (by assumption) (by assumption)
          clear hK K
          try simp only [Act.put, List.setIfInBounds_toArray, List.set_cons_zero, List.set_cons_succ]
          refine wpAnyH_take (i := 10) (v := ?r40_vv10) (by (simp only [List.getElem?_toArray, List.getElem?_cons_succ, List.getElem?_cons_zero]; rfl)) (by kernel_rfl) (by kernel_rfl) (by kernel_rfl) (by exact fun _ _ _ h => h) (Or.inl ⟨by rfl, ?r40_hy10⟩) (by assumption) ?r40_rest10
          case r40_hy10 => intro w hSw; (try dsimp only at hSw); (go_simp <;> (with_reducible rfl))
          try simp only [Act.put, List.setIfInBounds_toArray, List.set_cons_zero, List.set_cons_succ]
          refine wpAnyH_take (i := 11) (v := ?r40_vv11) (by (simp only [List.getElem?_toArray, List.getElem?_cons_succ, List.getElem?_cons_zero]; rfl)) (by kernel_rfl) (by kernel_rfl) (by kernel_rfl) (by exact fun _ _ _ h => h) (Or.inl ⟨by rfl, ?r40_hy11⟩) (by assumption) ?r40_rest11
          case r40_hy11 => intro w hSw; (try dsimp only at hSw); (go_simp <;> (with_reducible rfl))
          try simp only [Act.put, List.setIfInBounds_toArray, List.set_cons_zero, List.set_cons_succ]
          refine wpAnyH_take (i := 12) (v := ?r40_vv12) (by (simp only [List.getElem?_toArray, List.getElem?_cons_succ, List.getElem?_cons_zero]; rfl)) (by kernel_rfl) (by kernel_rfl) (by kernel_rfl) (by exact fun _ _ _ h => h) (Or.inl ⟨by rfl, ?r40_hy12⟩) (by assumption) ?r40_rest12
          case r40_hy12 => intro w hSw; (try dsimp only at hSw); (go_simp <;> (with_reducible rfl))
          try simp only [Act.put, List.setIfInBounds_toArray, List.set_cons_zero, List.set_cons_succ]
          refine wpAnyH_take (i := 13) (v := ?r40_vv13) (by (simp only [List.getElem?_toArray, List.getElem?_cons_succ, List.getElem?_cons_zero]; rfl)) (by kernel_rfl) (by kernel_rfl) (by kernel_rfl) (by exact fun _ _ _ h => h) (Or.inl ⟨by rfl, ?r40_hy13⟩) (by assumption) ?r40_rest13
          case r40_hy13 => intro w hSw; (try dsimp only at hSw); (go_simp <;> (with_reducible rfl))
          try simp only [Act.put, List.setIfInBounds_toArray, List.set_cons_zero, List.set_cons_succ]
          refine wpAnyH_take (i := 14) (v := ?r40_vv14) (by (simp only [List.getElem?_toArray, List.getElem?_cons_succ, List.getElem?_cons_zero]; rfl)) (by kernel_rfl) (by kernel_rfl) (by kernel_rfl) (by exact fun _ _ _ h => h) (Or.inl ⟨by rfl, ?r40_hy14⟩) (by assumption) ?r40_rest14
          case r40_hy14 => intro w hSw; (try dsimp only at hSw); (go_simp <;> (with_reducible rfl))
          try simp only [Act.put, List.setIfInBounds_toArray, List.set_cons_zero, List.set_cons_succ]
          refine wpAnyH_done (by kernel_rfl) ?_ _
          have HB9 := Lib.hid (show Below wr.heap.size wr w9 from And.left (b := _) (by assumption))
          clear hS hb9
          repeat clear hHeld
          have HO9 := Lib.hid (HO.out.ext HB9.out)
          have HX9 := Lib.hid (ext_trans HBr.out HB9.out)
          go_upto_region 12 with (fail)
          go_cut [] (fun wx => Own wx w3.heap.size 4 boolc 1 (.slice (some ⟨w3.heap.size, 0, none⟩) (sl.length + 1) (sl.length + 1)) (mkN sl.length (us ++ [(u2 : Int)])) ∧ Below w3.heap.size w3 wx)
          case first =>
            obtain ⟨hBg, hgl, hce, hfz⟩ := HO9.out.at_ boolc_len (by rw [mkN_len]; omega)
            have n2l := N2.out
            have q0 : w9.cell? ⟨w3.heap.size, n2, none⟩ = some (.bool (decide ((n2 : Int) - 1 ∈ us))) := by simpa using hce n2 _ (mkN_get _ _ _ N2.out) 0 _ rfl
            obtain ⟨hO2, hG2⟩ := HO9.out.put boolc_len n2 (by rw [mkN_len]; exact N2.out) true
            rw [Nat.mul_one] at hO2 hG2
            rw [hM2.out] at hO2
            have hO2 := Lib.hid hO2
            have hB2 := Lib.hid (HX9.out.grown hG2 HX9.out.size (fun j hj => by injection hj with hj; omega))
            clear hce hG2
            go_wp2_with fail
            go_meet
            exact ⟨hO2.out, hB2.out⟩
          obtain ⟨hO5, hb5⟩ := hcut
          have HO5 := Lib.hid hO5
          have HB5 := Lib.hid hb5
          clear hO5 hb5
          obtain ⟨hBg, hgl, hce, hfz⟩ := HO5.out.at_ boolc_len (by rw [mkN_len]; omega)
          have n1l := N1.out
          have q0 : wc.cell? ⟨w3.heap.size, n1, none⟩ = some (.bool (decide ((n1 : Int) - 1 ∈ us ++ [(u2 : Int)]))) := by simpa using hce n1 _ (mkN_get _ _ _ N1.out) 0 _ rfl
          obtain ⟨hO6, hG6⟩ := HO5.out.put boolc_len n1 (by rw [mkN_len]; exact N1.out) true
          rw [Nat.mul_one] at hO6 hG6
          rw [hM1.out, ← hst.out] at hO6
          have hO6 := Lib.hid hO6
          have hB6 := Lib.hid (HB5.out.grown hG6 HB5.out.size (fun j hj => by injection hj with hj; omega))
          clear hce hG6
          go_wp2_with fail
          go_roundw
          case rel => exact ⟨k + 1, by omega, by go_num, hO6.out, hB6.out⟩
          case measure => first | (simp [intOf]; done) | (simp [intOf]; omega)
        · obtain rfl : k = xs.length - 1 := by omega
          have hlt2 : decide (((xs.length - 1 : Nat) : Int) + 1 < (xs.length : Int)) = false := by rw [decide_eq_false_iff_not]; omega
          have HBt := Lib.hid (ext_trans HB3.out HBr.out)
          have HOr := Lib.hid (HO3.out.ext HBr.out)
          have KQr := Lib.hid (KQ3.out.ext HBr.out)
          generalize flatT sl xs (xs.length - 1) = flat at *
          have hgM := Lib.hid (show W.heap.size + 1 < w3.heap.size from by have := hs1.out; have := hs3.out; omega)
          clear hlt a2
          generalize w3.heap.size = gm at *
          go_wp2_with fail
          go_loopw [6, 13] (fun r c wq => ∃ i : Nat, i ≤ sl.length ∧ c = .int .i64 (i : Int) ∧ Own wq (W.heap.size + 1) 2 i64c 1 r (tlN flat i) ∧ (∀ j, r.ownBlock = some j → j ≠ gm) ∧ Own wq gm 4 boolc 1 (.slice (some ⟨gm, 0, none⟩) (sl.length + 1) (sl.length + 1)) (mkN sl.length flat) ∧ Bk wq W.heap.size 34 #[.int .i8 w, .int .i8 h, .slice A sl.length cap] ∧ Below W.heap.size W wq) (fun _ c _ => sl.length - (intOf c).toNat)
          case atStart => exact ⟨0, by omega, rfl, HOr.out, fun j hj => by simp [Value.ownBlock] at hj; have := hgM.out; omega, HO.out, KQr.out, HBt.out⟩
          case round =>
            obtain ⟨i, hi, rfl, hO, hne, hM, hK, hb⟩ := hrel
            have HOq := Lib.hid hO
            have HNE := Lib.hid hne
            have HMq := Lib.hid hM
            have HKq := Lib.hid hK
            have HBq := Lib.hid hb
            have a2 := hK.cell 2 _ rfl
            clear hO hne hM hK hb
            by_cases hlti : i < sl.length
            · have hst := Lib.hid (tlN_succ flat i)
              have hle := Lib.hid (Nat.le_trans (tlN_len flat i) hi)
              have hid : decide ((i : Int) < (sl.length : Int)) = true := by rw [decide_eq_true_eq]; omega
              obtain ⟨hBg, hgl, hce, hfz⟩ := HMq.out.at_ boolc_len (by rw [mkN_len]; omega)
              have hcell : wr.cell? ⟨gm, i + 1, none⟩ = some (.bool (decide (((i + 1 : Nat) : Int) - 1 ∈ flat))) := by simpa using hce (i + 1) _ (mkN_get _ _ _ (by omega)) 0 _ rfl
              rw [show ((i + 1 : Nat) : Int) - 1 = (i : Int) from by omega] at hcell
              have hi1 : (i : Int) + 1 < (sl.length : Int) + 1 := by omega
              have hi2 : (0 : Int) ≤ (i : Int) + 1 := by omega
              clear hce
              by_cases hmem : (i : Int) ∈ flat
              · rw [decide_eq_true hmem] at hcell
                have hs2 := Lib.hid (hst.out.trans (if_pos hmem))
                clear hst hmem
                generalize tlN flat i = us at *
                have hba := Lib.hid (HBq.out.alloc HBq.out.size (.cells #[.int .i64 (i : Int)] 2))
                have hka := Lib.hid (HKq.out.alloc (.cells #[.int .i64 (i : Int)] 2))
                have hma := Lib.hid (HMq.out.alloc (.cells #[.int .i64 (i : Int)] 2))
                go_wp2_with (at_builtin; refine push_i64at rfl _ _ rfl (W.heap.size + 1) us _ rfl (HOq.out.alloc _) ⟨_, 0, none⟩ (i : Int) rfl ((Bk.new _ _ _ _ rfl).cell 0 _ rfl) (by have := hle.out; omega) (Nat.le_trans HKq.out.lt (by simp)) ?_)
                intro v4 w4 hO4 hG4 hat
                have hb4 := Lib.hid (hba.out.grown hG4 hba.out.size (fun j hj => by have := HOq.out.base j hj; omega))
                have hk4 := Lib.hid (show Bk w4 W.heap.size _ _ from (hG4.block _ hka.out.lt (fun e => by have := HOq.out.base _ e.symm; omega)).trans hka.out)
                have hm4 := Lib.hid (hma.out.keep (fun j hj => hG4.block j (hma.out.lt j hj) (fun e => HNE.out j e.symm (by simpa [Value.ownBlock] using hj.symm))))
                have hn4 := Lib.hid (show ∀ j, v4.ownBlock = some j → j ≠ gm from fun j hj => by
                  rcases hat with he | he
                  · exact HNE.out j (he ▸ hj)
                  · rw [he] at hj
                    injection hj with hj
                    have := HMq.out.lt gm rfl
                    try simp at hj
                    omega)
                rw [← hs2.out] at hO4
                have hO4 := Lib.hid hO4
                clear hG4 hat
                go_wp2_with fail
                go_roundw
                case rel => exact ⟨i + 1, by omega, by go_num, hO4.out, hn4.out, hm4.out, hk4.out, hb4.out⟩
                case measure => first | (simp [intOf]; done) | (simp [intOf]; omega)
              · rw [decide_eq_false hmem] at hcell
                have hs2 := Lib.hid (hst.out.trans (if_neg hmem))
                clear hst hmem
                go_wp2_with fail
                go_roundw
                case rel => exact ⟨i + 1, by omega, by go_num, by rw [hs2.out]; exact HOq.out, HNE.out, HMq.out, HKq.out, HBq.out⟩
                case measure => first | (simp [intOf]; done) | (simp [intOf]; omega)
            · obtain rfl : i = sl.length := by omega
              have hid : decide ((sl.length : Int) < (sl.length : Int)) = false := by rw [decide_eq_false_iff_not]; omega
              go_wp2_with fail
              go_ret2
              rw [hR.out, hE.out]
              exact RetRow2.mk rfl (HOq.out.more (by omega)) HBq.out
  · have hE := Lib.hid (show touchedBy w h sl xs = ([], cornC w h sl xs) from by simp [touchedBy, touchC, hc])
    have hcb : (cornC w h sl xs == 0) = false := by simpa using hc
    have hcb2 : (cornC w h sl xs != 0) = true := by simpa using hc
    generalize cornC w h sl xs = C at *
    clear hc
    go_wp2_with fail
    go_ret2
    rw [hR.out, hE.out]
    exact RetRow2.mk rfl (HOw.out.more (by omega)) HBw.out
end Go.Proofs.Ytbmkhhhlnollmaa
