/-
PairsBound of the program. Conditions: slices can be read.
-/
import Derived.Test.YtbmkhhhlnollmaaPB2
set_option linter.unusedVariables false
set_option linter.unusedSimpArgs false
set_option maxRecDepth 100000
namespace Go.Proofs.Ytbmkhhhlnollmaa
open Go.RowKit
theorem step_setm {ops : Array Oper} {o : Oper} {a : Act} {K' : Act → World → Prop} {Q : Exit → Act → World → Prop} {E : Prop} {W : World} {T K V : TypeId} {g : Nat} {f : Int → Bool} (hgd : o.guard = none) (m x v : Operand) (ho : o.op = .mapUpdate T m x v)
    (ht : Try.prog.underlying T = some (.map K V)) (hk : Try.prog.underlying K = some (.int .i64)) (h : SetM W g f) (n : Int) (hm : a.eval m = .map (some g)) (hx : a.eval x = .int .i64 n) (hv : a.eval v = .bool true)
    (hK : ∀ w', SetM w' g (fun y => f y || y == n) → W.grownBy w' (some g) → K' (a.put o.dst undef) w') :
    if Region.wanted o (yielded ops a.tmps) = true then Oper.wp Try.prog o a W K' Q else E := by
  have hw : Region.wanted o (yielded ops a.tmps) = true := by simp [Region.wanted, hgd]
  rw [if_pos hw]
  obtain ⟨w', hrun, r1, r2⟩ := h.store (P := Try.prog) ht hk n
  unfold Oper.wp
  simp [execOp, ho, hm, hx, hv, hrun, Result.andThen]
  exact hK w' r1 r2
theorem pbStep_even {us : List Int} {p : Pair} {m : Nat} (h : us.length = 2 * m) (h1 : ¬ p.a ∈ us) (h2 : ¬ p.b ∈ us) : (us ++ [p.a, p.b]).length = 2 * (m + 1) := by simp [h]; omega
theorem mem_two (us : List Int) (a b : Int) : (fun y => ((decide (y ∈ us)) || y == a) || y == b) = fun y => decide (y ∈ us ++ [a, b]) := by
  funext y
  rw [Bool.eq_iff_iff]
  simp [or_assoc]
abbrev MpS (W0 : World) (g b : Nat) (p : Pair) (w' : World) : Prop :=
  W0.grownBy w' (some g) ∧ w'.cell? ⟨b, 0, none⟩ = some (.int .i64 p.a) ∧ w'.cell? ⟨b, 1, none⟩ = some (.int .i64 p.b)
theorem MpS.keep {W0 w1 w2 : World} {g b : Nat} {p : Pair} (hb : b < W0.heap.size) (hS : MpS W0 g b p w1) (k : Below w1.heap.size w1 w2) : MpS W0 g b p w2 := by
  obtain ⟨h0, h1, h2⟩ := hS
  have q : ∀ o, w2.cell? ⟨b, o, none⟩ = w1.cell? ⟨b, o, none⟩ := fun o => k.cell (p := ⟨b, o, none⟩) (Nat.lt_of_lt_of_le hb h0.size)
  exact ⟨h0.trans (grown_of_below k _), (q _).trans h1, (q _).trans h2⟩
theorem MpS.keepG {W0 w1 w2 : World} {g b : Nat} {p : Pair} (hb : b < W0.heap.size) (hne : b ≠ g) (hS : MpS W0 g b p w1) (hG : w1.grownBy w2 (some g)) : MpS W0 g b p w2 := by
  obtain ⟨h0, h1, h2⟩ := hS
  have q : ∀ o, w2.cell? ⟨b, o, none⟩ = w1.cell? ⟨b, o, none⟩ := fun o => World.cell?_of_block (a := ⟨b, o, none⟩) (hG.block b (Nat.lt_of_lt_of_le hb h0.size) (fun e => hne (by injection e)))
  exact ⟨h0.trans hG, (q _).trans h1, (q _).trans h2⟩
theorem zeroBool_run (w : World) : (zeroValue 4).run Try.prog w = .ok (.bool false) w := by kernel_rfl
set_option maxHeartbeats 2000000 in
theorem implPairsBound_calls (w h : Int) (z : Value) (sl : List Slab) (lv : List Int) (u : Value) (limit : Int) (W : World) (hq : SqIn W w h z sl) (ht : Sl W W.heap.size i64c 1 u lv) :
    Calls Try.prog 50 #[sqv w h z, u, .int .i64 limit] W (RetII W (pairsBound w h sl lv limit)) := by
  obtain ⟨A, cap, hz, -, -, -⟩ := hq.sl.slab
  subst hz
  obtain ⟨A2, cap2, rfl, -, -, -⟩ := ht.i64
  have HQ := Lib.hid hq
  have HT := Lib.hid ht
  have HB := Lib.hid ((Below.refl W.heap.size W).alloc (Nat.le_refl _) (.cells #[.int .i8 w, .int .i8 h, .slice A sl.length cap] 34))
  have K0 := Lib.hid (Bk.new W 34 #[.int .i8 w, .int .i8 h, .slice A sl.length cap] W.heap.size rfl)
  have qa := Lib.hid (tripCode_calls w h _ sl lv _ limit _ (hq.ext HB.out) (ht.ext HB.out))
  have k0 := K0.out.cell 0 _ rfl
  have k1 := K0.out.cell 1 _ rfl
  have k2 := K0.out.cell 2 _ rfl
  clear hq ht
  unfold sqv at *
  go_enter Try.func50, Try.ntmps50
  go_wp2_with fail
  refine qa.out.mono ?_
  rintro e w1 ⟨rfl, hb1⟩
  have HB1 := Lib.hid (ext_trans HB.out hb1)
  have K01 := Lib.hid (K0.out.ext hb1)
  clear hb1 qa k0 k1 k2
  by_cases hc : tripC w h sl lv (inB limit 0 200) = 0
  · have hE := Lib.hid (pairsBound_ok hc)
    obtain ⟨hlb, -⟩ := tripC_ok hc
    obtain ⟨hv, hll, hsm⟩ := levB_ok hlb
    have HM0 := Lib.hid (SetM.new w1)
    have HBm := Lib.hid (HB1.out.alloc HB1.out.size (.map #[] 0))
    have K0m := Lib.hid (K01.out.alloc (.map #[] 0))
    have qp := Lib.hid (pairs_calls w h _ sl (sqOk_small hv) (sqOk_len hv) (w1.alloc (.map #[] 0)) (HQ.out.ext HBm.out))
    have hpl := Lib.hid (prsL_len60 (sqOk_len hv))
    have hpl2 := Lib.hid (Nat.le_trans (tripsL_len lv limit (prsL sl)) (prsL_len60 (sqOk_len hv)))
    have HIX := Lib.hid (prsL_idx hll)
    have HSM := Lib.hid hsm
    have k0 := K0m.out.cell 0 _ rfl
    have k1 := K0m.out.cell 1 _ rfl
    have k2 := K0m.out.cell 2 _ rfl
    unfold sqv at qp
    rw [hc]
    clear hc hv hll hsm hlb
    generalize prsL sl = qs at *
    have hmk := fun w => run_makeMap (P := Try.prog) 122 w
    go_wp2_with fail
    clear hmk
    refine qp.out.mono ?_
    rintro e w2 ⟨v2, rfl, hO2, hb2⟩
    have HB2 := Lib.hid (ext_trans HBm.out hb2)
    have HM2 := Lib.hid (HM0.out.ext hb2)
    have qt := Lib.hid (trips_calls qs v2 lv _ limit w2 (hO2.sl Pair.c_len) (by have := hpl.out; omega) (HT.out.ext HB2.out) HIX.out HSM.out)
    clear hO2 hb2 k0 k1 k2
    generalize tripsL lv limit qs = ps at *
    go_wp2_with fail
    refine qt.out.mono ?_
    rintro e w3 ⟨v3, rfl, hO3, hb3⟩
    obtain ⟨A4, cap4, rfl, -, -, -⟩ := (hO3.sl Pair.c_len).pair
    have HB3 := Lib.hid (ext_trans HB2.out hb3)
    have HM3 := Lib.hid (HM2.out.ext hb3)
    have HP3 := Lib.hid hO3
    have hgm := Lib.hid (show ∀ j, (Value.slice A4 ps.length cap4).ownBlock = some j → w1.heap.size < j from fun j hj => by have := hO3.base j hj; have := HM2.out.lt; omega)
    have hsz1 := Lib.hid HB1.out.size
    clear hO3 hb3
    generalize w1.heap.size = gm at *
    go_wp2_with fail
    go_loopw [9, 12, 27] (fun r _ c wr => ∃ (k m : Nat), k ≤ ps.length ∧ m ≤ k ∧ c = .int .i64 (k : Int) ∧ r = .int .i64 (m : Int) ∧ (pbFold (ps.take k)).length = 2 * m ∧ SetM wr gm (fun y => decide (y ∈ pbFold (ps.take k))) ∧ Own wr w2.heap.size 120 Pair.c 2 (.slice A4 ps.length cap4) ps ∧ Below W.heap.size W wr) (fun _ _ c _ => ps.length - (intOf c).toNat)
    case atStart => exact ⟨0, 0, by omega, by omega, rfl, rfl, rfl, by simpa [pbFold] using HM3.out, HP3.out, HB3.out⟩
    case round =>
      obtain ⟨k, m, hk, hmk, rfl, rfl, hul, hM, hP, hb⟩ := hrel
      have HU := Lib.hid hul
      have HM := Lib.hid hM
      have HPr := Lib.hid hP
      have HBr := Lib.hid hb
      clear hM hP hb hul
      by_cases hlt : k < ps.length
      · obtain ⟨A6, cap6, hv, _, _, hcell⟩ := (HPr.out.sl Pair.c_len).pair
        obtain ⟨rfl, rfl⟩ : A4 = A6 ∧ cap4 = cap6 := by injection hv with e1 e2 e3; exact ⟨e1, e3⟩
        obtain ⟨b1, o1, rfl, hbb, c0, c1⟩ := hcell k hlt
        have hst := Lib.hid (pbFold_succ ps k hlt)
        clear hcell hv
        generalize ps[k] = p at *
        generalize pbFold (ps.take k) = us at *
        have hba := Lib.hid ((Below.refl wr.heap.size wr).alloc (Nat.le_refl _) (.cells #[.int .i64 p.a, .int .i64 p.b] 120))
        have KV := Lib.hid (Bk.new wr 120 #[.int .i64 p.a, .int .i64 p.b] wr.heap.size rfl)
        have HMa := Lib.hid (HM.out.ext hba.out)
        have HPa := Lib.hid (HPr.out.ext hba.out)
        have HBa := Lib.hid (ext_trans HBr.out hba.out)
        have l1 := HMa.out.look (P := Try.prog) Try.underlying122 Try.underlying2 (zeroBool_run _) p.a
        have l2 := HMa.out.look (P := Try.prog) Try.underlying122 Try.underlying2 (zeroBool_run _) p.b
        have v0 := KV.out.cell 0 _ rfl
        have v1 := KV.out.cell 1 _ rfl
        by_cases h1 : p.a ∈ us
        · have hs2 := Lib.hid (show pbFold (ps.take (k + 1)) = us from by rw [hst.out, pbStep, if_pos (.inl h1)])
          simp only [decide_eq_true h1] at l1
          have h1 := Lib.hid h1
          clear hst l2
          go_wp2_with fail
          go_roundw
          case rel => exact ⟨k + 1, m, by omega, by omega, by go_num, rfl, by rw [hs2.out]; exact HU.out, by rw [hs2.out]; exact HMa.out, HPa.out, HBa.out⟩
          case measure => first | (simp [intOf]; done) | (simp [intOf]; omega)
        · simp only [decide_eq_false h1] at l1
          by_cases h2 : p.b ∈ us
          · have hs2 := Lib.hid (show pbFold (ps.take (k + 1)) = us from by rw [hst.out, pbStep, if_pos (.inr h2)])
            simp only [decide_eq_true h2] at l2
            have h1 := Lib.hid h1
            have h2 := Lib.hid h2
            clear hst
            go_wp2_with fail
            go_roundw
            case rel => exact ⟨k + 1, m, by omega, by omega, by go_num, rfl, by rw [hs2.out]; exact HU.out, by rw [hs2.out]; exact HMa.out, HPa.out, HBa.out⟩
            case measure => first | (simp [intOf]; done) | (simp [intOf]; omega)
          · have hs2 := Lib.hid (show pbFold (ps.take (k + 1)) = us ++ [p.a, p.b] from by rw [hst.out, pbStep, if_neg (by rintro (h | h); exact h1 h; exact h2 h)])
            have hev := Lib.hid (pbStep_even (p := p) HU.out h1 h2)
            simp only [decide_eq_false h2] at l2
            have h1 := Lib.hid h1
            have h2 := Lib.hid h2
            have hmm := Lib.hid (mem_two us p.a p.b)
            have hkl := Lib.hid (show k ≤ 3600 from by have := hpl2.out; omega)
            have hk36 := hkl.out
            clear hst
            go_wp2_with fail
            generalize wr.alloc (.cells #[.int .i64 p.a, .int .i64 p.b] 120) = wa at *
            have hbv : wr.heap.size < wa.heap.size := KV.out.lt
            have hne : wr.heap.size ≠ gm := by have := HM.out.lt; omega
            have hS : MpS wa gm wr.heap.size p wa := ⟨World.grownBy.refl _ _, v0, v1⟩
            refine wp_region_held_drew (S := (MpS wa gm wr.heap.size p)) (by kernel_rfl) ?r23_hS0 (fun hHeld => ?r23_rest)
            case r23_hS0 => (try dsimp only); first | assumption | exact MpS.keep hbv (by assumption) ((Below.refl _ _).drew) | exact MpS.keepG hbv hne (by assumption) hG5 | exact MpS.keepG hbv hne (by assumption) hG4
            refine wpAnyH_take (i := 0) (v := ?r23_vv0) (by (simp only [List.getElem?_toArray, List.getElem?_cons_succ, List.getElem?_cons_zero]; rfl)) (by kernel_rfl) (by kernel_rfl) (by kernel_rfl) (by exact fun _ _ _ h => h) (Or.inl ⟨by rfl, ?r23_hy0⟩) (by assumption) ?r23_rest0
            case r23_hy0 => intro w hSw; (try dsimp only at hSw); (go_simp <;> (with_reducible rfl))
            try simp only [Act.put, List.setIfInBounds_toArray, List.set_cons_zero, List.set_cons_succ]
            refine wpAnyH_take (i := 1) (v := ?r23_vv1) (by (simp only [List.getElem?_toArray, List.getElem?_cons_succ, List.getElem?_cons_zero]; rfl)) (by kernel_rfl) (by kernel_rfl) (by kernel_rfl) (by exact fun _ _ _ h => h) (Or.inl ⟨by rfl, ?r23_hy1⟩) (by assumption) ?r23_rest1
            case r23_hy1 => intro w hSw; (try dsimp only at hSw); (go_simp <;> (with_reducible rfl))
            try simp only [Act.put, List.setIfInBounds_toArray, List.set_cons_zero, List.set_cons_succ]
            refine wpAnyH_take (i := 2) (v := ?r23_vv2) (by (simp only [List.getElem?_toArray, List.getElem?_cons_succ, List.getElem?_cons_zero]; rfl)) (by kernel_rfl) (by kernel_rfl) (by kernel_rfl) (by exact fun _ _ _ h => h) (Or.inl ⟨by rfl, ?r23_hy2⟩) (by assumption) ?r23_rest2
            case r23_hy2 => intro w hSw; (try dsimp only at hSw); (go_simp <;> (with_reducible rfl))
            try simp only [Act.put, List.setIfInBounds_toArray, List.set_cons_zero, List.set_cons_succ]
            refine wpAnyH_take (i := 3) (v := ?r23_vv3) (by (simp only [List.getElem?_toArray, List.getElem?_cons_succ, List.getElem?_cons_zero]; rfl)) (by kernel_rfl) (by kernel_rfl) (by kernel_rfl) (by exact fun _ _ _ h => h) (Or.inl ⟨by rfl, ?r23_hy3⟩) (by assumption) ?r23_rest3
            case r23_hy3 => intro w hSw; (try dsimp only at hSw); (go_simp <;> (with_reducible rfl))
            try simp only [Act.put, List.setIfInBounds_toArray, List.set_cons_zero, List.set_cons_succ]
            refine wpAnyH_take (i := 4) (v := ?r23_vv4) (by (simp only [List.getElem?_toArray, List.getElem?_cons_succ, List.getElem?_cons_zero]; rfl)) (by kernel_rfl) (by kernel_rfl) (by kernel_rfl) (by exact fun _ _ _ h => h) (Or.inl ⟨by rfl, ?r23_hy4⟩) (by assumption) ?r23_rest4
            case r23_hy4 => intro w hSw; (try dsimp only at hSw); (go_simp <;> (with_reducible rfl))
            try simp only [Act.put, List.setIfInBounds_toArray, List.set_cons_zero, List.set_cons_succ]
            refine wpAnyH_take (i := 5) (v := ?r23_vv5) (by (simp only [List.getElem?_toArray, List.getElem?_cons_succ, List.getElem?_cons_zero]; rfl)) (by kernel_rfl) (by kernel_rfl) (by kernel_rfl) (by exact fun _ _ _ h => h) (Or.inl ⟨by rfl, ?r23_hy5⟩) (by assumption) ?r23_rest5
            case r23_hy5 => intro w hSw; (try dsimp only at hSw); (go_simp <;> (with_reducible rfl))
            try simp only [Act.put, List.setIfInBounds_toArray, List.set_cons_zero, List.set_cons_succ]
            refine wpAnyH_ready (rs := [6]) (by kernel_rfl) (by simp) ?_
            refine AllReadyH.cons (by (simp only [List.getElem?_toArray, List.getElem?_cons_succ, List.getElem?_cons_zero]; rfl)) (fun K hK => ?_) AllReadyH.nil
            (refine step_setm rfl _ _ _ rfl Try.underlying122 Try.underlying2 (HMa.out.ext ((Below.refl _ _).drew)) p.a rfl rfl rfl ?_; intro w4 hM4 hG4)
            refine hK.out _ _ ?r23_hS6 (fun hHeld => ?r23_r6)
            case r23_hS6 => (try dsimp only); first | assumption | exact MpS.keep hbv (by assumption) ((Below.refl _ _).drew) | exact MpS.keepG hbv hne (by assumption) hG5 | exact MpS.keepG hbv hne (by assumption) hG4
            clear hK K
            try simp only [Act.put, List.setIfInBounds_toArray, List.set_cons_zero, List.set_cons_succ]
            refine wpAnyH_ready (rs := [7]) (by kernel_rfl) (by simp) ?_
            refine AllReadyH.cons (by (simp only [List.getElem?_toArray, List.getElem?_cons_succ, List.getElem?_cons_zero]; rfl)) (fun K hK => ?_) AllReadyH.nil
            (refine step_setm rfl _ _ _ rfl Try.underlying122 Try.underlying2 hM4 p.b rfl rfl rfl ?_; intro w5 hM5 hG5)
            refine hK.out _ _ ?r23_hS7 (fun hHeld => ?r23_r7)
            case r23_hS7 => (try dsimp only); first | assumption | exact MpS.keep hbv (by assumption) ((Below.refl _ _).drew) | exact MpS.keepG hbv hne (by assumption) hG5 | exact MpS.keepG hbv hne (by assumption) hG4
            clear hK K
            try simp only [Act.put, List.setIfInBounds_toArray, List.set_cons_zero, List.set_cons_succ]
            refine wpAnyH_done (by kernel_rfl) ?_ _
            have h9 := Lib.hid (show MpS wa gm wr.heap.size p w5 from by assumption)
            have HM5 := Lib.hid hM5
            rw [hmm.out, ← hs2.out] at HM5
            clear hS hM4 hM5 hG4 hG5 v0 v1 l1 l2
            repeat clear hHeld
            have HP5 := Lib.hid (HPa.out.keep (fun j hj => h9.out.1.block j (HPa.out.lt j hj) (fun he => by injection he with he; have := hgm.out j hj; omega)))
            have HB5 := Lib.hid (HBa.out.grown h9.out.1 HBa.out.size (fun j hj => by injection hj with hj; have := hsz1.out; omega))
            go_wp2_with fail
            go_roundw
            case rel => exact ⟨k + 1, m + 1, by omega, by omega, by go_num, by go_num, by rw [hs2.out]; exact hev.out, HM5.out, HP5.out, HB5.out⟩
            case measure => first | (simp [intOf]; done) | (simp [intOf]; omega)
      · obtain rfl : k = ps.length := by omega
        have hE2 := Lib.hid (show ps.take ps.length = ps from List.take_length)
        rw [hE2.out] at HU
        have hE3 := Lib.hid (show (m : Int) = (((pbFold ps).length / 2 : Nat) : Int) from by rw [HU.out]; omega)
        go_wp2_with fail
        go_ret2
        rw [hE.out, ← hE3.out]
        exact ⟨rfl, HBr.out⟩
  · have hE := Lib.hid (pairsBound_no hc)
    have hcb : (tripC w h sl lv (inB limit 0 200) == 0) = false := by simpa using hc
    have hcb2 : (tripC w h sl lv (inB limit 0 200) != 0) = true := by simpa using hc
    generalize tripC w h sl lv (inB limit 0 200) = C at *
    clear hc
    go_wp2_with fail
    go_ret2
    rw [hE.out]
    exact ⟨rfl, HB1.out⟩
end Go.Proofs.Ytbmkhhhlnollmaa
