/-
FewestExchanged of the program. Conditions: slices can be read.
-/
import Derived.Test.YtpjdgpcdcihogaaFX1
set_option linter.unusedVariables false
set_option linter.unusedSimpArgs false
set_option maxRecDepth 100000
namespace Go.Proofs.Ytpjdgpcdcihogaa
open Go.RowKit
theorem flatP_len (ts : List Pair) : (flatP ts).length = 2 * ts.length := by
  unfold flatP
  induction ts with
  | nil => rfl
  | cons p ts ih => rw [List.flatMap_cons, List.length_append, ih]; simp; omega
theorem trips_idx {sl : List Slab} {lv : List Int} {limit : Int} : ∀ p ∈ tripsL lv limit (prsL sl), idxP sl.length p ∧ p.a ≠ p.b := by
  intro p hp
  have hp2 := (List.mem_filter.1 hp).1
  obtain ⟨h1, h2, h3, h4⟩ := prsN_mem _ _ _ hp2
  exact ⟨⟨h1, h2, by omega, h4⟩, by omega⟩
set_option maxHeartbeats 8000000 in
theorem implFewest_calls (w h : Int) (z : Value) (sl : List Slab) (lv : List Int) (u : Value) (limit : Int) (W : World) (hq : SqIn W w h z sl) (ht : Sl W W.heap.size i64c 1 u lv) :
    Calls Try.prog 40 #[sqv w h z, u, .int .i64 limit] W (RetRow2 W 2 i64c 1 (fewest w h sl lv limit)) := by
  obtain ⟨A, cap, hz, -, -, -⟩ := hq.sl.slab
  subst hz
  obtain ⟨A2, cap2, rfl, -, -, -⟩ := ht.i64
  have HQ := Lib.hid hq
  have HT := Lib.hid ht
  have HB := Lib.hid ((Below.refl W.heap.size W).alloc (Nat.le_refl _) (.cells #[.int .i8 w, .int .i8 h, .slice A sl.length cap] 34))
  have K0 := Lib.hid (Bk.new W 34 #[.int .i8 w, .int .i8 h, .slice A sl.length cap] W.heap.size rfl)
  have qa := Lib.hid (tripCode_calls w h _ sl lv _ limit _ (hq.ext HB.out) (ht.ext HB.out))
  have k0 := K0.out.cell 0 _ rfl
  have k1 := K0.out.cell 1 _ rfl
  have k2 := K0.out.cell 2 _ rfl
  clear hq ht
  unfold sqv at *
  go_enter Try.func40, Try.ntmps40
  go_wp2_with fail
  refine qa.out.mono ?_
  rintro e w1 ⟨rfl, hb1⟩
  have HB1 := Lib.hid (ext_trans HB.out hb1)
  have K01 := Lib.hid (K0.out.ext hb1)
  clear hb1 qa k0 k1 k2
  by_cases hc : tripC w h sl lv (inB limit 0 200) = 0
  · have hE := Lib.hid (fewest_ok hc)
    obtain ⟨hlb, -⟩ := tripC_ok hc
    obtain ⟨hv, hll, hsm⟩ := levB_ok hlb
    have qp := Lib.hid (pairs_calls w h _ sl (sqOk_small hv) (sqOk_len hv) w1 (HQ.out.ext HB1.out))
    have hpl0 := Lib.hid (prsL_len60 (sqOk_len hv))
    have hpl := Lib.hid (Nat.le_trans (tripsL_len lv limit (prsL sl)) (prsL_len60 (sqOk_len hv)))
    have HIP := Lib.hid (prsL_idx hll)
    have HIX := Lib.hid (trips_idx (sl := sl) (lv := lv) (limit := limit))
    have HSM := Lib.hid hsm
    have k0 := K01.out.cell 0 _ rfl
    have k1 := K01.out.cell 1 _ rfl
    have k2 := K01.out.cell 2 _ rfl
    unfold sqv at qp
    rw [hc]
    clear hc hv hll hsm hlb
    go_wp2_with fail
    refine qp.out.mono ?_
    rintro e w2 ⟨v2, rfl, hO2, hb2⟩
    have HB2 := Lib.hid (ext_trans HB1.out hb2)
    have K02 := Lib.hid (K01.out.ext hb2)
    have qt := Lib.hid (trips_calls (prsL sl) v2 lv _ limit w2 (hO2.sl Pair.c_len) (by have := hpl0.out; omega) (HT.out.ext HB2.out) HIP.out HSM.out)
    clear hO2 hb2 k0 k1 k2 qp
    generalize tripsL lv limit (prsL sl) = ts at *
    go_wp2_with fail
    refine qt.out.mono ?_
    rintro e w3 ⟨v3, rfl, hO3, hb3⟩
    obtain ⟨A4, cap4, rfl, -, -, -⟩ := (hO3.sl Pair.c_len).pair
    have HB3 := Lib.hid ((ext_trans HB2.out hb3).alloc (ext_trans HB2.out hb3).size (.cells #[] 2))
    have K03 := Lib.hid ((K02.out.ext hb3).alloc (.cells #[] 2))
    have HP3 := Lib.hid ((hO3.more (show W.heap.size + 1 ≤ w2.heap.size from K02.out.lt)).alloc (.cells #[] 2))
    have HU3 := Lib.hid ((Own.empty (α := Int) (c := i64c) (sz := 1) (E := 2) w3 w3.heap.size w3.heap.size rfl (Nat.le_refl _)).more (show W.heap.size + 1 ≤ w3.heap.size from (K02.out.ext hb3).lt))
    have HD3 := Lib.hid (show Dis (.slice (some ⟨w3.heap.size, 0, none⟩) 0 0) (.slice A4 ts.length cap4) from fun j h1 h2 => by have := hO3.lt j h2; simp [Value.ownBlock] at h1; omega)
    clear hO3 hb3 qt
    go_wp2_with fail
    go_loopw [10, 12, 34] (fun r _ c wr => ∃ k : Nat, k ≤ ts.length ∧ c = .int .i64 (k : Int) ∧ (∃ g c, r = .slice (some ⟨g, 0, none⟩) (flatP (ts.take k)).length c) ∧ Own wr (W.heap.size + 1) 2 i64c 1 r (flatP (ts.take k)) ∧ Own wr (W.heap.size + 1) 98 Pair.c 2 (.slice A4 ts.length cap4) ts ∧ Dis r (.slice A4 ts.length cap4) ∧ Bk wr W.heap.size 34 #[.int .i8 w, .int .i8 h, .slice A sl.length cap] ∧ Below W.heap.size W wr) (fun _ _ c _ => ts.length - (intOf c).toNat)
    case atStart => exact ⟨0, by omega, rfl, ⟨_, _, rfl⟩, HU3.out, HP3.out, HD3.out, K03.out, HB3.out⟩
    case round =>
      obtain ⟨k, hk, rfl, ⟨g, c, rfl⟩, hO, hP, hD, hK, hb⟩ := hrel
      have HO := Lib.hid hO
      have HP := Lib.hid hP
      have HD := Lib.hid hD
      have HK := Lib.hid hK
      have HBr := Lib.hid hb
      have hfl := Lib.hid (show (flatP (ts.take k)).length ≤ 7200 from by have h1 := flatP_len (ts.take k); rw [List.length_take] at h1; have := hpl.out; omega)
      have hp36 := hpl.out
      clear hO hP hD hK hb
      by_cases hlt : k < ts.length
      · obtain ⟨A6, cap6, hv, _, _, hcell⟩ := (HP.out.sl Pair.c_len).pair
        obtain ⟨rfl, rfl⟩ : A4 = A6 ∧ cap4 = cap6 := by injection hv with e1 e2 e3; exact ⟨e1, e3⟩
        obtain ⟨b1, o1, rfl, hbb, c0, c1⟩ := hcell k hlt
        have hst := Lib.hid (flatP_succ ts k hlt)
        clear hcell hv
        generalize ts[k] = p at *
        generalize flatP (ts.take k) = us at *
        have KV := Lib.hid (Bk.new wr 98 #[.int .i64 p.a, .int .i64 p.b] wr.heap.size rfl)
        have HOa := Lib.hid (HO.out.alloc (.cells #[.int .i64 p.a, .int .i64 p.b] 98))
        have HPa := Lib.hid (HP.out.alloc (.cells #[.int .i64 p.a, .int .i64 p.b] 98))
        have HKa := Lib.hid (HK.out.alloc (.cells #[.int .i64 p.a, .int .i64 p.b] 98))
        have HBa := Lib.hid (HBr.out.alloc HBr.out.size (.cells #[.int .i64 p.a, .int .i64 p.b] 98))
        go_upto_region 8 with (fail)
        generalize wr.alloc (.cells #[.int .i64 p.a, .int .i64 p.b] 98) = wa at *
        have v0 := KV.out.cell 0 _ rfl
        have v1 := KV.out.cell 1 _ rfl
        clear c0 c1
        have hba := Lib.hid (HBa.out.alloc HBa.out.size (.cells #[.int .i64 p.a, .int .i64 p.b] 2))
        have hka := Lib.hid (HKa.out.alloc (.cells #[.int .i64 p.a, .int .i64 p.b] 2))
        have hpa := Lib.hid (HPa.out.alloc (.cells #[.int .i64 p.a, .int .i64 p.b] 2))
        go_wp2_with (at_builtin; refine push_app appI64 rfl _ _ rfl (W.heap.size + 1) us [p.a, p.b] _ _ rfl rfl (HOa.out.alloc _) (bk_i64s [p.a, p.b] (Bk.new _ _ _ _ rfl) rfl (by simp)) (by have := hfl.out; simp; omega) (by have := hfl.out; simp; omega) (Nat.le_trans HKa.out.lt (by simp)) ?_)
        intro v4 w4 hO4 hG4 hat
        have hb4 := Lib.hid (hba.out.grown hG4 hba.out.size (fun j hj => by have := HOa.out.base j hj; omega))
        have hk4 := Lib.hid (show Bk w4 W.heap.size _ _ from (hG4.block _ hka.out.lt (fun e => by have := HOa.out.base _ e.symm; omega)).trans hka.out)
        have HP4 := Lib.hid (hpa.out.keep (fun j hj => hG4.block j (hpa.out.lt j hj) (fun he => HD.out j he.symm hj)))
        have HD4 := Lib.hid (show Dis v4 (.slice (some ⟨b1, o1, none⟩) ts.length cap4) from fun j h1 h2 => by
          rcases hat with he | he
          · exact HD.out j (he ▸ h1) h2
          · rw [he] at h1
            injection h1 with h1
            have := HPa.out.lt j h2
            try simp at h1
            omega)
        obtain ⟨g4, c4, hv4, -⟩ := hO4.room i64c_len (by simp)
        rw [← hst.out] at hO4 hv4
        have hO4 := Lib.hid hO4
        have hv4 := Lib.hid hv4
        clear hG4 hat
        go_wp2_with fail
        go_roundw
        case rel => exact ⟨k + 1, by omega, by go_num, ⟨g4, c4, hv4.out⟩, hO4.out, HP4.out, HD4.out, hk4.out, hb4.out⟩
        case measure => first | (simp [intOf]; done) | (simp [intOf]; omega)
      · obtain rfl : k = ts.length := by omega
        have qs := Lib.hid (sortI64_calls (flatP (ts.take ts.length)) g c (W.heap.size + 1) wr HO.out (by have := hfl.out; omega))
        rw [List.take_length] at qs HO hfl
        have hbd := Lib.hid (show ∀ x ∈ flatP ts, 0 ≤ x ∧ x < (sl.length : Int) from fun x hx => by
          obtain ⟨p, hp, hx⟩ := List.mem_flatMap.1 hx
          obtain ⟨⟨h1, h2, h3, h4⟩, -⟩ := HIX.out p hp
          simp only [List.mem_cons, List.not_mem_nil, or_false] at hx
          rcases hx with rfl | rfl
          · exact ⟨h1, h2⟩
          · exact ⟨h3, h4⟩)
        have hcs := Lib.hid (compact_sorted (flatP ts) sl.length hbd.out)
        have hgl := Lib.hid (HO.out.base g rfl)
        have htk : (flatP (ts.take ts.length)).length = (flatP ts).length := by rw [List.take_length]
        rw [htk] at *
        clear htk hlt
        go_wp2_with fail
        refine qs.out.mono ?_
        rintro e w4 ⟨rfl, hO4, hG4⟩
        have qcm := Lib.hid (compactI64_calls ((flatP ts).mergeSort fun x y => decide (x ≤ y)) g c (W.heap.size + 1) w4 (by rw [List.length_mergeSort]; exact hO4) (by rw [List.length_mergeSort]; have := hfl.out; omega))
        rw [List.length_mergeSort, hcs.out] at qcm
        have HB4 := Lib.hid (HBr.out.grown hG4 HBr.out.size (fun j hj => by injection hj with hj; have := hgl.out; omega))
        have HP4 := Lib.hid (HP.out.keep (fun j hj => hG4.block j (HP.out.lt j hj) (fun e => HD.out j e.symm hj)))
        have HK4 := Lib.hid (HK.out.grown hG4 (by have := hgl.out; omega))
        clear hO4 hG4
        go_wp2_with fail
        refine qcm.out.mono ?_
        rintro e w5 ⟨rfl, hO5, hG5⟩
        have HO := Lib.hid hO5
        have HBr := Lib.hid (HB4.out.grown hG5 HB4.out.size (fun j hj => by injection hj with hj; have := hgl.out; omega))
        have HP := Lib.hid (HP4.out.keep (fun j hj => hG5.block j (HP4.out.lt j hj) (fun e => HD.out j e.symm hj)))
        have HK := Lib.hid (HK4.out.grown hG5 (by have := hgl.out; omega))
        clear hO5 hG5
        have hus := Lib.hid (show tlN (flatP ts) sl.length = slabsT ts sl.length from rfl)
        rw [hus.out] at HO
        rw [hus.out]
        generalize slabsT ts sl.length = us at *
        by_cases h12 : 12 < us.length
        · have hE2 := Lib.hid (hE.out.trans (if_pos h12))
          have hd12 : decide ((12 : Int) < (us.length : Int)) = true := by rw [decide_eq_true_eq]; omega
          clear h12
          go_wp2_with fail
          go_ret2
          rw [hE2.out]
          exact RetRow2.mk rfl (Own.nil_ _ _ _ _ _) HBr.out
        · have hE2 := Lib.hid (hE.out.trans (if_neg h12))
          have hd12 : decide ((12 : Int) < (us.length : Int)) = false := by rw [decide_eq_false_iff_not]; omega
          have h12 := Lib.hid h12
          obtain ⟨N, hN⟩ : ∃ N : Nat, N = 2 ^ us.length := ⟨_, rfl⟩
          rw [← hN] at hE2
          have hsh : (2 : Int) ^ us.length = (N : Int) := by rw [hN]; simp
          have h4096 := Lib.hid (show N ≤ 4096 from by rw [hN]; have := h12.out; exact Nat.le_trans (Nat.pow_le_pow_right (by omega) (show us.length ≤ 12 from by omega)) (by decide))
          have hwr : (2 : Int) ^ us.length % 18446744073709551616 = (N : Int) := by rw [hsh]; have := h4096.out; omega
          have hwu : IntKind.u64.wrap ((2 : Int) ^ us.length) = (N : Int) := by rw [hsh, IntKind.wrap_u64]; have := h4096.out; omega
          have HN := Lib.hid hN
          clear hN hsh
          go_wp2_with fail
          try simp only [hwr, hwu]
          go_loopw [13, 14, 15, 16, 17, 18, 57, 61, 62, 63] (fun b _ _ _ _ _ cs _ _ _ wr => ∃ s : Nat, s ≤ N ∧ cs = .int .u64 (s : Int) ∧ Own wr (W.heap.size + 1) 2 i64c 1 b (fxN ts us s) ∧ Own wr (W.heap.size + 1) 2 i64c 1 (.slice (some ⟨g, 0, none⟩) us.length c) us ∧ Own wr (W.heap.size + 1) 98 Pair.c 2 (.slice A4 ts.length cap4) ts ∧ Bk wr W.heap.size 34 #[.int .i8 w, .int .i8 h, .slice A sl.length cap] ∧ Below W.heap.size W wr) (fun _ _ _ _ _ _ c _ _ _ _ => N - (intOf c).toNat)
          case atStart => exact ⟨0, by omega, rfl, HO.out, HO.out, HP.out, HK.out, HBr.out⟩
          case round =>
            obtain ⟨wo, rfl⟩ : ∃ wo : World, wo = wr := ⟨_, rfl⟩
            obtain ⟨s, hs, rfl, hb0, hu0, hp0, hk0, hbb0⟩ := hrel
            have HBo := Lib.hid hb0
            have HUo := Lib.hid hu0
            have HPo := Lib.hid hp0
            have HKo := Lib.hid hk0
            have HXo := Lib.hid hbb0
            obtain ⟨A9, cap9, rfl, -, -, -⟩ := (hb0.sl i64c_len).i64
            clear hb0 hu0 hp0 hk0 hbb0
            by_cases hlts : s < N
            · have hs4 : s < 4096 := Nat.lt_of_lt_of_le hlts h4096.out
              have hsd : decide ((s : Int) < (N : Int)) = true := by rw [decide_eq_true_eq]; omega
              have hfx := Lib.hid (show fxN ts us (s + 1) = if (betB (ownS us s us.length) (fxN ts us s) && coversB ts (ownS us s us.length)) = true then ownS us s us.length else fxN ts us s from rfl)
              have hfl := Lib.hid (fxN_len ts us s)
              have h12n : us.length ≤ 12 := by have := h12.out; omega
              have hn12 := Lib.hid h12n
              have hO0 := Lib.hid (Own.empty (α := Int) (c := i64c) (sz := 1) (E := 2) wo wo.heap.size wo.heap.size rfl (Nat.le_refl _))
              have hX0 := Lib.hid ((Below.refl wo.heap.size wo).alloc (Nat.le_refl _) (.cells #[] 2))
              go_wp2_with fail
              try simp only [hwr, hwu]
              go_loopw [15, 16, 17, 63] (fun r _ _ c wr => ∃ i : Nat, i ≤ us.length ∧ c = .int .i64 (i : Int) ∧ Own wr wo.heap.size 2 i64c 1 r (ownS us s i) ∧ Below wo.heap.size wo wr) (fun _ _ _ c _ => us.length - (intOf c).toNat)
              case atStart => exact ⟨0, by omega, rfl, hO0.out, hX0.out⟩
              case round =>
                obtain ⟨i, hi, rfl, hO, hb⟩ := hrel
                have HOi := Lib.hid hO
                have HBi := Lib.hid hb
                clear hO hb
                by_cases hlti : i < us.length
                · obtain ⟨A8, cap8, hv, _, _, hcell⟩ := (HUo.out.sl i64c_len).i64
                  obtain ⟨rfl, rfl⟩ : (some (⟨g, 0, none⟩ : Addr)) = A8 ∧ c = cap8 := by injection hv with e1 e2 e3; exact ⟨e1, e3⟩
                  obtain ⟨b1, o1, he1, hbb, c0⟩ := hcell i hlti
                  obtain ⟨rfl, rfl⟩ : g = b1 ∧ 0 = o1 := by injection he1 with he1; injection he1 with e1 e2; exact ⟨e1, e2⟩
                  clear he1
                  have c0 := (HBi.out.cell (p := ⟨g, _, none⟩) hbb).trans c0
                  rw [Nat.zero_add] at c0
                  have hst := Lib.hid (show ownS us s (i + 1) = if bitB s i = true then ownS us s i ++ [us[i]] else ownS us s i from by rw [ownS, List.getD_eq_getElem?_getD, List.getElem?_eq_getElem hlti]; rfl)
                  have hle := Lib.hid (ownS_len us s i)
                  have hbit := bit1_u64 s i hs4
                  have hbq : (((s / 2 ^ i % 2 : Nat) : Int) == 1) = bitB s i := by
                    unfold bitB
                    rcases Nat.mod_two_eq_zero_or_one (s / 2 ^ i) with h | h <;> rw [h] <;> rfl
                  clear hcell hv
                  generalize us[i] = x at *
                  generalize ownS us s i = ow at *
                  generalize ((s / 2 ^ i % 2 : Nat) : Int) = bt at *
                  cases hbt : bitB s i
                  · rw [hbt] at hbq
                    have hs2 := Lib.hid (hst.out.trans (if_neg (by rw [hbt]; decide)))
                    clear hst hbt
                    go_wp2_with fail
                    go_roundw
                    case rel => exact ⟨i + 1, by omega, by go_num, by rw [hs2.out]; exact HOi.out, HBi.out⟩
                    case measure => first | (simp [intOf]; done) | (simp [intOf]; omega)
                  · rw [hbt] at hbq
                    have hs2 := Lib.hid (hst.out.trans (if_pos hbt))
                    clear hst hbt
                    have hba := Lib.hid (HBi.out.alloc HBi.out.size (.cells #[.int .i64 x] 2))
                    go_wp2_with (at_builtin; refine push_i64at rfl _ _ rfl wo.heap.size ow _ rfl (HOi.out.alloc _) ⟨_, 0, none⟩ x rfl ((Bk.new _ _ _ _ rfl).cell 0 _ rfl) (by have := hle.out; have := hn12.out; omega) (Nat.le_trans HBi.out.size (by simp)) ?_)
                    intro v4 w4 hO4 hG4 hat
                    have hb4 := Lib.hid (hba.out.grown hG4 hba.out.size (fun j hj => HOi.out.base j hj))
                    rw [← hs2.out] at hO4
                    have hO4 := Lib.hid hO4
                    clear hG4 hat
                    go_wp2_with fail
                    go_roundw
                    case rel => exact ⟨i + 1, by omega, by go_num, hO4.out, hb4.out⟩
                    case measure => first | (simp [intOf]; done) | (simp [intOf]; omega)
                · obtain rfl : i = us.length := by omega
                  have hol := Lib.hid (ownS_len us s us.length)
                  have hpo := Lib.hid (popc_own us s hn12.out (HN.out ▸ hlts))
                  generalize ownS us s us.length = ow at *
                  generalize fxN ts us s = be at *
                  obtain ⟨A10, cap10, rfl, -, -, -⟩ := (HOi.out.sl i64c_len).i64
                  have HBe := Lib.hid (HBo.out.ext HBi.out)
                  have HUe := Lib.hid (HUo.out.ext HBi.out)
                  have HPe := Lib.hid (HPo.out.ext HBi.out)
                  have HKe := Lib.hid (HKo.out.ext HBi.out)
                  have HXe := Lib.hid (ext_trans HXo.out HBi.out)
                  have hWs := Lib.hid (show W.heap.size + 1 ≤ wo.heap.size from HKo.out.lt)
                  have qcv := Lib.hid (fun W' (hb : Below wr.heap.size wr W') => coversAll_calls ts _ ow _ W' ((HPe.out.sl Pair.c_len).ext hb) ((HOi.out.sl i64c_len).ext hb))
                  have q1 := Lib.hid (fun W' => ones_calls s hs4 W')
                  rw [hpo.out] at q1
                  rcases Nat.lt_trichotomy ow.length be.length with hlt | heq | hgt
                  · have hbet : betB ow be = true := by simp [betB, hlt]
                    have hq1 : decide ((ow.length : Int) ≤ (be.length : Int)) = true := by rw [decide_eq_true_eq]; omega
                    have hd1 : decide ((ow.length : Int) < (be.length : Int)) = true := by rw [decide_eq_true_eq]; omega
                    have hd1n : ¬ be.length ≤ ow.length := by omega
                    rw [hbet, Bool.true_and] at hfx
                    clear hbet
                    cases hcv : coversB ts ow
                    · rw [hcv] at hfx qcv
                      have hs2 := Lib.hid (hfx.out.trans (if_neg (by decide)))
                      go_wp2_with fail
                      refine (q1.out _).mono ?_
                      rintro e w8 ⟨rfl, rfl⟩
                      go_wp2_with fail
                      refine (qcv.out _ (Below.refl _ _)).mono ?_
                      rintro e w5 ⟨rfl, hb5⟩
                      have HB5 := Lib.hid hb5
                      clear hb5
                      go_wp2_with fail
                      go_roundw
                      case rel => exact ⟨s + 1, by omega, by go_num, by rw [hs2.out]; exact HBe.out.ext HB5.out, HUe.out.ext HB5.out, HPe.out.ext HB5.out, HKe.out.ext HB5.out, ext_trans HXe.out HB5.out⟩
                      case measure => first | (simp [intOf]; done) | (simp [intOf]; omega)
                    · rw [hcv] at hfx qcv
                      have hs2 := Lib.hid (hfx.out.trans (if_pos rfl))
                      go_wp2_with fail
                      refine (q1.out _).mono ?_
                      rintro e w8 ⟨rfl, rfl⟩
                      go_wp2_with fail
                      refine (qcv.out _ (Below.refl _ _)).mono ?_
                      rintro e w5 ⟨rfl, hb5⟩
                      have HB5 := Lib.hid hb5
                      clear hb5
                      go_wp2_with fail
                      go_roundw
                      case rel => exact ⟨s + 1, by omega, by go_num, by rw [hs2.out]; exact (HOi.out.more hWs.out).ext HB5.out, HUe.out.ext HB5.out, HPe.out.ext HB5.out, HKe.out.ext HB5.out, ext_trans HXe.out HB5.out⟩
                      case measure => first | (simp [intOf]; done) | (simp [intOf]; omega)
                  · have hd1 : decide ((ow.length : Int) < (be.length : Int)) = false := by rw [decide_eq_false_iff_not]; omega
                    have hq1 : decide ((ow.length : Int) ≤ (be.length : Int)) = true := by rw [decide_eq_true_eq]; omega
                    have hd2 : ((ow.length : Int) == (be.length : Int)) = true := by rw [beq_iff_eq]; omega
                    have hd1n : be.length ≤ ow.length := by omega
                    have hd1m : ¬ ow.length < be.length := by omega
                    have hd2n : (ow.length : Int) = (be.length : Int) := by omega
                    have hbet : betB ow be = lexL ow be := by simp [betB, heq]
                    have ql := Lib.hid (compare_calls ow be _ _ wr (HOi.out.sl i64c_len) (HBe.out.sl i64c_len) heq)
                    rw [hbet] at hfx
                    clear hbet heq
                    cases hlx : lexL ow be
                    · rw [hlx, Bool.false_and] at hfx
                      rw [hlx] at ql
                      have hs2 := Lib.hid (hfx.out.trans (if_neg (by decide)))
                      go_wp2_with fail
                      refine ql.out.mono ?_
                      rintro e w5 ⟨⟨cc, rfl, hcc⟩, rfl⟩
                      have HB5 := Lib.hid (Below.refl wr.heap.size wr)
                      go_wp2_with fail
                      refine (q1.out _).mono ?_
                      rintro e w8 ⟨rfl, rfl⟩
                      go_wp2_with fail
                      go_roundw
                      case rel => exact ⟨s + 1, by omega, by go_num, by rw [hs2.out]; exact HBe.out.ext HB5.out, HUe.out.ext HB5.out, HPe.out.ext HB5.out, HKe.out.ext HB5.out, ext_trans HXe.out HB5.out⟩
                      case measure => first | (simp [intOf]; done) | (simp [intOf]; omega)
                    · rw [hlx, Bool.true_and] at hfx
                      rw [hlx] at ql
                      cases hcv : coversB ts ow
                      · rw [hcv] at hfx qcv
                        have hs2 := Lib.hid (hfx.out.trans (if_neg (by decide)))
                        go_wp2_with fail
                        refine ql.out.mono ?_
                        rintro e w5 ⟨⟨cc, rfl, hcc⟩, rfl⟩
                        have HB5 := Lib.hid (Below.refl wr.heap.size wr)
                        go_wp2_with fail
                        refine (q1.out _).mono ?_
                        rintro e w8 ⟨rfl, rfl⟩
                        go_wp2_with fail
                        refine (qcv.out _ HB5.out).mono ?_
                        rintro e w6 ⟨rfl, hb6⟩
                        have HB5 := Lib.hid hb6
                        clear hb6
                        go_wp2_with fail
                        go_roundw
                        case rel => exact ⟨s + 1, by omega, by go_num, by rw [hs2.out]; exact HBe.out.ext HB5.out, HUe.out.ext HB5.out, HPe.out.ext HB5.out, HKe.out.ext HB5.out, ext_trans HXe.out HB5.out⟩
                        case measure => first | (simp [intOf]; done) | (simp [intOf]; omega)
                      · rw [hcv] at hfx qcv
                        have hs2 := Lib.hid (hfx.out.trans (if_pos rfl))
                        go_wp2_with fail
                        refine ql.out.mono ?_
                        rintro e w5 ⟨⟨cc, rfl, hcc⟩, rfl⟩
                        have HB5 := Lib.hid (Below.refl wr.heap.size wr)
                        go_wp2_with fail
                        refine (q1.out _).mono ?_
                        rintro e w8 ⟨rfl, rfl⟩
                        go_wp2_with fail
                        refine (qcv.out _ HB5.out).mono ?_
                        rintro e w6 ⟨rfl, hb6⟩
                        have HB5 := Lib.hid hb6
                        clear hb6
                        go_wp2_with fail
                        go_roundw
                        case rel => exact ⟨s + 1, by omega, by go_num, by rw [hs2.out]; exact (HOi.out.more hWs.out).ext HB5.out, HUe.out.ext HB5.out, HPe.out.ext HB5.out, HKe.out.ext HB5.out, ext_trans HXe.out HB5.out⟩
                        case measure => first | (simp [intOf]; done) | (simp [intOf]; omega)
                  · have hd1 : decide ((ow.length : Int) < (be.length : Int)) = false := by rw [decide_eq_false_iff_not]; omega
                    have hq1 : decide ((ow.length : Int) ≤ (be.length : Int)) = false := by rw [decide_eq_false_iff_not]; omega
                    have hd2 : ((ow.length : Int) == (be.length : Int)) = false := by rw [beq_eq_false_iff_ne]; omega
                    have hd1n : be.length ≤ ow.length := by omega
                    have hd1m : ¬ ow.length < be.length := by omega
                    have hd2n : ¬ (ow.length : Int) = (be.length : Int) := by omega
                    have hbet : betB ow be = false := by
                      unfold betB
                      rw [decide_eq_false (by omega), decide_eq_false (by omega)]
                      rfl
                    rw [hbet, Bool.false_and] at hfx
                    have hs2 := Lib.hid (hfx.out.trans (if_neg (by decide)))
                    clear hbet hgt
                    go_wp2_with fail
                    refine (q1.out _).mono ?_
                    rintro e w8 ⟨rfl, rfl⟩
                    go_wp2_with fail
                    go_roundw
                    case rel => exact ⟨s + 1, by omega, by go_num, by rw [hs2.out]; exact HBe.out, HUe.out, HPe.out, HKe.out, HXe.out⟩
                    case measure => first | (simp [intOf]; done) | (simp [intOf]; omega)
            · obtain rfl : N = s := by omega
              have hsd : decide ((N : Int) < (N : Int)) = false := by rw [decide_eq_false_iff_not]; omega
              go_wp2_with fail
              go_ret2
              rw [hE2.out]
              exact RetRow2.mk rfl (HBo.out.more (by omega)) HXo.out
  · have hE := Lib.hid (fewest_no hc)
    have hcb : (tripC w h sl lv (inB limit 0 200) == 0) = false := by simpa using hc
    have hcb2 : (tripC w h sl lv (inB limit 0 200) != 0) = true := by simpa using hc
    generalize tripC w h sl lv (inB limit 0 200) = C at *
    clear hc
    go_wp2_with fail
    go_ret2
    rw [hE.out]
    exact RetRow2.mk rfl (Own.nil_ _ _ _ _ _) HB1.out
end Go.Proofs.Ytpjdgpcdcihogaa
