/-
CheapestPlan of the reference. Conditions: rows and gangs are asked rightly.
-/
import Derived.Test.YtkkkgpeilpfddaaG10
set_option linter.unusedVariables false
set_option linter.unusedSimpArgs false
set_option maxRecDepth 100000
namespace Go.Proofs.Ytkkkgpeilpfddaa
open Go.RowKit
set_option maxHeartbeats 4000000 in
theorem specCheapestPlan_calls (rows : List Row) (hr : ∀ x ∈ rows, x.ok) (gangs : List Gang) (hg : ∀ x ∈ gangs, x.ok) (days : Int) (v u : Value) (w : World)
    (hs : Sl w w.heap.size Row.c 2 v rows) (ht : Sl w w.heap.size Gang.c 5 u gangs) :
    Calls Try.prog 26 #[v, u, .int .i64 days] w (RetSl w (cheapest rows gangs days)) := by
  have HS := Lib.hid hs
  have HT := Lib.hid ht
  have HG := Lib.hid hg
  have HR := Lib.hid hr
  clear hs ht hg hr
  go_enter Try.func26, Try.ntmps26
  go_wp2_with fail
  refine (l07Asked_calls rows HR.out gangs HG.out _ _ _ HS.out HT.out).mono ?_
  rintro e w1 ⟨rfl, rfl⟩
  by_cases hc : asked rows gangs = 0
  · have HC := Lib.hid hc
    rw [hc]
    cases hi : inB days 0 1000
    · have hcc : cheapCode rows gangs days = 2 := by simp [cheapCode, hc, hi]
      have HE := Lib.hid (show cheapest rows gangs days = ([], 0, 2) from by rw [cheapest, if_neg (by omega), hcc])
      have HI := Lib.hid hi
      clear hc hi hcc
      go_wp2_with fail
      refine (in_calls _ _ _ _).mono ?_
      rintro e w2 ⟨rfl, rfl⟩
      rw [HI.out]
      go_wp2_with fail
      go_ret3
      rw [HE.out]
      exact RetSl.mk rfl rfl (Own.sl i64c_len (Own.empty _ w.heap.size _ rfl (Nat.le_refl _))) ((Below.refl _ _).alloc (Nat.le_refl _) _)
    have hcc : cheapCode rows gangs days = 0 := by simp [cheapCode, hc, hi]
    have HE := Lib.hid (show cheapest rows gangs days = bestPlan (numCheap rows gangs days) rows gangs from by rw [cheapest, if_pos hcc])
    have HI := Lib.hid hi
    obtain ⟨dy0, dy1⟩ := inB_true.1 hi
    clear hi hcc
    obtain ⟨h6, _, _, h4, _⟩ := asked_ok hc
    have hb1 := Lib.hid (ext_alloc ((Below.refl w.heap.size w).alloc (Nat.le_refl _) (.cells #[] 2)) (.cells #[] 2))
    have hO1 := Lib.hid (Own.sl i64c_len (Own.empty (α := Int) (c := i64c) (sz := 1) (E := 2) (w.alloc (.cells #[] 2)) w.heap.size (w.heap.size + 1) (by simp) (by simp)))
    have hO2 := Lib.hid (((Own.empty (α := Int) (c := i64c) (sz := 1) (E := 2) w w.heap.size w.heap.size rfl (Nat.le_refl _)).alloc (.cells #[] 2)).sl i64c_len)
    clear hc
    go_wp2_with fail
    refine (in_calls _ _ _ _).mono ?_
    rintro e w9 ⟨rfl, rfl⟩
    rw [HI.out]
    go_wp2_with fail
    refine (l07All_calls rows gangs h6 h4 _ _ rows.length [] ⟨w.heap.size + 1, 0, none⟩ 0 _ (by simp) (HS.out.ext hb1.out) (HT.out.ext hb1.out) hO1.out).mono ?_
    rintro e w2 ⟨us, g, c, rfl, hO, hR, hb2⟩
    have hO3 := Lib.hid ((hO2.out.ext hb2))
    have hb3 := Lib.hid (ext_trans hb1.out hb2)
    have HS2 := Lib.hid (HS.out.ext hb3.out)
    have HT2 := Lib.hid (HT.out.ext hb3.out)
    have HO := Lib.hid hO
    have HRD := Lib.hid hR
    have hlen := Lib.hid hR.len
    have hul := Lib.hid (show us.length ≤ 4096 from by
      have h1 := hR.len
      have h2 := all_len rows gangs h4 rows.length []
      have h3 := pow4 h6
      omega)
    have hALL : ∀ p ∈ allN rows gangs rows.length [], Fine rows gangs p := fun p hp => Fine.all HC.out hp
    have HALL := Lib.hid hALL
    clear hO hR hb2 hO2 hO1 hALL
    unfold bestPlan at HE
    generalize allN rows gangs rows.length [] = ALL at *
    have hu0 := hul.out
    go_wp2_with fail
    go_loopw [10, 11, 13] (fun o f i wr => ∃ k : Nat, k ≤ us.length ∧ i = .int .i64 k ∧ f = .int .i64 (bestOf (numCheap rows gangs days) (ALL.take k) ([], -1)).2 ∧ Sl wr wr.heap.size i64c 1 o (bestOf (numCheap rows gangs days) (ALL.take k) ([], -1)).1 ∧ -1 ≤ (bestOf (numCheap rows gangs days) (ALL.take k) ([], -1)).2 ∧ (bestOf (numCheap rows gangs days) (ALL.take k) ([], -1)).2 ≤ 200000000 ∧ Below w2.heap.size w2 wr) (fun _ _ i _ => us.length - (intOf i).toNat)
    case atStart => exact ⟨0, by omega, rfl, rfl, hO3.out, by simp [bestOf], by simp [bestOf], Below.refl _ _⟩
    case round =>
      obtain ⟨k, hk, rfl, rfl, hSl, hlo, hhi, hb⟩ := hrel
      obtain ⟨wo, rfl⟩ : ∃ wo : World, wo = wr := ⟨_, rfl⟩
      have HSL := Lib.hid hSl
      have HB := Lib.hid hb
      by_cases hlt : k < us.length
      · have hkA : k < ALL.length := by have := hlen.out; omega
        obtain ⟨hsp, ad, cp, hu, _, _, _⟩ := HRD.out.at_ k us[k] ALL[k] (by rw [List.getElem?_eq_getElem]) (by rw [List.getElem?_eq_getElem])
        have hF := HALL.out ALL[k] (List.getElem_mem hkA)
        obtain ⟨hgB, hgl, hce, _⟩ := HO.out.at_ uc_len (by omega)
        have c0 : wo.cell? ⟨g, k, none⟩ = some us[k] := by
          have := hce k us[k] (by rw [List.getElem?_eq_getElem]) 0 _ rfl
          simp at this
          exact (hb.cell (p := ⟨g, k, none⟩) hgl).trans this
        obtain ⟨a0, a1, d0, d1, e0, e1⟩ := hF.sum ALL[k].length (Nat.le_refl _)
        have hp6 : ALL[k].length ≤ 6 := by have := hF.hlen; have := hF.h6; omega
        have hst := Lib.hid (show bestOf (numCheap rows gangs days) (ALL.take (k + 1)) ([], -1) = if (sumN rows gangs ALL[k] ALL[k].length).1 ≤ days ∧ ((bestOf (numCheap rows gangs days) (ALL.take k) ([], -1)).2 < 0 ∨ (sumN rows gangs ALL[k] ALL[k].length).2.1 < (bestOf (numCheap rows gangs days) (ALL.take k) ([], -1)).2) then (ALL[k], (sumN rows gangs ALL[k] ALL[k].length).2.1) else bestOf (numCheap rows gangs days) (ALL.take k) ([], -1) from by
          rw [List.take_succ_eq_append_getElem hkA, bestOf_append]
          simp only [bestOf, numCheap]
          by_cases hdd : (sumN rows gangs ALL[k] ALL[k].length).1 ≤ days <;> simp [hdd])
        generalize hBN : bestOf (numCheap rows gangs days) (ALL.take k) ([], -1) = s at *
        have HF := Lib.hid hF
        have HSP := Lib.hid (hsp.ext hb)
        have hS2 := Lib.hid (HS2.out.ext hb)
        have hT2 := Lib.hid (HT2.out.ext hb)
        clear hBN hF hsp hce hSl hu e1
        go_wp2_with fail
        refine (l07Sums_calls rows gangs ALL[k] HF.out _ _ _ _ hS2.out hT2.out HSP.out).mono ?_
        rintro e w5 ⟨rfl, hb5⟩
        have c5 := (hb5.cell (p := ⟨g, k, none⟩) (Nat.lt_of_lt_of_le hgl HB.out.size)).trans c0
        have hb6 := Lib.hid (ext_trans HB.out hb5)
        have hsl5 := Lib.hid (HSL.out.ext hb5)
        have hsp5 := Lib.hid (HSP.out.ext hb5)
        generalize (sumN rows gangs ALL[k] ALL[k].length).1 = dd at *
        generalize (sumN rows gangs ALL[k] ALL[k].length).2.1 = n at *
        clear c0 hb5 hb
        by_cases hdy : dd ≤ days
        case neg =>
          have hd3 : decide (dd ≤ days) = false := by rw [decide_eq_false_iff_not]; exact hdy
          have hs2 := Lib.hid (hst.out.trans (if_neg (fun h => hdy h.1)))
          clear hst hdy
          go_wp2_with fail
          go_roundw
          case rel => exact ⟨k + 1, by omega, by go_num, by rw [hs2.out], by rw [hs2.out]; exact hsl5.out, by rw [hs2.out]; exact hlo, by rw [hs2.out]; exact hhi, hb6.out⟩
          case measure => first | (simp [intOf]; done) | (simp [intOf]; omega)
        have hd3 : decide (dd ≤ days) = true := by rw [decide_eq_true_eq]; exact hdy
        by_cases hneg : s.2 < 0
        · have hd : decide (s.2 < 0) = true := by rw [decide_eq_true_eq]; exact hneg
          have hs2 := Lib.hid (hst.out.trans (if_pos ⟨hdy, .inl hneg⟩))
          clear hst hneg hdy
          go_wp2_with fail
          go_roundw
          case rel => exact ⟨k + 1, by omega, by go_num, by rw [hs2.out], by rw [hs2.out]; exact hsp5.out, by rw [hs2.out]; show -1 ≤ n; omega, by rw [hs2.out]; show n ≤ 200000000; omega, hb6.out⟩
          case measure => first | (simp [intOf]; done) | (simp [intOf]; omega)
        · have hd : decide (s.2 < 0) = false := by rw [decide_eq_false_iff_not]; exact hneg
          by_cases hls : n < s.2
          · have hd2 : decide (n < s.2) = true := by rw [decide_eq_true_eq]; exact hls
            have hs2 := Lib.hid (hst.out.trans (if_pos ⟨hdy, .inr hls⟩))
            clear hst hneg hls hdy
            go_wp2_with fail
            go_roundw
            case rel => exact ⟨k + 1, by omega, by go_num, by rw [hs2.out], by rw [hs2.out]; exact hsp5.out, by rw [hs2.out]; show -1 ≤ n; omega, by rw [hs2.out]; show n ≤ 200000000; omega, hb6.out⟩
            case measure => first | (simp [intOf]; done) | (simp [intOf]; omega)
          · have hd2 : decide (n < s.2) = false := by rw [decide_eq_false_iff_not]; exact hls
            have hs2 := Lib.hid (hst.out.trans (if_neg (by omega)))
            clear hst hneg hls hdy
            go_wp2_with fail
            go_roundw
            case rel => exact ⟨k + 1, by omega, by go_num, by rw [hs2.out], by rw [hs2.out]; exact hsl5.out, by rw [hs2.out]; exact hlo, by rw [hs2.out]; exact hhi, hb6.out⟩
            case measure => first | (simp [intOf]; done) | (simp [intOf]; omega)
      · obtain rfl : k = us.length := by omega
        rw [show ALL.take us.length = ALL from by rw [hlen.out, List.take_length]] at HSL hlo hhi ⊢
        generalize bestOf (numCheap rows gangs days) ALL ([], -1) = s at *
        clear hSl hb
        have hb7 := Lib.hid (ext_trans hb3.out HB.out)
        by_cases hneg : s.2 < 0
        · have hd : decide (s.2 < 0) = true := by rw [decide_eq_true_eq]; exact hneg
          have hE2 := Lib.hid (HE.out.trans (if_pos hneg))
          clear HE hneg
          go_wp2_with fail
          go_ret3
          rw [hE2.out]
          exact RetSl.mk rfl rfl (Own.sl i64c_len (Own.empty _ w.heap.size _ rfl hb7.out.size)) (hb7.out.alloc hb7.out.size _)
        · have hd : decide (s.2 < 0) = false := by rw [decide_eq_false_iff_not]; exact hneg
          have hE2 := Lib.hid (HE.out.trans (if_neg hneg))
          clear HE hneg
          go_wp2_with fail
          go_ret3
          rw [hE2.out]
          exact RetSl.mk rfl rfl HSL.out hb7.out
  · have hcc : cheapCode rows gangs days = asked rows gangs := if_neg hc
    have HE := Lib.hid (show cheapest rows gangs days = ([], 0, asked rows gangs) from by rw [cheapest, if_neg (by omega), hcc])
    clear hcc
    have hcb : (asked rows gangs == 0) = false := by simpa using hc
    have hcb2 : (asked rows gangs != 0) = true := by simpa using hc
    clear hc
    go_wp2_with fail
    go_ret3
    rw [HE.out]
    exact RetSl.mk rfl rfl (Own.sl i64c_len (Own.empty _ w.heap.size _ rfl (Nat.le_refl _))) ((Below.refl _ _).alloc (Nat.le_refl _) _)
end Go.Proofs.Ytkkkgpeilpfddaa
