/-
FirstTrip of both programs. Conditions: slices can be read.
-/
import Derived.Test.YtbmkhhhlnollmaaFT1
set_option linter.unusedVariables false
set_option linter.unusedSimpArgs false
set_option maxRecDepth 100000
namespace Go.Proofs.Ytbmkhhhlnollmaa
open Go.RowKit
def tripB (lv : List Int) (limit : Int) (p : Pair) : Bool := decide (limit < offI lv p)
def hasT (lv : List Int) (limit : Int) (ps : List Pair) : Bool := ps.any (tripB lv limit)
theorem hasT_len (lv : List Int) (limit : Int) (ps : List Pair) : hasT lv limit ps = decide (0 < (tripsL lv limit ps).length) := by
  rw [Bool.eq_iff_iff]
  simp only [hasT, tripB, tripsL, List.any_eq_true, decide_eq_true_eq, List.length_pos_iff_exists_mem, List.mem_filter]
def firstY (f : Nat → Bool) : Int × Int := match (List.range 61).find? f with | some y => ((y : Int), 0) | none => (0, 6)
theorem firstY_at {f : Nat → Bool} {k : Nat} (hk : k < 61) (hno : ∀ j, j < k → f j = false) (hf : f k = true) : firstY f = ((k : Int), 0) := by
  unfold firstY
  have : (List.range 61).find? f = some k := by
    rw [List.find?_range_eq_some]
    exact ⟨hf, by simpa using hk, fun j hj => by simp [hno j hj]⟩
  rw [this]
theorem firstY_none {f : Nat → Bool} (hno : ∀ j, j < 61 → f j = false) : firstY f = (0, 6) := by
  unfold firstY
  have : (List.range 61).find? f = none := by
    rw [List.find?_range_eq_none]
    exact fun j hj => by simp [hno j hj]
  rw [this]
def firstTrip (w h : Int) (sl : List Slab) (lv rt : List Int) (limit : Int) : Int × Int := if sinkC w h sl lv rt (inB limit 0 200) = 0 then firstY (fun y => hasT (aftL lv rt (y : Int)) limit (prsL sl)) else (0, sinkC w h sl lv rt (inB limit 0 200))
theorem firstTrip_ok {w h : Int} {sl : List Slab} {lv rt : List Int} {limit : Int} (hc : sinkC w h sl lv rt (inB limit 0 200) = 0) : firstTrip w h sl lv rt limit = firstY (fun y => hasT (aftL lv rt (y : Int)) limit (prsL sl)) := if_pos hc
theorem firstTrip_no {w h : Int} {sl : List Slab} {lv rt : List Int} {limit : Int} (hc : ¬ sinkC w h sl lv rt (inB limit 0 200) = 0) : firstTrip w h sl lv rt limit = (0, sinkC w h sl lv rt (inB limit 0 200)) := if_neg hc
def RetII (W : World) (r : Int × Int) (e : Ending) (w' : World) : Prop := e = .returned (.tuple #[.int .i64 r.1, .int .i64 r.2]) ∧ Below W.heap.size W w'
theorem aftL_len (lv rt : List Int) (y : Int) : (aftL lv rt y).length = lv.length := aftN_len lv rt y lv.length
set_option maxHeartbeats 4000000 in
theorem specFirstTrip_calls (w h : Int) (z : Value) (sl : List Slab) (lv : List Int) (v : Value) (rt : List Int) (u : Value) (limit : Int) (W : World) (hq : SqIn W w h z sl) (hs : Sl W W.heap.size i64c 1 v lv) (ht : Sl W W.heap.size i64c 1 u rt) :
    Calls Try.prog 51 #[sqv w h z, v, u, .int .i64 limit] W (RetII W (firstTrip w h sl lv rt limit)) := by
  obtain ⟨A, cap, hz, -, -, -⟩ := hq.sl.slab
  subst hz
  obtain ⟨A2, cap2, rfl, -, -, -⟩ := hs.i64
  obtain ⟨A3, cap3, rfl, -, -, -⟩ := ht.i64
  have HQ := Lib.hid hq
  have HS := Lib.hid hs
  have HT := Lib.hid ht
  have HB := Lib.hid ((Below.refl W.heap.size W).alloc (Nat.le_refl _) (.cells #[.int .i8 w, .int .i8 h, .slice A sl.length cap] 34))
  have K0 := Lib.hid (Bk.new W 34 #[.int .i8 w, .int .i8 h, .slice A sl.length cap] W.heap.size rfl)
  have HA := Lib.hid (show Sq.at_ (W.alloc (.cells #[.int .i8 w, .int .i8 h, .slice A sl.length cap] 34)) W.heap.size 0 w h (.slice A sl.length cap) from ⟨K0.out.cell 0 _ rfl, K0.out.cell 1 _ rfl, K0.out.cell 2 _ rfl, K0.out.lt⟩)
  have qa := Lib.hid (fun fine => sSinks_calls W.heap.size 0 w h _ sl lv _ rt _ fine _ (hq.ext HB.out) HA.out (hs.ext HB.out) (ht.ext HB.out))
  clear hq hs ht
  unfold sqv
  go_enter Try.func51, Try.ntmps51
  go_wp2_with fail
  refine (sLimit_calls _ _).mono ?_
  rintro e w1 ⟨rfl, rfl⟩
  go_wp2_with fail
  refine (qa.out _).mono ?_
  rintro e w1 ⟨rfl, hb1⟩
  have HB1 := Lib.hid (ext_trans HB.out hb1)
  have HA1 := Lib.hid (HA.out.ext hb1)
  clear hb1 qa
  by_cases hc : sinkC w h sl lv rt (inB limit 0 200) = 0
  · have hE := Lib.hid (firstTrip_ok hc)
    obtain ⟨hlb, hrb, -⟩ := sinkC_ok hc
    obtain ⟨hv, hll, hsm⟩ := levB_ok hlb
    obtain ⟨-, hrl, hrm⟩ := numsB_ok hrb
    have qp := Lib.hid (sPairs_calls W.heap.size 0 w h _ sl hv w1 (HQ.out.ext HB1.out) HA1.out)
    have hpl := Lib.hid (prsL_len60 (sqOk_len hv))
    have HIX := Lib.hid (prsL_idx hll)
    have HSM := Lib.hid hsm
    have HRM := Lib.hid (show smallR rt from hrm)
    have hl1 := Lib.hid (show rt.length = lv.length from hrl.trans hll.symm)
    have hl2 := Lib.hid (show lv.length ≤ 1000 from by have := sqOk_len hv; omega)
    rw [hc]
    clear hc hv hll hsm hlb hrb hrl hrm
    generalize prsL sl = ps at *
    obtain ⟨f, hf⟩ : ∃ f : Nat → Bool, f = fun (y : Nat) => hasT (aftL lv rt (y : Int)) limit ps := ⟨_, rfl⟩
    rw [← hf] at hE
    have HF := Lib.hid hf
    clear hf
    go_wp2_with fail
    refine qp.out.mono ?_
    rintro e w2 ⟨v2, rfl, hO2, hb2⟩
    obtain ⟨A4, cap4, rfl, -, -, -⟩ := (hO2.sl Pair.c_len).pair
    have HB2 := Lib.hid (ext_trans HB1.out hb2)
    have HP2 := Lib.hid hO2
    clear hO2 hb2
    go_wp2_with fail
    go_loopw [12, 13, 14] (fun y _ _ wr => ∃ k : Nat, k ≤ 61 ∧ y = .int .i64 (k : Int) ∧ (∀ j, j < k → f j = false) ∧ Own wr w1.heap.size 120 Pair.c 2 (.slice A4 ps.length cap4) ps ∧ Below W.heap.size W wr) (fun y _ _ _ => 61 - (intOf y).toNat)
    case atStart => exact ⟨0, by omega, rfl, fun j hj => by omega, HP2.out, HB2.out⟩
    case round =>
      obtain ⟨k, hk, rfl, hno, hP, hb⟩ := hrel
      obtain ⟨wo, rfl⟩ : ∃ wo : World, wo = wr := ⟨_, rfl⟩
      have HNO := Lib.hid hno
      have HP := Lib.hid hP
      have HBr := Lib.hid hb
      clear hno hP hb
      by_cases hlt : k < 61
      · have hkd : decide ((k : Int) ≤ 60) = true := by rw [decide_eq_true_eq]; omega
        have qs := Lib.hid (sAfter_calls lv rt _ _ (k : Int) (by omega) (by omega) HSM.out HRM.out hl1.out hl2.out wo (HS.out.ext HBr.out) (HT.out.ext HBr.out))
        have hsm2 := Lib.hid (aftL_small (y := (k : Int)) HSM.out HRM.out hl1.out (by omega) (by omega))
        have hlen2 := Lib.hid (aftL_len lv rt (k : Int))
        have hfk := Lib.hid (show f k = hasT (aftL lv rt (k : Int)) limit ps from by rw [HF.out])
        have HIX2 := Lib.hid (show ∀ p ∈ ps, idxP (aftL lv rt (k : Int)).length p from fun p hp => by rw [hlen2.out]; exact HIX.out p hp)
        generalize aftL lv rt (k : Int) = now at *
        go_wp2_with fail
        refine qs.out.mono ?_
        rintro e w3 ⟨v3, rfl, hO3, hb3⟩
        obtain ⟨A5, cap5, rfl, -, -, -⟩ := (hO3.sl i64c_len).i64
        have HN3 := Lib.hid hO3
        have HP3 := Lib.hid (HP.out.ext hb3)
        have HB3 := Lib.hid (ext_trans HBr.out hb3)
        clear hO3 hb3
        go_wp2_with fail
        go_loopw [14] (fun c w4 => ∃ m : Nat, m ≤ ps.length ∧ c = .int .i64 (m : Int) ∧ (ps.take m).all (fun p => !tripB now limit p) = true ∧ Own w4 wo.heap.size 2 i64c 1 (.slice A5 now.length cap5) now ∧ Own w4 w1.heap.size 120 Pair.c 2 (.slice A4 ps.length cap4) ps ∧ Below W.heap.size W w4) (fun c _ => ps.length - (intOf c).toNat)
        case atStart => exact ⟨0, by omega, rfl, rfl, HN3.out, HP3.out, HB3.out⟩
        case round =>
          obtain ⟨m, hm, rfl, hall, hN, hP, hb⟩ := hrel
          have HAl := Lib.hid hall
          have HN := Lib.hid hN
          have HPi := Lib.hid hP
          have HBi := Lib.hid hb
          clear hall hN hP hb
          by_cases hlt2 : m < ps.length
          · obtain ⟨A6, cap6, hv, _, _, hcell⟩ := (HPi.out.sl Pair.c_len).pair
            obtain ⟨rfl, rfl⟩ : A4 = A6 ∧ cap4 = cap6 := by injection hv with e1 e2 e3; exact ⟨e1, e3⟩
            obtain ⟨b1, o1, rfl, hbb, c0, c1⟩ := hcell m hlt2
            have hstep := Lib.hid (fun h : tripB now limit ps[m] = false => take_all_succ (fun p => !tripB now limit p) ps m hlt2 HAl.out (by rw [h]; rfl))
            have hyes := Lib.hid (show tripB now limit ps[m] = true → f k = true from fun h => by rw [hfk.out, hasT, List.any_eq_true]; exact ⟨_, List.getElem_mem hlt2, h⟩)
            have qo := Lib.hid (sOff_calls now _ ps[m] wr (HN.out.sl i64c_len) (HIX2.out _ (List.getElem_mem hlt2)) hsm2.out)
            unfold tripB at hstep hyes
            unfold Pair.v at qo
            clear hcell hv
            generalize ps[m] = p at *
            generalize offI now p = d at *
            go_wp2_with fail
            refine qo.out.mono ?_
            rintro e w5 ⟨rfl, hb5⟩
            have HB5 := Lib.hid (ext_trans HBi.out hb5)
            have HN5 := Lib.hid (HN.out.ext hb5)
            have HP5 := Lib.hid (HPi.out.ext hb5)
            clear hb5
            by_cases hd : limit < d
            · have hdd : decide (limit < d) = true := decide_eq_true hd
              have hE2 := Lib.hid (hE.out.trans (firstY_at hlt HNO.out (hyes.out (by simpa using hd))))
              clear hyes hstep
              go_wp2_with fail
              go_ret2
              rw [hE2.out]
              exact ⟨rfl, HB5.out⟩
            · have hdd : decide (limit < d) = false := decide_eq_false hd
              have hs2 := Lib.hid (hstep.out (by simpa using hd))
              clear hyes hstep
              go_wp2_with fail
              go_roundw
              case rel => exact ⟨m + 1, by omega, by go_num, by simpa [tripB] using hs2.out, HN5.out, HP5.out, HB5.out⟩
              case measure => first | (simp [intOf]; done) | (simp [intOf]; omega)
          · obtain rfl : m = ps.length := by omega
            have hfno := Lib.hid (show f k = false from by
              rw [hfk.out, hasT]
              have h1 := all_of_take _ ps ps.length rfl HAl.out
              rw [List.any_eq_false]
              intro p hp
              have := List.all_eq_true.1 h1 p hp
              simpa using this)
            have hno2 := Lib.hid (show ∀ j, j < k + 1 → f j = false from fun j hj => by
              by_cases hjk : j = k
              · rw [hjk]; exact hfno.out
              · exact HNO.out j (by omega))
            go_wp2_with fail
            go_roundw
            case rel => exact ⟨k + 1, by omega, by go_num, hno2.out, HPi.out, HBi.out⟩
            case measure => first | (simp [intOf]; done) | (simp [intOf]; omega)
      · obtain rfl : k = 61 := by omega
        have hE2 := Lib.hid (hE.out.trans (firstY_none HNO.out))
        go_wp2_with fail
        go_ret2
        rw [hE2.out]
        exact ⟨rfl, HBr.out⟩
  · have hE := Lib.hid (firstTrip_no hc)
    have hcb : (sinkC w h sl lv rt (inB limit 0 200) == 0) = false := by simpa using hc
    have hcb2 : (sinkC w h sl lv rt (inB limit 0 200) != 0) = true := by simpa using hc
    generalize sinkC w h sl lv rt (inB limit 0 200) = C at *
    clear hc
    go_wp2_with fail
    go_ret2
    rw [hE.out]
    exact ⟨rfl, HB1.out⟩
set_option maxHeartbeats 4000000 in
theorem implFirstTrip_calls (w h : Int) (z : Value) (sl : List Slab) (lv : List Int) (v : Value) (rt : List Int) (u : Value) (limit : Int) (W : World) (hq : SqIn W w h z sl) (hs : Sl W W.heap.size i64c 1 v lv) (ht : Sl W W.heap.size i64c 1 u rt) :
    Calls Try.prog 52 #[sqv w h z, v, u, .int .i64 limit] W (RetII W (firstTrip w h sl lv rt limit)) := by
  obtain ⟨A, cap, hz, -, -, -⟩ := hq.sl.slab
  subst hz
  obtain ⟨A2, cap2, rfl, -, -, -⟩ := hs.i64
  obtain ⟨A3, cap3, rfl, -, -, -⟩ := ht.i64
  have HQ := Lib.hid hq
  have HS := Lib.hid hs
  have HT := Lib.hid ht
  have HB := Lib.hid ((Below.refl W.heap.size W).alloc (Nat.le_refl _) (.cells #[.int .i8 w, .int .i8 h, .slice A sl.length cap] 34))
  have K0 := Lib.hid (Bk.new W 34 #[.int .i8 w, .int .i8 h, .slice A sl.length cap] W.heap.size rfl)
  have qa := Lib.hid (tripCode_calls w h _ sl lv _ limit _ (hq.ext HB.out) (hs.ext HB.out))
  have k0 := K0.out.cell 0 _ rfl
  have k1 := K0.out.cell 1 _ rfl
  have k2 := K0.out.cell 2 _ rfl
  clear hq hs ht
  unfold sqv at *
  go_enter Try.func52, Try.ntmps52
  go_wp2_with fail
  refine qa.out.mono ?_
  rintro e w1 ⟨rfl, hb1⟩
  have HB1 := Lib.hid (ext_trans HB.out hb1)
  have K01 := Lib.hid (K0.out.ext hb1)
  clear hb1 qa k0 k1 k2
  have k0 := K01.out.cell 0 _ rfl
  have k1 := K01.out.cell 1 _ rfl
  have k2 := K01.out.cell 2 _ rfl
  by_cases hlb : levB w h sl lv = true
  · have hc1 := Lib.hid (show tripC w h sl lv (inB limit 0 200) = if inB limit 0 200 = true then 0 else 2 from by rw [tripC, if_pos hlb])
    have hne1 : (tripC w h sl lv (inB limit 0 200) == 1) = false := by rw [hc1.out]; cases inB limit 0 200 <;> rfl
    have qr := Lib.hid (areLevels_calls w h _ sl rt _ 0 10 w1 (HQ.out.ext HB1.out) (HT.out.ext HB1.out))
    unfold sqv at qr
    have hne1 := Lib.hid hne1
    obtain ⟨C, hC⟩ : ∃ C, C = tripC w h sl lv (inB limit 0 200) := ⟨_, rfl⟩
    rw [← hC] at hne1 hc1 ⊢
    have HC := Lib.hid hC
    clear hC
    have hne := hne1.out
    go_wp2_with fail
    refine qr.out.mono ?_
    rintro e w2 ⟨rfl, hb2⟩
    have HB2 := Lib.hid (ext_trans HB1.out hb2)
    have K02 := Lib.hid (K01.out.ext hb2)
    clear hb2 k0 k1 k2
    cases hrb : numsB w h sl rt 0 10
    · have hE := Lib.hid (show firstTrip w h sl lv rt limit = (0, 1) from by
        have : sinkC w h sl lv rt (inB limit 0 200) = 1 := by rw [sinkC, sinkB, hrb, Bool.and_false]; rfl
        rw [firstTrip_no (by rw [this]; decide), this])
      clear hrb
      go_wp2_with fail
      go_ret2
      rw [hE.out]
      exact ⟨rfl, HB2.out⟩
    · have hsc := Lib.hid (show sinkC w h sl lv rt (inB limit 0 200) = C from by rw [sinkC, sinkB, hlb, hrb, hc1.out]; rfl)
      by_cases hc : C = 0
      · have hc0 := Lib.hid (hsc.out.trans hc)
        have hE := Lib.hid (firstTrip_ok hc0.out)
        obtain ⟨hv, hll, hsm⟩ := levB_ok hlb
        obtain ⟨-, hrl, hrm⟩ := numsB_ok hrb
        have qp := Lib.hid (pairs_calls w h _ sl (sqOk_small hv) (sqOk_len hv) w2 (HQ.out.ext HB2.out))
        have hpl := Lib.hid (prsL_len60 (sqOk_len hv))
        have HIX := Lib.hid (prsL_idx hll)
        have HSM := Lib.hid hsm
        have HRM := Lib.hid (show smallR rt from hrm)
        have hl1 := Lib.hid (show rt.length = lv.length from hrl.trans hll.symm)
        have hl2 := Lib.hid (show lv.length ≤ 1000 from by have := sqOk_len hv; omega)
        unfold sqv at qp
        have k0 := K02.out.cell 0 _ rfl
        have k1 := K02.out.cell 1 _ rfl
        have k2 := K02.out.cell 2 _ rfl
        subst hc
        clear hv hll hsm hlb hrb hrl hrm hsc hc1 hne hne1 HC hc0
        generalize prsL sl = ps at *
        obtain ⟨f, hf⟩ : ∃ f : Nat → Bool, f = fun (y : Nat) => hasT (aftL lv rt (y : Int)) limit ps := ⟨_, rfl⟩
        rw [← hf] at hE
        have HF := Lib.hid hf
        clear hf
        go_wp2_with fail
        refine qp.out.mono ?_
        rintro e w3 ⟨v2, rfl, hO2, hb2⟩
        obtain ⟨A4, cap4, rfl, -, -, -⟩ := (hO2.sl Pair.c_len).pair
        have HB3 := Lib.hid (ext_trans HB2.out hb2)
        have HP3 := Lib.hid hO2
        clear hO2 hb2 k0 k1 k2
        go_wp2_with fail
        go_loopw [12, 32] (fun _ y wr => ∃ k : Nat, k ≤ 61 ∧ y = .int .i64 (k : Int) ∧ (∀ j, j < k → f j = false) ∧ Own wr w2.heap.size 120 Pair.c 2 (.slice A4 ps.length cap4) ps ∧ Below W.heap.size W wr) (fun _ y _ => 61 - (intOf y).toNat)
        case atStart => exact ⟨0, by omega, rfl, fun j hj => by omega, HP3.out, HB3.out⟩
        case round =>
          obtain ⟨k, hk, rfl, hno, hP, hb⟩ := hrel
          have HNO := Lib.hid hno
          have HP := Lib.hid hP
          have HBr := Lib.hid hb
          clear hno hP hb
          by_cases hlt : k < 61
          · have hkd : decide ((k : Int) < 61) = true := by rw [decide_eq_true_eq]; omega
            have qs := Lib.hid (sunk_calls lv rt _ _ (k : Int) (by omega) (by omega) HSM.out HRM.out hl1.out hl2.out wr (HS.out.ext HBr.out) (HT.out.ext HBr.out))
            have hsm2 := Lib.hid (aftL_small (y := (k : Int)) HSM.out HRM.out hl1.out (by omega) (by omega))
            have hlen2 := Lib.hid (aftL_len lv rt (k : Int))
            have hfk := Lib.hid (show f k = decide (0 < (tripsL (aftL lv rt (k : Int)) limit ps).length) from by rw [HF.out]; exact hasT_len _ _ _)
            have HIX2 := Lib.hid (show ∀ p ∈ ps, idxP (aftL lv rt (k : Int)).length p from fun p hp => by rw [hlen2.out]; exact HIX.out p hp)
            generalize aftL lv rt (k : Int) = now at *
            go_wp2_with fail
            refine qs.out.mono ?_
            rintro e w4 ⟨v4, rfl, hO4, hb4⟩
            have HP4 := Lib.hid (HP.out.ext hb4)
            have HB4 := Lib.hid (ext_trans HBr.out hb4)
            have qt := Lib.hid (trips_calls ps _ now _ limit w4 (HP4.out.sl Pair.c_len) (by have := hpl.out; omega) (hO4.sl i64c_len) HIX2.out hsm2.out)
            clear hO4 hb4
            generalize tripsL now limit ps = ts at *
            go_wp2_with fail
            refine qt.out.mono ?_
            rintro e w5 ⟨v5, rfl, hO5, hb5⟩
            obtain ⟨A5, cap5, rfl, hl5, hm5, -⟩ := (hO5.sl Pair.c_len).pair
            have HP5 := Lib.hid (HP4.out.ext hb5)
            have HB5 := Lib.hid (ext_trans HB4.out hb5)
            clear hO5 hb5
            by_cases hpos : 0 < ts.length
            · have hE2 := Lib.hid (hE.out.trans (firstY_at hlt HNO.out (by rw [hfk.out]; exact decide_eq_true hpos)))
              have hdd : decide (0 < ts.length) = true := decide_eq_true hpos
              go_wp2_with fail
              go_ret2
              rw [hE2.out]
              exact ⟨rfl, HB5.out⟩
            · have hno2 := Lib.hid (show ∀ j, j < k + 1 → f j = false from fun j hj => by
                by_cases hjk : j = k
                · rw [hjk, hfk.out]; exact decide_eq_false hpos
                · exact HNO.out j (by omega))
              have hdd : decide (0 < ts.length) = false := decide_eq_false hpos
              go_wp2_with fail
              go_roundw
              case rel => exact ⟨k + 1, by omega, by go_num, hno2.out, HP5.out, HB5.out⟩
              case measure => first | (simp [intOf]; done) | (simp [intOf]; omega)
          · obtain rfl : k = 61 := by omega
            have hE2 := Lib.hid (hE.out.trans (firstY_none HNO.out))
            go_wp2_with fail
            go_ret2
            rw [hE2.out]
            exact ⟨rfl, HBr.out⟩
      · have hE := Lib.hid (show firstTrip w h sl lv rt limit = (0, C) from by rw [firstTrip_no (by rw [hsc.out]; exact hc), hsc.out])
        have hcb : (C == 0) = false := by simpa using hc
        have hcb2 : (C != 0) = true := by simpa using hc
        clear hc hrb hsc hc1 HC
        go_wp2_with fail
        go_ret2
        rw [hE.out]
        exact ⟨rfl, HB2.out⟩
  · have hl0 : levB w h sl lv = false := by simpa using hlb
    have hE := Lib.hid (show firstTrip w h sl lv rt limit = (0, 1) from by
      have : sinkC w h sl lv rt (inB limit 0 200) = 1 := by rw [sinkC, sinkB, hl0, Bool.false_and]; rfl
      rw [firstTrip_no (by rw [this]; decide), this])
    have hc1 : tripC w h sl lv (inB limit 0 200) = 1 := by rw [tripC, hl0]; rfl
    rw [hc1]
    clear hc1 hl0 hlb
    go_wp2_with fail
    go_ret2
    rw [hE.out]
    exact ⟨rfl, HB1.out⟩
end Go.Proofs.Ytbmkhhhlnollmaa
