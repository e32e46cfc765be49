/-
FewestExchanged of the reference. Conditions: slices can be read.
-/
import Derived.Test.YtpjdgpcdcihogaaFX0
import Derived.Test.YtpjdgpcdcihogaaAP
import Derived.Test.YtpjdgpcdcihogaaFXP
set_option linter.unusedVariables false
set_option linter.unusedSimpArgs false
set_option maxRecDepth 100000
namespace Go.Proofs.Ytpjdgpcdcihogaa
open Go.RowKit
theorem fewest_no {w h : Int} {sl : List Slab} {lv : List Int} {limit : Int} (hc : ¬ tripC w h sl lv (inB limit 0 200) = 0) : fewest w h sl lv limit = ([], tripC w h sl lv (inB limit 0 200)) := if_neg hc
theorem fewest_ok {w h : Int} {sl : List Slab} {lv : List Int} {limit : Int} (hc : tripC w h sl lv (inB limit 0 200) = 0) : fewest w h sl lv limit = (if 12 < (slabsT (tripsL lv limit (prsL sl)) sl.length).length then ([], 3) else (fxN (tripsL lv limit (prsL sl)) (slabsT (tripsL lv limit (prsL sl)) sl.length) (2 ^ (slabsT (tripsL lv limit (prsL sl)) sl.length).length), 0)) := if_pos hc
theorem flatP_succ (ts : List Pair) (i : Nat) (hi : i < ts.length) : flatP (ts.take (i + 1)) = flatP (ts.take i) ++ [ts[i].a, ts[i].b] := by
  unfold flatP
  rw [List.take_succ_eq_append_getElem hi, List.flatMap_append]
  rfl
theorem flatP_mem (ts : List Pair) (i : Nat) (hi : i < ts.length) (k : Int) : decide (k ∈ flatP (ts.take (i + 1))) = ((decide (k ∈ flatP (ts.take i)) || (ts[i].a == k)) || (ts[i].b == k)) := by
  rw [flatP_succ ts i hi, Bool.eq_iff_iff]
  simp only [List.mem_append, List.mem_cons, List.not_mem_nil, or_false, Bool.or_eq_true, decide_eq_true_eq, beq_iff_eq]
  constructor
  · rintro (h | h | h)
    · exact .inl (.inl h)
    · exact .inl (.inr h.symm)
    · exact .inr h.symm
  · rintro ((h | h) | h)
    · exact .inl h
    · exact .inr (.inl h.symm)
    · exact .inr (.inr h.symm)
theorem slabsT_succ (ts : List Pair) (k : Nat) : tlN (flatP ts) (k + 1) = if decide ((k : Int) ∈ flatP ts) = true then tlN (flatP ts) k ++ [(k : Int)] else tlN (flatP ts) k := by
  rw [tlN_succ]
  by_cases h : (k : Int) ∈ flatP ts <;> simp [h]
set_option maxHeartbeats 4000000 in
theorem specFewest_calls (w h : Int) (z : Value) (sl : List Slab) (lv : List Int) (u : Value) (limit : Int) (W : World) (hq : SqIn W w h z sl) (ht : Sl W W.heap.size i64c 1 u lv) :
    Calls Try.prog 39 #[sqv w h z, u, .int .i64 limit] W (RetRow2 W 2 i64c 1 (fewest w h sl lv limit)) := by
  obtain ⟨A, cap, hz, -, -, -⟩ := hq.sl.slab
  subst hz
  obtain ⟨A2, cap2, rfl, -, -, -⟩ := ht.i64
  have HQ := Lib.hid hq
  have HT := Lib.hid ht
  have HB := Lib.hid ((Below.refl W.heap.size W).alloc (Nat.le_refl _) (.cells #[.int .i8 w, .int .i8 h, .slice A sl.length cap] 34))
  have K0 := Lib.hid (Bk.new W 34 #[.int .i8 w, .int .i8 h, .slice A sl.length cap] W.heap.size rfl)
  have HA := Lib.hid (show Sq.at_ (W.alloc (.cells #[.int .i8 w, .int .i8 h, .slice A sl.length cap] 34)) W.heap.size 0 w h (.slice A sl.length cap) from ⟨K0.out.cell 0 _ rfl, K0.out.cell 1 _ rfl, K0.out.cell 2 _ rfl, K0.out.lt⟩)
  have qa := Lib.hid (fun fine => sAsked_calls W.heap.size 0 w h _ sl lv _ fine _ (hq.ext HB.out) HA.out (ht.ext HB.out))
  clear hq ht
  unfold sqv
  go_enter Try.func39, Try.ntmps39
  go_wp2_with fail
  refine (sLimit_calls _ _).mono ?_
  rintro e w1 ⟨rfl, rfl⟩
  go_wp2_with fail
  refine (qa.out _).mono ?_
  rintro e w1 ⟨rfl, hb1⟩
  have HB1 := Lib.hid (ext_trans HB.out hb1)
  have HA1 := Lib.hid (HA.out.ext hb1)
  have KQ1 := Lib.hid (K0.out.ext hb1)
  clear hb1 qa
  by_cases hc : tripC w h sl lv (inB limit 0 200) = 0
  · have hE := Lib.hid (fewest_ok hc)
    obtain ⟨hlb, -⟩ := tripC_ok hc
    obtain ⟨hv, hll, hsm⟩ := levB_ok hlb
    have qt := Lib.hid (sTrips_calls W.heap.size 0 w h _ sl lv _ limit hv hsm hll w1 (HQ.out.ext HB1.out) HA1.out (HT.out.ext HB1.out))
    have hpl := Lib.hid (Nat.le_trans (tripsL_len lv limit (prsL sl)) (prsL_len60 (sqOk_len hv)))
    have hn60 := Lib.hid (sqOk_len hv)
    rw [hc]
    clear hc hv hll hsm hlb
    generalize tripsL lv limit (prsL sl) = ts at *
    go_wp2_with fail
    refine qt.out.mono ?_
    rintro e w2 ⟨v2, rfl, hO2, hb2⟩
    obtain ⟨A4, cap4, rfl, -, -, -⟩ := (hO2.sl Pair.c_len).pair
    have HB2 := Lib.hid ((ext_trans HB1.out hb2).alloc (ext_trans HB1.out hb2).size (.cells #[] 2))
    have KQ2 := Lib.hid ((KQ1.out.ext hb2).alloc (.cells #[] 2))
    have HP2 := Lib.hid (hO2.alloc (.cells #[] 2))
    have HO2 := Lib.hid ((Own.empty (α := Int) (c := i64c) (sz := 1) (E := 2) w2 w2.heap.size w2.heap.size rfl (Nat.le_refl _)).more (show W.heap.size + 1 ≤ w2.heap.size from (KQ1.out.ext hb2).lt))
    have HD0 := Lib.hid (show Dis (.slice (some ⟨w2.heap.size, 0, none⟩) 0 0) (.slice A4 ts.length cap4) from fun j h1 h2 => by have := hO2.lt j h2; simp [Value.ownBlock] at h1; omega)
    clear hO2 hb2 qt
    go_wp2_with fail
    go_loopw [10, 11, 12, 13] (fun r c _ _ wr => ∃ k : Nat, k ≤ sl.length ∧ c = .int .i64 (k : Int) ∧ Own wr (W.heap.size + 1) 2 i64c 1 r (tlN (flatP ts) k) ∧ Own wr w1.heap.size 98 Pair.c 2 (.slice A4 ts.length cap4) ts ∧ Dis r (.slice A4 ts.length cap4) ∧ Bk wr W.heap.size 34 #[.int .i8 w, .int .i8 h, .slice A sl.length cap] ∧ Below W.heap.size W wr) (fun _ c _ _ _ => sl.length - (intOf c).toNat)
    case atStart => exact ⟨0, by omega, rfl, HO2.out, HP2.out, HD0.out, KQ2.out, HB2.out⟩
    case round =>
      obtain ⟨k, hk, rfl, hO, hP, hD, hK, hb⟩ := hrel
      have HO := Lib.hid hO
      have HP := Lib.hid hP
      have HD := Lib.hid hD
      have HK := Lib.hid hK
      have HBr := Lib.hid hb
      have a2 := hK.cell 2 _ rfl
      clear hO hP hD hK hb
      by_cases hlt : k < sl.length
      · have hst := Lib.hid (slabsT_succ ts k)
        have hle := Lib.hid (Nat.le_trans (tlN_len (flatP ts) k) (Nat.le_trans hk hn60.out))
        have n60 := hn60.out
        have hkd : decide ((k : Int) < (sl.length : Int)) = true := by rw [decide_eq_true_eq]; omega
        go_wp2_with fail
        go_loop [12, 13] (fun f i => ∃ j : Nat, j ≤ ts.length ∧ i = .int .i64 (j : Int) ∧ f = .bool (decide ((k : Int) ∈ flatP (ts.take j)))) (fun _ i => ts.length - (intOf i).toNat)
        case atStart => exact ⟨0, by omega, rfl, by simp [flatP]⟩
        case round =>
          obtain ⟨j, hj, rfl, rfl⟩ := hrel
          have hp36 := hpl.out
          by_cases hlt2 : j < ts.length
          · obtain ⟨A6, cap6, hv, _, _, hcell⟩ := (HP.out.sl Pair.c_len).pair
            obtain ⟨rfl, rfl⟩ : A4 = A6 ∧ cap4 = cap6 := by injection hv with e1 e2 e3; exact ⟨e1, e3⟩
            obtain ⟨b1, o1, rfl, hbb, c0, c1⟩ := hcell j hlt2
            have hmm := Lib.hid (flatP_mem ts j hlt2 (k : Int))
            clear hcell hv
            generalize ts[j] = p at *
            generalize decide ((k : Int) ∈ flatP (ts.take j)) = f at *
            cases f
            · by_cases e1 : p.a = (k : Int)
              · have r1 : (p.a == (k : Int)) = true := by simp [e1]
                have hE2 := Lib.hid (hmm.out.trans (show ((false || (p.a == (k : Int))) || (p.b == (k : Int))) = true from by rw [r1]; rfl))
                clear e1 hmm
                go_wp2_with fail
                go_round
                case rel => exact ⟨j + 1, by omega, by go_num, by rw [hE2.out]⟩
                case measure => first | (simp [intOf]; done) | (simp [intOf]; omega)
              · have r1 : (p.a == (k : Int)) = false := by simpa using e1
                have hE2 := Lib.hid (hmm.out.trans (show ((false || (p.a == (k : Int))) || (p.b == (k : Int))) = (p.b == (k : Int)) from by rw [r1]; rfl))
                clear e1 hmm
                go_wp2_with fail
                go_round
                case rel => exact ⟨j + 1, by omega, by go_num, by rw [hE2.out]⟩
                case measure => first | (simp [intOf]; done) | (simp [intOf]; omega)
            · have hE2 := Lib.hid (hmm.out.trans (show ((true || (p.a == (k : Int))) || (p.b == (k : Int))) = true from rfl))
              clear hmm
              go_wp2_with fail
              go_round
              case rel => exact ⟨j + 1, by omega, by go_num, by rw [hE2.out]⟩
              case measure => first | (simp [intOf]; done) | (simp [intOf]; omega)
          · obtain rfl : j = ts.length := by omega
            have hT := Lib.hid (show ts.take ts.length = ts from List.take_length)
            rw [hT.out]
            generalize decide ((k : Int) ∈ flatP ts) = f at *
            cases f
            · have hs2 := Lib.hid (hst.out.trans (if_neg (by decide)))
              clear hst
              go_wp2_with fail
              go_roundw
              case rel => exact ⟨k + 1, by omega, by go_num, by rw [hs2.out]; exact HO.out, HP.out, HD.out, HK.out, HBr.out⟩
              case measure => first | (simp [intOf]; done) | (simp [intOf]; omega)
            · have hs2 := Lib.hid (hst.out.trans (if_pos rfl))
              clear hst
              generalize tlN (flatP ts) k = us at *
              have hba := Lib.hid (HBr.out.alloc HBr.out.size (.cells #[.int .i64 (k : Int)] 2))
              have hka := Lib.hid (HK.out.alloc (.cells #[.int .i64 (k : Int)] 2))
              have HPa := Lib.hid (HP.out.alloc (.cells #[.int .i64 (k : Int)] 2))
              go_wp2_with (at_builtin; refine push_i64at rfl _ _ rfl (W.heap.size + 1) us _ rfl (HO.out.alloc _) ⟨_, 0, none⟩ (k : Int) rfl ((Bk.new _ _ _ _ rfl).cell 0 _ rfl) (by have := hle.out; omega) (Nat.le_trans HK.out.lt (by simp)) ?_)
              intro v4 w4 hO4 hG4 hat
              have hb4 := Lib.hid (hba.out.grown hG4 hba.out.size (fun j hj => by have := HO.out.base j hj; omega))
              have hk4 := Lib.hid (show Bk w4 W.heap.size _ _ from (hG4.block _ hka.out.lt (fun e => by have := HO.out.base _ e.symm; omega)).trans hka.out)
              have HP4 := Lib.hid (HPa.out.keep (fun j hj => hG4.block j (HPa.out.lt j hj) (fun he => HD.out j he.symm hj)))
              have HD4 := Lib.hid (show Dis v4 (.slice A4 ts.length cap4) from fun j h1 h2 => by
                rcases hat with he | he
                · exact HD.out j (he ▸ h1) h2
                · rw [he] at h1
                  injection h1 with h1
                  have := HP.out.lt j h2
                  try simp at h1
                  omega)
              rw [← hs2.out] at hO4
              have hO4 := Lib.hid hO4
              clear hG4 hat
              go_wp2_with fail
              go_roundw
              case rel => exact ⟨k + 1, by omega, by go_num, hO4.out, HP4.out, HD4.out, hk4.out, hb4.out⟩
              case measure => first | (simp [intOf]; done) | (simp [intOf]; omega)
      · obtain rfl : k = sl.length := by omega
        have hkd : decide ((sl.length : Int) < (sl.length : Int)) = false := by rw [decide_eq_false_iff_not]; omega
        have hus := Lib.hid (show tlN (flatP ts) sl.length = slabsT ts sl.length from rfl)
        rw [hus.out] at HO
        generalize slabsT ts sl.length = us at *
        obtain ⟨A7, cap7, rfl, -, -, -⟩ := (HO.out.sl i64c_len).i64
        by_cases h12 : 12 < us.length
        · have hE2 := Lib.hid (hE.out.trans (if_pos h12))
          have hd12 : decide ((12 : Int) < (us.length : Int)) = true := by rw [decide_eq_true_eq]; omega
          clear h12
          go_wp2_with fail
          go_ret2
          rw [hE2.out]
          exact RetRow2.mk rfl ((Own.empty (α := Int) (c := i64c) (sz := 1) (E := 2) wr W.heap.size _ rfl HBr.out.size)) (HBr.out.alloc HBr.out.size _)
        · have hE2 := Lib.hid (hE.out.trans (if_neg h12))
          have hd12 : decide ((12 : Int) < (us.length : Int)) = false := by rw [decide_eq_false_iff_not]; omega
          have h12 := Lib.hid h12
          obtain ⟨N, hN⟩ : ∃ N : Nat, N = 2 ^ us.length := ⟨_, rfl⟩
          rw [← hN] at hE2
          have hsh : (2 : Int) ^ us.length = (N : Int) := by rw [hN]; simp
          have h4096 := Lib.hid (show N ≤ 4096 from by rw [hN]; have := h12.out; exact Nat.le_trans (Nat.pow_le_pow_right (by omega) (show us.length ≤ 12 from by omega)) (by decide))
          have hwr : IntKind.i64.wrap (N : Int) = (N : Int) := wrapIn _ (by omega) (by have := h4096.out; omega)
          have hw64 : wrap64 ((2 : Int) ^ us.length) = (N : Int) := by rw [hsh]; exact wr64 (by omega) (by have := h4096.out; omega)
          clear hsh hwr
          clear hN
          go_wp2_with fail
          go_loopw [14, 15, 16, 17] (fun b c _ _ wr => ∃ s : Nat, s ≤ N ∧ c = .int .i64 (s : Int) ∧ Own wr (W.heap.size + 1) 2 i64c 1 b (fxN ts us s) ∧ Own wr (W.heap.size + 1) 2 i64c 1 (.slice A7 us.length cap7) us ∧ Own wr w1.heap.size 98 Pair.c 2 (.slice A4 ts.length cap4) ts ∧ Bk wr W.heap.size 34 #[.int .i8 w, .int .i8 h, .slice A sl.length cap] ∧ Below W.heap.size W wr) (fun _ c _ _ _ => N - (intOf c).toNat)
          case atStart => exact ⟨0, by omega, rfl, HO.out, HO.out, HP.out, HK.out, HBr.out⟩
          case round =>
            obtain ⟨wo, rfl⟩ : ∃ wo : World, wo = wr := ⟨_, rfl⟩
            obtain ⟨s, hs, rfl, hb0, hu0, hp0, hk0, hbb0⟩ := hrel
            have HBo := Lib.hid hb0
            have HUo := Lib.hid hu0
            have HPo := Lib.hid hp0
            have HKo := Lib.hid hk0
            have HXo := Lib.hid hbb0
            obtain ⟨A9, cap9, rfl, -, -, -⟩ := (hb0.sl i64c_len).i64
            clear hb0 hu0 hp0 hk0 hbb0
            by_cases hlts : s < N
            · have hs4 : s < 4096 := Nat.lt_of_lt_of_le hlts h4096.out
              have hsd : decide ((s : Int) < (N : Int)) = true := by rw [decide_eq_true_eq]; omega
              have hfx := Lib.hid (show fxN ts us (s + 1) = if (betB (ownS us s us.length) (fxN ts us s) && coversB ts (ownS us s us.length)) = true then ownS us s us.length else fxN ts us s from rfl)
              have hfl := Lib.hid (fxN_len ts us s)
              have h12n : us.length ≤ 12 := by have := h12.out; omega
              have hn12 := Lib.hid h12n
              have hO0 := Lib.hid (Own.empty (α := Int) (c := i64c) (sz := 1) (E := 2) wo wo.heap.size wo.heap.size rfl (Nat.le_refl _))
              have hX0 := Lib.hid ((Below.refl wo.heap.size wo).alloc (Nat.le_refl _) (.cells #[] 2))
              go_wp2_with fail
              try simp only [hw64]
              go_loopw [16, 17] (fun r c wr => ∃ i : Nat, i ≤ us.length ∧ c = .int .i64 (i : Int) ∧ Own wr wo.heap.size 2 i64c 1 r (ownS us s i) ∧ Below wo.heap.size wo wr) (fun _ c _ => us.length - (intOf c).toNat)
              case atStart => exact ⟨0, by omega, rfl, hO0.out, hX0.out⟩
              case round =>
                obtain ⟨i, hi, rfl, hO, hb⟩ := hrel
                have HOi := Lib.hid hO
                have HBi := Lib.hid hb
                clear hO hb
                by_cases hlti : i < us.length
                · obtain ⟨A8, cap8, hv, _, _, hcell⟩ := (HUo.out.sl i64c_len).i64
                  obtain ⟨rfl, rfl⟩ : A7 = A8 ∧ cap7 = cap8 := by injection hv with e1 e2 e3; exact ⟨e1, e3⟩
                  obtain ⟨b1, o1, rfl, hbb, c0⟩ := hcell i hlti
                  have c0 := (HBi.out.cell (p := ⟨b1, _, none⟩) hbb).trans c0
                  have hst := Lib.hid (show ownS us s (i + 1) = if bitB s i = true then ownS us s i ++ [us[i]] else ownS us s i from by rw [ownS, List.getD_eq_getElem?_getD, List.getElem?_eq_getElem hlti]; rfl)
                  have hle := Lib.hid (ownS_len us s i)
                  have hbit := bit1_i64 s i hs4
                  have hbq : (((s / 2 ^ i % 2 : Nat) : Int) == 1) = bitB s i := by
                    unfold bitB
                    rcases Nat.mod_two_eq_zero_or_one (s / 2 ^ i) with h | h <;> rw [h] <;> rfl
                  clear hcell hv
                  generalize us[i] = x at *
                  generalize ownS us s i = ow at *
                  generalize ((s / 2 ^ i % 2 : Nat) : Int) = bt at *
                  cases hbt : bitB s i
                  · rw [hbt] at hbq
                    have hs2 := Lib.hid (hst.out.trans (if_neg (by rw [hbt]; decide)))
                    clear hst hbt
                    go_wp2_with fail
                    go_roundw
                    case rel => exact ⟨i + 1, by omega, by go_num, by rw [hs2.out]; exact HOi.out, HBi.out⟩
                    case measure => first | (simp [intOf]; done) | (simp [intOf]; omega)
                  · rw [hbt] at hbq
                    have hs2 := Lib.hid (hst.out.trans (if_pos hbt))
                    clear hst hbt
                    have hba := Lib.hid (HBi.out.alloc HBi.out.size (.cells #[.int .i64 x] 2))
                    go_wp2_with (at_builtin; refine push_i64at rfl _ _ rfl wo.heap.size ow _ rfl (HOi.out.alloc _) ⟨_, 0, none⟩ x rfl ((Bk.new _ _ _ _ rfl).cell 0 _ rfl) (by have := hle.out; have := hn12.out; omega) (Nat.le_trans HBi.out.size (by simp)) ?_)
                    intro v4 w4 hO4 hG4 hat
                    have hb4 := Lib.hid (hba.out.grown hG4 hba.out.size (fun j hj => HOi.out.base j hj))
                    rw [← hs2.out] at hO4
                    have hO4 := Lib.hid hO4
                    clear hG4 hat
                    go_wp2_with fail
                    go_roundw
                    case rel => exact ⟨i + 1, by omega, by go_num, hO4.out, hb4.out⟩
                    case measure => first | (simp [intOf]; done) | (simp [intOf]; omega)
                · obtain rfl : i = us.length := by omega
                  have hol := Lib.hid (ownS_len us s us.length)
                  generalize ownS us s us.length = ow at *
                  generalize fxN ts us s = be at *
                  obtain ⟨A10, cap10, rfl, -, -, -⟩ := (HOi.out.sl i64c_len).i64
                  have HBe := Lib.hid (HBo.out.ext HBi.out)
                  have HUe := Lib.hid (HUo.out.ext HBi.out)
                  have HPe := Lib.hid (HPo.out.ext HBi.out)
                  have HKe := Lib.hid (HKo.out.ext HBi.out)
                  have HXe := Lib.hid (ext_trans HXo.out HBi.out)
                  have hWs := Lib.hid (show W.heap.size + 1 ≤ wo.heap.size from HKo.out.lt)
                  have qcv := Lib.hid (fun W' (hb : Below wr.heap.size wr W') => sCovers_calls ts _ ow _ W' ((HPe.out.sl Pair.c_len).ext hb) ((HOi.out.sl i64c_len).ext hb))
                  rcases Nat.lt_trichotomy ow.length be.length with hlt | heq | hgt
                  · have hbet : betB ow be = true := by simp [betB, hlt]
                    have hd1 : decide ((ow.length : Int) < (be.length : Int)) = true := by rw [decide_eq_true_eq]; omega
                    have hd1n : ¬ be.length ≤ ow.length := by omega
                    rw [hbet, Bool.true_and] at hfx
                    clear hbet
                    cases hcv : coversB ts ow
                    · rw [hcv] at hfx qcv
                      have hs2 := Lib.hid (hfx.out.trans (if_neg (by decide)))
                      go_wp2_with fail
                      refine (qcv.out _ (Below.refl _ _)).mono ?_
                      rintro e w5 ⟨rfl, rfl⟩
                      go_wp2_with fail
                      go_roundw
                      case rel => exact ⟨s + 1, by omega, by go_num, by rw [hs2.out]; exact HBe.out, HUe.out, HPe.out, HKe.out, HXe.out⟩
                      case measure => first | (simp [intOf]; done) | (simp [intOf]; omega)
                    · rw [hcv] at hfx qcv
                      have hs2 := Lib.hid (hfx.out.trans (if_pos rfl))
                      go_wp2_with fail
                      refine (qcv.out _ (Below.refl _ _)).mono ?_
                      rintro e w5 ⟨rfl, rfl⟩
                      go_wp2_with fail
                      go_roundw
                      case rel => exact ⟨s + 1, by omega, by go_num, by rw [hs2.out]; exact HOi.out.more hWs.out, HUe.out, HPe.out, HKe.out, HXe.out⟩
                      case measure => first | (simp [intOf]; done) | (simp [intOf]; omega)
                  · have hd1 : decide ((ow.length : Int) < (be.length : Int)) = false := by rw [decide_eq_false_iff_not]; omega
                    have hd2 : ((ow.length : Int) == (be.length : Int)) = true := by rw [beq_iff_eq]; omega
                    have hd1n : be.length ≤ ow.length := by omega
                    have hd1m : ¬ ow.length < be.length := by omega
                    have hd2n : (ow.length : Int) = (be.length : Int) := by omega
                    have hbet : betB ow be = lexL ow be := by simp [betB, heq]
                    have ql := Lib.hid (least_calls ow be _ _ wr (HOi.out.sl i64c_len) (HBe.out.sl i64c_len) heq)
                    rw [hbet] at hfx
                    clear hbet heq
                    cases hlx : lexL ow be
                    · rw [hlx, Bool.false_and] at hfx
                      rw [hlx] at ql
                      have hs2 := Lib.hid (hfx.out.trans (if_neg (by decide)))
                      go_wp2_with fail
                      refine ql.out.mono ?_
                      rintro e w5 ⟨rfl, hb5⟩
                      have HB5 := Lib.hid hb5
                      clear hb5
                      go_wp2_with fail
                      go_roundw
                      case rel => exact ⟨s + 1, by omega, by go_num, by rw [hs2.out]; exact HBe.out.ext HB5.out, HUe.out.ext HB5.out, HPe.out.ext HB5.out, HKe.out.ext HB5.out, ext_trans HXe.out HB5.out⟩
                      case measure => first | (simp [intOf]; done) | (simp [intOf]; omega)
                    · rw [hlx, Bool.true_and] at hfx
                      rw [hlx] at ql
                      cases hcv : coversB ts ow
                      · rw [hcv] at hfx qcv
                        have hs2 := Lib.hid (hfx.out.trans (if_neg (by decide)))
                        go_wp2_with fail
                        refine ql.out.mono ?_
                        rintro e w5 ⟨rfl, hb5⟩
                        have HB5 := Lib.hid hb5
                        clear hb5
                        go_wp2_with fail
                        refine (qcv.out _ HB5.out).mono ?_
                        rintro e w6 ⟨rfl, rfl⟩
                        go_wp2_with fail
                        go_roundw
                        case rel => exact ⟨s + 1, by omega, by go_num, by rw [hs2.out]; exact HBe.out.ext HB5.out, HUe.out.ext HB5.out, HPe.out.ext HB5.out, HKe.out.ext HB5.out, ext_trans HXe.out HB5.out⟩
                        case measure => first | (simp [intOf]; done) | (simp [intOf]; omega)
                      · rw [hcv] at hfx qcv
                        have hs2 := Lib.hid (hfx.out.trans (if_pos rfl))
                        go_wp2_with fail
                        refine ql.out.mono ?_
                        rintro e w5 ⟨rfl, hb5⟩
                        have HB5 := Lib.hid hb5
                        clear hb5
                        go_wp2_with fail
                        refine (qcv.out _ HB5.out).mono ?_
                        rintro e w6 ⟨rfl, rfl⟩
                        go_wp2_with fail
                        go_roundw
                        case rel => exact ⟨s + 1, by omega, by go_num, by rw [hs2.out]; exact (HOi.out.more hWs.out).ext HB5.out, HUe.out.ext HB5.out, HPe.out.ext HB5.out, HKe.out.ext HB5.out, ext_trans HXe.out HB5.out⟩
                        case measure => first | (simp [intOf]; done) | (simp [intOf]; omega)
                  · have hd1 : decide ((ow.length : Int) < (be.length : Int)) = false := by rw [decide_eq_false_iff_not]; omega
                    have hd2 : ((ow.length : Int) == (be.length : Int)) = false := by rw [beq_eq_false_iff_ne]; omega
                    have hd1n : be.length ≤ ow.length := by omega
                    have hd1m : ¬ ow.length < be.length := by omega
                    have hd2n : ¬ (ow.length : Int) = (be.length : Int) := by omega
                    have hbet : betB ow be = false := by
                      unfold betB
                      rw [decide_eq_false (by omega), decide_eq_false (by omega)]
                      rfl
                    rw [hbet, Bool.false_and] at hfx
                    have hs2 := Lib.hid (hfx.out.trans (if_neg (by decide)))
                    clear hbet hgt
                    go_wp2_with fail
                    go_roundw
                    case rel => exact ⟨s + 1, by omega, by go_num, by rw [hs2.out]; exact HBe.out, HUe.out, HPe.out, HKe.out, HXe.out⟩
                    case measure => first | (simp [intOf]; done) | (simp [intOf]; omega)
            · obtain rfl : N = s := by omega
              have hsd : decide ((N : Int) < (N : Int)) = false := by rw [decide_eq_false_iff_not]; omega
              go_wp2_with fail
              go_ret2
              rw [hE2.out]
              exact RetRow2.mk rfl (HBo.out.more (by omega)) HXo.out
  · have hE := Lib.hid (fewest_no hc)
    have hcb : (tripC w h sl lv (inB limit 0 200) == 0) = false := by simpa using hc
    have hcb2 : (tripC w h sl lv (inB limit 0 200) != 0) = true := by simpa using hc
    generalize tripC w h sl lv (inB limit 0 200) = C at *
    clear hc
    go_wp2_with fail
    go_ret2
    rw [hE.out]
    exact RetRow2.mk rfl (Own.empty (α := Int) (c := i64c) (sz := 1) (E := 2) w1 W.heap.size _ rfl HB1.out.size) (HB1.out.alloc HB1.out.size _)
end Go.Proofs.Ytpjdgpcdcihogaa
