/-
GreedyExchanged of the reference. Conditions: slices can be read. PRINTED by wip/mk_gx.py.
-/
import Derived.Test.YtbmkhhhlnollmaaGX1
set_option linter.unusedVariables false
set_option linter.unusedSimpArgs false
set_option maxRecDepth 100000
namespace Go.Proofs.Ytbmkhhhlnollmaa
open Go.RowKit
def greedy (w h : Int) (sl : List Slab) (lv : List Int) (limit : Int) : List Int × Int := if tripC w h sl lv (inB limit 0 200) = 0 then (greedyL (tripsL lv limit (prsL sl)) sl.length, 0) else ([], tripC w h sl lv (inB limit 0 200))
theorem greedy_ok {w h : Int} {sl : List Slab} {lv : List Int} {limit : Int} (hc : tripC w h sl lv (inB limit 0 200) = 0) : greedy w h sl lv limit = (greedyL (tripsL lv limit (prsL sl)) sl.length, 0) := if_pos hc
theorem greedy_no {w h : Int} {sl : List Slab} {lv : List Int} {limit : Int} (hc : ¬ tripC w h sl lv (inB limit 0 200) = 0) : greedy w h sl lv limit = ([], tripC w h sl lv (inB limit 0 200)) := if_neg hc
theorem greedy_len (w h : Int) (sl : List Slab) (lv : List Int) (limit : Int) : (greedy w h sl lv limit).1.length ≤ 3600 := by
  unfold greedy
  split
  · rename_i hc
    obtain ⟨hlb, -⟩ := tripC_ok hc
    exact Nat.le_trans (gr_len _) (Nat.le_trans (tripsL_len _ _ _) (prsL_len60 (sqOk_len (numsB_ok hlb).1)))
  · simp
theorem trips_idx {sl : List Slab} {lv : List Int} {limit : Int} : ∀ p ∈ tripsL lv limit (prsL sl), idxP sl.length p ∧ p.a ≠ p.b := by
  intro p hp
  have hp2 := (List.mem_filter.1 hp).1
  obtain ⟨h1, h2, h3, h4⟩ := prsN_mem _ _ _ hp2
  exact ⟨⟨h1, h2, by omega, h4⟩, by omega⟩
theorem cntS_le (us : List Int) (ts : List Pair) (k : Int) (i : Nat) : cntS us (ts.take i) k ≤ i := Nat.le_trans (List.length_filter_le _ _) (by rw [List.length_take]; exact Nat.min_le_left _ _)
theorem bst_succ (f : Nat → Nat) (k : Nat) : bst f (k + 1) = if (bst f k).2 < f k then (k, f k) else bst f k := rfl
theorem bst_le (f : Nat → Nat) (N : Nat) (hf : ∀ k, f k ≤ N) : ∀ n, (bst f n).1 ≤ n ∧ (bst f n).2 ≤ N
  | 0 => by simp [bst]
  | n + 1 => by
    have := bst_le f N hf n
    rw [bst_succ]
    split
    · exact ⟨by simp, hf n⟩
    · exact ⟨by omega, this.2⟩
/-- One round of counting: what is counted at a pair. -/
def cntB (us : List Int) (k : Int) (p : Pair) : Bool := !covP us p && hasE k p
set_option maxHeartbeats 2000000 in
theorem specGreedy_calls (w h : Int) (z : Value) (sl : List Slab) (lv : List Int) (u : Value) (limit : Int) (W : World) (hq : SqIn W w h z sl) (ht : Sl W W.heap.size i64c 1 u lv) :
    Calls Try.prog 55 #[sqv w h z, u, .int .i64 limit] W (RetRow2 W 2 i64c 1 (greedy w h sl lv limit)) := by
  obtain ⟨A, cap, hz, -, -, -⟩ := hq.sl.slab
  subst hz
  obtain ⟨A2, cap2, rfl, -, -, -⟩ := ht.i64
  have HQ := Lib.hid hq
  have HT := Lib.hid ht
  have HB := Lib.hid (ext_alloc ((Below.refl W.heap.size W).alloc (Nat.le_refl _) (.cells #[.int .i8 w, .int .i8 h, .slice A sl.length cap] 34)) (.cells #[] 2))
  have K0 := Lib.hid ((Bk.new W 34 #[.int .i8 w, .int .i8 h, .slice A sl.length cap] W.heap.size rfl).alloc (.cells #[] 2))
  have HA := Lib.hid (show Sq.at_ ((W.alloc (.cells #[.int .i8 w, .int .i8 h, .slice A sl.length cap] 34)).alloc (.cells #[] 2)) W.heap.size 0 w h (.slice A sl.length cap) from ⟨K0.out.cell 0 _ rfl, K0.out.cell 1 _ rfl, K0.out.cell 2 _ rfl, K0.out.lt⟩)
  have hO0 := Lib.hid (Own.empty (α := Int) (c := i64c) (sz := 1) (E := 2) (W.alloc (.cells #[.int .i8 w, .int .i8 h, .slice A sl.length cap] 34)) (W.heap.size + 1) (W.heap.size + 1) (by simp) (by simp))
  have qa := Lib.hid (fun fine => sAsked_calls W.heap.size 0 w h _ sl lv _ fine _ (hq.ext HB.out) HA.out (ht.ext HB.out))
  clear hq ht
  unfold sqv
  go_enter Try.func55, Try.ntmps55
  go_wp2_with fail
  refine (sLimit_calls _ _).mono ?_
  rintro e w1 ⟨rfl, rfl⟩
  go_wp2_with fail
  refine (qa.out _).mono ?_
  rintro e w1 ⟨rfl, hb1⟩
  have HB1 := Lib.hid (ext_trans HB.out hb1)
  have HA1 := Lib.hid (HA.out.ext hb1)
  have hO1 := Lib.hid (hO0.out.ext hb1)
  clear hb1 qa
  by_cases hc : tripC w h sl lv (inB limit 0 200) = 0
  · have hE := Lib.hid (greedy_ok hc)
    obtain ⟨hlb, -⟩ := tripC_ok hc
    obtain ⟨hv, hll, hsm⟩ := levB_ok hlb
    have qt := Lib.hid (sTrips_calls W.heap.size 0 w h _ sl lv _ limit hv hsm hll w1 (HQ.out.ext HB1.out) HA1.out (HT.out.ext HB1.out))
    have hpl := Lib.hid (Nat.le_trans (tripsL_len lv limit (prsL sl)) (prsL_len60 (sqOk_len hv)))
    have HIX := Lib.hid (trips_idx (sl := sl) (lv := lv) (limit := limit))
    have hn60 := Lib.hid (sqOk_len hv)
    rw [hc]
    clear hc hv hll hsm hlb
    generalize tripsL lv limit (prsL sl) = ts at *
    go_wp2_with fail
    refine qt.out.mono ?_
    rintro e w2 ⟨v2, rfl, hO2, hb2⟩
    obtain ⟨A4, cap4, rfl, -, -, -⟩ := (hO2.sl Pair.c_len).pair
    have HB2 := Lib.hid (ext_trans HB1.out hb2)
    have HP2 := Lib.hid hO2
    have HU2 := Lib.hid (hO1.out.ext hb2)
    have HA2 := Lib.hid (HA1.out.ext hb2)
    have HD0 := Lib.hid (show Dis (.slice (some ⟨W.heap.size + 1, 0, none⟩) 0 0) (.slice A4 ts.length cap4) from fun j h1 h2 => by have := hO1.out.lt j h1; have := hO2.base j h2; omega)
    clear hO2 hb2
    go_wp2_with fail
    go_loopg [8, 11, 12, 13, 14, 15, 16] ts.length (fun gg r _ _ _ _ _ _ wr => ∃ kk : Nat, kk ≤ ts.length ∧ ts.length - kk ≤ gg ∧ Own wr (W.heap.size + 1) 2 i64c 1 r (gr ts sl.length kk) ∧ Own wr w1.heap.size 120 Pair.c 2 (.slice A4 ts.length cap4) ts ∧ Dis r (.slice A4 ts.length cap4) ∧ Sq.at_ wr W.heap.size 0 w h (.slice A sl.length cap) ∧ Below W.heap.size W wr)
    case atStart => exact ⟨0, by omega, by omega, HU2.out, HP2.out, HD0.out, HA2.out, HB2.out⟩
    case round =>
      obtain ⟨kk, hkk, hgg, hO, hP, hD, ha, hb⟩ := hrel
      have HAr := Lib.hid ha
      have HO := Lib.hid hO
      have HP := Lib.hid hP
      have HD := Lib.hid hD
      have HBr := Lib.hid hb
      obtain ⟨A5, cap5, rfl, -, -, -⟩ := (hO.sl i64c_len).i64
      have qc := Lib.hid (sCovers_calls ts _ (gr ts sl.length kk) _ wr (hP.sl Pair.c_len) (hO.sl i64c_len))
      have hle := Lib.hid (Nat.le_trans (gr_len (ts := ts) (n := sl.length) kk) (show kk ≤ 3600 from by have := hpl.out; omega))
      have hcv := Lib.hid (remL_covers ts (gr ts sl.length kk))
      clear hO hP hD hb ha
      by_cases hrem : remL ts (gr ts sl.length kk) = []
      · have hfin := Lib.hid (gr_end (fun p hp => (HIX.out p hp).1) hkk hrem)
        rw [hcv.out.1 hrem] at qc
        have hrem := Lib.hid hrem
        go_wp2_with fail
        refine qc.out.mono ?_
        rintro e w3 ⟨rfl, rfl⟩
        go_wp2_with fail
        go_ret2
        rw [hE.out]
        exact RetRow2.mk rfl (by rw [← hfin.out]; exact HO.out.more (by omega)) HBr.out
      · have hnx := Lib.hid (gr_next (n := sl.length) (k := kk) (fun p hp => (HIX.out p hp).1) hrem)
        have hcf : coversB ts (gr ts sl.length kk) = false := by
          cases hcb : coversB ts (gr ts sl.length kk)
          · rfl
          · exact absurd (hcv.out.2 hcb) hrem
        rw [hcf] at qc
        have hbe := Lib.hid (show bestE (remL ts (gr ts sl.length kk)) sl.length = ((bst (fun k => cntE (remL ts (gr ts sl.length kk)) (k : Int)) sl.length).1 : Int) from rfl)
        have hcs := Lib.hid (fun k : Int => cntS_eq (gr ts sl.length kk) ts k)
        have hrem := Lib.hid hrem
        clear hcf
        generalize gr ts sl.length kk = us at *
        obtain ⟨f, hf⟩ : ∃ f : Nat → Nat, f = fun (k : Nat) => cntE (remL ts us) (k : Int) := ⟨_, rfl⟩
        rw [← hf] at hbe
        have HF := Lib.hid hf
        clear hf
        have hfle := Lib.hid (show ∀ k, f k ≤ 3600 from fun k => by rw [HF.out]; show cntE (remL ts us) (k : Int) ≤ 3600; exact Nat.le_trans (by rw [← hcs.out]; have := cntS_le us ts (k : Int) ts.length; rwa [List.take_length] at this) hpl.out)
        have HSQ := Lib.hid ((HQ.out.ext HBr.out))
        go_wp2_with fail
        refine qc.out.mono ?_
        rintro e w3 ⟨rfl, rfl⟩
        have a2 := HAr.out.c2
        have n60 := hn60.out
        go_wp2_with fail
        go_loop [11, 12, 13, 14, 15, 16] (fun b m c _ _ _ => ∃ k : Nat, k ≤ sl.length ∧ c = .int .i64 (k : Int) ∧ b = .int .i64 ((bst f k).1 : Int) ∧ m = .int .i64 ((bst f k).2 : Int)) (fun _ _ c _ _ _ => sl.length - (intOf c).toNat)
        case atStart => exact ⟨0, by omega, rfl, rfl, rfl⟩
        case round =>
          obtain ⟨k, hk, rfl, rfl, rfl⟩ := hrel
          by_cases hlt : k < sl.length
          · have hbs := Lib.hid (bst_succ f k)
            have hbl := bst_le f 3600 hfle.out k
            have hfk := hfle.out k
            have hkd : decide ((k : Int) < (sl.length : Int)) = true := by rw [decide_eq_true_eq]; omega
            go_wp2_with fail
            go_loop [14, 15, 16] (fun c i _ => ∃ j : Nat, j ≤ ts.length ∧ i = .int .i64 (j : Int) ∧ c = .int .i64 ((cntS us (ts.take j) (k : Int) : Nat) : Int)) (fun _ i _ => ts.length - (intOf i).toNat)
            case atStart => exact ⟨0, by omega, rfl, rfl⟩
            case round =>
              obtain ⟨j, hj, rfl, rfl⟩ := hrel
              by_cases hlt2 : j < ts.length
              · obtain ⟨A6, cap6, hv, _, _, hcell⟩ := (HP.out.sl Pair.c_len).pair
                obtain ⟨rfl, rfl⟩ : A4 = A6 ∧ cap4 = cap6 := by injection hv with e1 e2 e3; exact ⟨e1, e3⟩
                obtain ⟨b1, o1, rfl, hbb, c0, c1⟩ := hcell j hlt2
                have hst := Lib.hid (cntS_succ us ts (k : Int) j hlt2)
                have hcl := cntS_le us ts (k : Int) j
                have hp36 := hpl.out
                have q1 := Lib.hid (l00Has_calls us _ ts[j].a wr (HO.out.sl i64c_len))
                have q2 := Lib.hid (l00Has_calls us _ ts[j].b wr (HO.out.sl i64c_len))
                clear hcell hv
                generalize ts[j] = p at *
                generalize cntS us (ts.take j) (k : Int) = C at *
                have hyes := Lib.hid (show (!covP us p && hasE (k : Int) p) = true → cntS us (ts.take (j + 1)) (k : Int) = C + 1 from fun h => by rw [hst.out, if_pos h])
                have hno := Lib.hid (show (!covP us p && hasE (k : Int) p) = false → cntS us (ts.take (j + 1)) (k : Int) = C from fun h => by rw [hst.out, if_neg (by rw [h]; decide)])
                unfold covP hasE at hyes hno
                clear hst
                generalize decide (p.a ∈ us) = m1 at *
                generalize decide (p.b ∈ us) = m2 at *
                cases m1
                · cases m2
                  · by_cases e1 : p.a = (k : Int)
                    · have r1 : (p.a == (k : Int)) = true := by simp [e1]
                      clear e1
                      have hs2 := Lib.hid (hyes.out (by first | rfl | simp [*] | (simp; omega)))
                      clear hyes hno
                      go_wp2_with fail
                      refine q1.out.mono ?_
                      rintro e w4 ⟨rfl, rfl⟩
                      go_wp2_with fail
                      refine q2.out.mono ?_
                      rintro e w4 ⟨rfl, rfl⟩
                      go_wp2_with fail
                      go_round
                      case rel => exact ⟨j + 1, by omega, by go_num, by rw [hs2.out]; go_num⟩
                      case measure => first | (simp [intOf]; done) | (simp [intOf]; omega)
                    · have r1 : (p.a == (k : Int)) = false := by simpa using e1
                      clear e1
                      by_cases e2 : p.b = (k : Int)
                      · have r2 : (p.b == (k : Int)) = true := by simp [e2]
                        clear e2
                        have hs2 := Lib.hid (hyes.out (by first | rfl | simp [*] | (simp; omega)))
                        clear hyes hno
                        go_wp2_with fail
                        refine q1.out.mono ?_
                        rintro e w4 ⟨rfl, rfl⟩
                        go_wp2_with fail
                        refine q2.out.mono ?_
                        rintro e w4 ⟨rfl, rfl⟩
                        go_wp2_with fail
                        go_round
                        case rel => exact ⟨j + 1, by omega, by go_num, by rw [hs2.out]; go_num⟩
                        case measure => first | (simp [intOf]; done) | (simp [intOf]; omega)
                      · have r2 : (p.b == (k : Int)) = false := by simpa using e2
                        clear e2
                        have hs2 := Lib.hid (hno.out (by first | rfl | simp [*] | (simp; omega)))
                        clear hyes hno
                        go_wp2_with fail
                        refine q1.out.mono ?_
                        rintro e w4 ⟨rfl, rfl⟩
                        go_wp2_with fail
                        refine q2.out.mono ?_
                        rintro e w4 ⟨rfl, rfl⟩
                        go_wp2_with fail
                        go_round
                        case rel => exact ⟨j + 1, by omega, by go_num, by rw [hs2.out]⟩
                        case measure => first | (simp [intOf]; done) | (simp [intOf]; omega)
                  · skip
                    have hs2 := Lib.hid (hno.out (by first | rfl | simp [*] | (simp; omega)))
                    clear hyes hno
                    go_wp2_with fail
                    refine q1.out.mono ?_
                    rintro e w4 ⟨rfl, rfl⟩
                    go_wp2_with fail
                    refine q2.out.mono ?_
                    rintro e w4 ⟨rfl, rfl⟩
                    go_wp2_with fail
                    go_round
                    case rel => exact ⟨j + 1, by omega, by go_num, by rw [hs2.out]⟩
                    case measure => first | (simp [intOf]; done) | (simp [intOf]; omega)
                · skip
                  have hs2 := Lib.hid (hno.out (by first | rfl | simp [*] | (simp; omega)))
                  clear hyes hno
                  go_wp2_with fail
                  refine q1.out.mono ?_
                  rintro e w4 ⟨rfl, rfl⟩
                  go_wp2_with fail
                  go_round
                  case rel => exact ⟨j + 1, by omega, by go_num, by rw [hs2.out]⟩
                  case measure => first | (simp [intOf]; done) | (simp [intOf]; omega)
              · obtain rfl : j = ts.length := by omega
                have hE3 := Lib.hid (show cntS us (ts.take ts.length) (k : Int) = f k from by rw [List.take_length, hcs.out, HF.out])
                rw [hE3.out]
                have hy2 := Lib.hid (show (bst f k).2 < f k → (bst f (k + 1)).1 = k ∧ (bst f (k + 1)).2 = f k from fun h => by rw [hbs.out, if_pos h]; exact ⟨rfl, rfl⟩)
                have hn2 := Lib.hid (show ¬ (bst f k).2 < f k → (bst f (k + 1)).1 = (bst f k).1 ∧ (bst f (k + 1)).2 = (bst f k).2 from fun h => by rw [hbs.out, if_neg h]; exact ⟨rfl, rfl⟩)
                clear hbs
                generalize f k = F at *
                generalize (bst f k).1 = b at *
                generalize (bst f k).2 = m at *
                by_cases hmf : m < F
                · have hd2 : decide (m < F) = true := decide_eq_true hmf
                  have e1 := Lib.hid (hy2.out hmf)
                  clear hy2 hn2
                  go_wp2_with fail
                  go_round
                  case rel => exact ⟨k + 1, by omega, by go_num, by rw [e1.out.1], by rw [e1.out.2]⟩
                  case measure => first | (simp [intOf]; done) | (simp [intOf]; omega)
                · have hd2 : decide (m < F) = false := decide_eq_false hmf
                  have e1 := Lib.hid (hn2.out hmf)
                  clear hy2 hn2
                  go_wp2_with fail
                  go_round
                  case rel => exact ⟨k + 1, by omega, by go_num, by rw [e1.out.1], by rw [e1.out.2]⟩
                  case measure => first | (simp [intOf]; done) | (simp [intOf]; omega)
          · obtain rfl : k = sl.length := by omega
            have hkd : decide ((sl.length : Int) < (sl.length : Int)) = false := by rw [decide_eq_false_iff_not]; omega
            have hbl := bst_le f 3600 hfle.out sl.length
            have hE4 := Lib.hid (show gr ts sl.length (kk + 1) = us ++ [((bst f sl.length).1 : Int)] from by rw [hnx.out.1, hbe.out])
            have hk1 := hnx.out.2
            generalize (bst f sl.length).1 = b at *
            have hbK := Lib.hid (((Below.refl (W.heap.size + 1) wr).alloc (HAr.out.lt) (.cells #[.int .i64 (b : Int)] 2)))
            have hba := Lib.hid (HBr.out.alloc HBr.out.size (.cells #[.int .i64 (b : Int)] 2))
            have HPa := Lib.hid (HP.out.alloc (.cells #[.int .i64 (b : Int)] 2))
            go_wp2_with (at_builtin; refine push_i64at rfl _ _ rfl (W.heap.size + 1) us _ rfl (HO.out.alloc _) ⟨_, 0, none⟩ (b : Int) rfl ((Bk.new _ _ _ _ rfl).cell 0 _ rfl) (by have := hle.out; omega) (Nat.le_trans HAr.out.lt (by simp)) ?_)
            intro v4 w4 hO4 hG4 hat
            have hb4 := Lib.hid (hba.out.grown hG4 hba.out.size (fun j hj => by have := HO.out.base j hj; omega))
            have hk4 := Lib.hid (hbK.out.grown hG4 (by have := HAr.out.lt; simp; omega) (fun j hj => HO.out.base j hj))
            have HP4 := Lib.hid (HPa.out.keep (fun j hj => hG4.block j (HPa.out.lt j hj) (fun he => HD.out j he.symm hj)))
            have HD4 := Lib.hid (show Dis v4 (.slice A4 ts.length cap4) from fun j h1 h2 => by
              rcases hat with he | he
              · exact HD.out j (he ▸ h1) h2
              · rw [he] at h1
                injection h1 with h1
                have := HP.out.lt j h2
                try simp at h1
                omega)
            rw [← hE4.out] at hO4
            have hO4 := Lib.hid hO4
            have HA4 := Lib.hid (HAr.out.keep (Nat.lt_succ_self _) hk4.out)
            clear hG4 hat
            go_wp2_with fail
            go_roundg (ts.length - (kk + 1))
            case rel => exact ⟨kk + 1, by omega, by omega, hO4.out, HP4.out, HD4.out, HA4.out, hb4.out⟩
            case measure => omega
  · have hE := Lib.hid (greedy_no hc)
    have hcb : (tripC w h sl lv (inB limit 0 200) == 0) = false := by simpa using hc
    have hcb2 : (tripC w h sl lv (inB limit 0 200) != 0) = true := by simpa using hc
    generalize tripC w h sl lv (inB limit 0 200) = C at *
    clear hc
    go_wp2_with fail
    go_ret2
    rw [hE.out]
    exact RetRow2.mk rfl (hO1.out.more (by omega)) HB1.out
end Go.Proofs.Ytbmkhhhlnollmaa
