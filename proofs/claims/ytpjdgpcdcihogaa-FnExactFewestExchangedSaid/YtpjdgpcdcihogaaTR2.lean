/-
TripEdges of both programs. Conditions: slices can be read.
-/
import Derived.Test.YtpjdgpcdcihogaaTR1
set_option linter.unusedVariables false
set_option linter.unusedSimpArgs false
set_option maxRecDepth 100000
namespace Go.Proofs.Ytpjdgpcdcihogaa
open Go.RowKit
theorem tripsL_succ (lv : List Int) (limit : Int) (ps : List Pair) (k : Nat) (hk : k < ps.length) : tripsL lv limit (ps.take (k + 1)) = if limit < offI lv ps[k] then tripsL lv limit (ps.take k) ++ [ps[k]] else tripsL lv limit (ps.take k) := by
  unfold tripsL
  rw [List.take_succ_eq_append_getElem hk, List.filter_append]
  by_cases h : limit < offI lv ps[k]
  · rw [if_pos h, List.filter_cons_of_pos (by simpa using h)]; rfl
  · rw [if_neg h, List.filter_cons_of_neg (by simpa using h)]; simp
theorem tripsL_len (lv : List Int) (limit : Int) (ps : List Pair) : (tripsL lv limit ps).length ≤ ps.length := List.length_filter_le _ _
theorem prsL_len60 {sl : List Slab} (hn : sl.length ≤ 60) : (prsL sl).length ≤ 3600 := Nat.le_trans (prsN_len sl sl.length) (mul60 (Nat.le_refl _) hn)
theorem prsL_idx {sl : List Slab} {lv : List Int} (hl : lv.length = sl.length) : ∀ p ∈ prsL sl, idxP lv.length p := by
  intro p hp
  obtain ⟨h1, h2, h3, h4⟩ := prsL_mem sl p hp
  unfold idxP
  omega
set_option maxHeartbeats 2000000 in
theorem sTrips_calls (b o : Nat) (w h : Int) (z : Value) (sl : List Slab) (lv : List Int) (u : Value) (limit : Int) (hv : sqOk w h sl = true) (hlv : smallL lv) (hll : lv.length = sl.length) (W : World) (hq : SqIn W w h z sl) (ha : Sq.at_ W b o w h z) (ht : Sl W W.heap.size i64c 1 u lv) :
    Calls Try.prog 63 #[.pointer (some ⟨b, o, none⟩), u, .int .i64 limit] W (RetRow W 98 Pair.c 2 (tripsL lv limit (prsL sl))) := by
  obtain ⟨A2, cap2, rfl, -, -, -⟩ := ht.i64
  have HB := Lib.hid ((Below.refl W.heap.size W).alloc (Nat.le_refl _) (.cells #[] 98))
  have hO0 := Lib.hid (Own.empty (α := Pair) (c := Pair.c) (sz := 2) (E := 98) W W.heap.size W.heap.size rfl (Nat.le_refl _))
  have qp := Lib.hid (sPairs_calls b o w h z sl hv _ (hq.ext HB.out) (ha.ext HB.out))
  have HT := Lib.hid ht
  have HLS := Lib.hid hlv
  have hpl := Lib.hid (prsL_len60 (sqOk_len hv))
  have HIX := Lib.hid (prsL_idx hll)
  clear hq ha ht hv hlv hll
  generalize prsL sl = ps at *
  go_enter Try.func63, Try.ntmps63
  go_wp2_with fail
  generalize W.alloc (.cells #[] 98) = W1 at *
  refine qp.out.mono ?_
  rintro e w1 ⟨v1, rfl, hO1, hb1⟩
  obtain ⟨A, cap, rfl, -, -, -⟩ := (hO1.sl Pair.c_len).pair
  have HP1 := Lib.hid hO1
  have HO1 := Lib.hid (hO0.out.ext hb1)
  have HB1 := Lib.hid (ext_trans HB.out hb1)
  have HD0 := Lib.hid (show ∀ j, (Value.slice (some ⟨W.heap.size, 0, none⟩) 0 0).ownBlock = some j → (Value.slice A ps.length cap).ownBlock = some j → False from fun j h1 h2 => by have := hO0.out.lt j h1; have := hO1.base j h2; omega)
  clear hO1 hb1
  go_wp2_with fail
  go_loopw [7, 9] (fun r c wr => ∃ k : Nat, k ≤ ps.length ∧ c = .int .i64 (k : Int) ∧ Own wr W.heap.size 98 Pair.c 2 r (tripsL lv limit (ps.take k)) ∧ Own wr W1.heap.size 98 Pair.c 2 (.slice A ps.length cap) ps ∧ Dis r (.slice A ps.length cap) ∧ Below W.heap.size W wr) (fun _ c _ => ps.length - (intOf c).toNat)
  case atStart => exact ⟨0, by omega, rfl, HO1.out, HP1.out, HD0.out, HB1.out⟩
  case round =>
    obtain ⟨k, hk, rfl, hO, hP, hD, hb⟩ := hrel
    have HO := Lib.hid hO
    have HP := Lib.hid hP
    have HD := Lib.hid hD
    have HBr := Lib.hid hb
    clear hO hP hD hb
    by_cases hlt : k < ps.length
    · have hst := Lib.hid (tripsL_succ lv limit ps k hlt)
      obtain ⟨A3, cap3, hv, _, _, hcell⟩ := (HP.out.sl Pair.c_len).pair
      obtain ⟨rfl, rfl⟩ : A = A3 ∧ cap = cap3 := by injection hv with e1 e2 e3; exact ⟨e1, e3⟩
      obtain ⟨b1, o1, rfl, hbb, c0, c1⟩ := hcell k hlt
      have hix := Lib.hid (HIX.out _ (List.getElem_mem hlt))
      have hlen := Lib.hid (show (tripsL lv limit (ps.take k)).length ≤ 3600 from Nat.le_trans (tripsL_len _ _ _) (Nat.le_trans (by rw [List.length_take]; exact Nat.min_le_right _ _) hpl.out))
      clear hcell hv
      generalize ps[k] = p at *
      have qo := Lib.hid (sOff_calls lv _ p wr (HT.out.ext HBr.out) hix.out HLS.out)
      unfold Pair.v at qo
      generalize offI lv p = d at *
      go_wp2_with fail
      refine qo.out.mono ?_
      rintro e w3 ⟨rfl, hb3⟩
      have HO3 := Lib.hid (HO.out.ext hb3)
      have HP3 := Lib.hid (HP.out.ext hb3)
      have HB3 := Lib.hid (ext_trans HBr.out hb3)
      have c0 := (hb3.cell (p := ⟨b1, _, none⟩) hbb).trans c0
      have c1 := (hb3.cell (p := ⟨b1, _, none⟩) hbb).trans c1
      clear hb3
      by_cases hd : limit < d
      · have hdd : decide (limit < d) = true := decide_eq_true hd
        have hs2 := Lib.hid (hst.out.trans (if_pos hd))
        clear hst
        generalize tripsL lv limit (ps.take k) = us at *
        have hba := Lib.hid (HB3.out.alloc HB3.out.size (.cells #[.int .i64 p.a, .int .i64 p.b] 98))
        have HPa := Lib.hid (HP3.out.alloc (.cells #[.int .i64 p.a, .int .i64 p.b] 98))
        go_wp2_with (at_builtin; refine push_pair rfl _ _ rfl W.heap.size us _ rfl (HO3.out.alloc _) _ p 98 rfl (Bk.new _ _ _ _ rfl) (by have := hlen.out; omega) (Nat.le_trans HB3.out.size (by simp)) ?_)
        intro v4 w4 hO4 hG4 hat
        have hb4 := Lib.hid (hba.out.grown hG4 hba.out.size (fun j hj => HO3.out.base j hj))
        have HP4 := Lib.hid (HPa.out.keep (fun j hj => hG4.block j (HPa.out.lt j hj) (fun he => HD.out j he.symm hj)))
        have HD4 := Lib.hid (show Dis v4 (.slice (some ⟨b1, o1, none⟩) ps.length cap) from fun j h1 h2 => by
          rcases hat with he | he
          · exact HD.out j (he ▸ h1) h2
          · rw [he] at h1
            injection h1 with h1
            have := HP3.out.lt j h2
            try simp at h1
            omega)
        rw [← hs2.out] at hO4
        have hO4 := Lib.hid hO4
        clear hG4 hat
        go_wp2_with fail
        go_roundw
        case rel => exact ⟨k + 1, by omega, by go_num, hO4.out, HP4.out, HD4.out, hb4.out⟩
        case measure => first | (simp [intOf]; done) | (simp [intOf]; omega)
      · have hdd : decide (limit < d) = false := decide_eq_false hd
        have hs2 := Lib.hid (hst.out.trans (if_neg hd))
        clear hst
        go_wp2_with fail
        go_roundw
        case rel => exact ⟨k + 1, by omega, by go_num, by rw [hs2.out]; exact HO3.out, HP3.out, HD.out, HB3.out⟩
        case measure => first | (simp [intOf]; done) | (simp [intOf]; omega)
    · obtain rfl : k = ps.length := by omega
      have hE := Lib.hid (show ps.take ps.length = ps from List.take_length)
      rw [hE.out] at HO
      go_wp2_with fail
      go_ret
      exact ⟨_, rfl, HO.out, HBr.out⟩
def tripEdges (w h : Int) (sl : List Slab) (lv : List Int) (limit : Int) : List Pair × Int := if tripC w h sl lv (inB limit 0 200) = 0 then (tripsL lv limit (prsL sl), 0) else ([], tripC w h sl lv (inB limit 0 200))
theorem tripEdges_ok {w h : Int} {sl : List Slab} {lv : List Int} {limit : Int} (hc : tripC w h sl lv (inB limit 0 200) = 0) : tripEdges w h sl lv limit = (tripsL lv limit (prsL sl), 0) := if_pos hc
theorem tripEdges_no {w h : Int} {sl : List Slab} {lv : List Int} {limit : Int} (hc : ¬ tripC w h sl lv (inB limit 0 200) = 0) : tripEdges w h sl lv limit = ([], tripC w h sl lv (inB limit 0 200)) := if_neg hc
theorem tripEdges_len (w h : Int) (sl : List Slab) (lv : List Int) (limit : Int) : (tripEdges w h sl lv limit).1.length ≤ 3600 := by
  unfold tripEdges
  split
  · rename_i hc
    obtain ⟨hlb, -⟩ := tripC_ok hc
    exact Nat.le_trans (tripsL_len _ _ _) (prsL_len60 (sqOk_len (numsB_ok hlb).1))
  · simp
def RetRow2 {α : Type} (W : World) (E : TypeId) (c : α → List Value) (sz : Nat) (r : List α × Int) (e : Ending) (w' : World) : Prop := ∃ v, e = .returned (.tuple #[v, .int .i64 r.2]) ∧ Own w' W.heap.size E c sz v r.1 ∧ Below W.heap.size W w'
theorem RetRow2.mk {α : Type} {W w' : World} {E : TypeId} {c : α → List Value} {sz : Nat} {r : List α × Int} {v : Value} {b : Int} (h2 : b = r.2) (ho : Own w' W.heap.size E c sz v r.1) (hb : Below W.heap.size W w') : RetRow2 W E c sz r (.returned (.tuple #[v, .int .i64 b])) w' := ⟨v, by rw [h2], ho, hb⟩
theorem levB_ok {w h : Int} {sl : List Slab} {xs : List Int} (hv : levB w h sl xs = true) : sqOk w h sl = true ∧ xs.length = sl.length ∧ smallL xs := numsB_ok hv
set_option maxHeartbeats 1000000 in
theorem specTripEdges_calls (w h : Int) (z : Value) (sl : List Slab) (lv : List Int) (u : Value) (limit : Int) (W : World) (hq : SqIn W w h z sl) (ht : Sl W W.heap.size i64c 1 u lv) :
    Calls Try.prog 29 #[sqv w h z, u, .int .i64 limit] W (RetRow2 W 98 Pair.c 2 (tripEdges w h sl lv limit)) := by
  obtain ⟨A, cap, hz, -, -, -⟩ := hq.sl.slab
  subst hz
  obtain ⟨A2, cap2, rfl, -, -, -⟩ := ht.i64
  have HQ := Lib.hid hq
  have HT := Lib.hid ht
  have HB := Lib.hid ((Below.refl W.heap.size W).alloc (Nat.le_refl _) (.cells #[.int .i8 w, .int .i8 h, .slice A sl.length cap] 34))
  have K0 := Lib.hid (Bk.new W 34 #[.int .i8 w, .int .i8 h, .slice A sl.length cap] W.heap.size rfl)
  have HA := Lib.hid (show Sq.at_ (W.alloc (.cells #[.int .i8 w, .int .i8 h, .slice A sl.length cap] 34)) W.heap.size 0 w h (.slice A sl.length cap) from ⟨K0.out.cell 0 _ rfl, K0.out.cell 1 _ rfl, K0.out.cell 2 _ rfl, K0.out.lt⟩)
  have qa := Lib.hid (fun fine => sAsked_calls W.heap.size 0 w h _ sl lv _ fine _ (hq.ext HB.out) HA.out (ht.ext HB.out))
  clear hq ht
  unfold sqv
  go_enter Try.func29, Try.ntmps29
  go_wp2_with fail
  refine (sLimit_calls _ _).mono ?_
  rintro e w1 ⟨rfl, rfl⟩
  go_wp2_with fail
  refine (qa.out _).mono ?_
  rintro e w1 ⟨rfl, hb1⟩
  have HB1 := Lib.hid (ext_trans HB.out hb1)
  have HA1 := Lib.hid (HA.out.ext hb1)
  clear hb1 qa
  by_cases hc : tripC w h sl lv (inB limit 0 200) = 0
  · have hE := Lib.hid (tripEdges_ok hc)
    obtain ⟨hlb, -⟩ := tripC_ok hc
    obtain ⟨hv, hll, hsm⟩ := levB_ok hlb
    have qt := Lib.hid (sTrips_calls W.heap.size 0 w h _ sl lv _ limit hv hsm hll w1 (HQ.out.ext HB1.out) HA1.out (HT.out.ext HB1.out))
    rw [hc]
    clear hc hv hll hsm hlb
    go_wp2_with fail
    refine qt.out.mono ?_
    rintro e w2 ⟨v2, rfl, hO2, hb2⟩
    have HB2 := Lib.hid (ext_trans HB1.out hb2)
    have HO2 := Lib.hid (hO2.more HB1.out.size)
    clear hO2 hb2
    go_wp2_with fail
    go_ret2
    rw [hE.out]
    exact RetRow2.mk rfl HO2.out HB2.out
  · have hE := Lib.hid (tripEdges_no hc)
    have hcb : (tripC w h sl lv (inB limit 0 200) == 0) = false := by simpa using hc
    have hcb2 : (tripC w h sl lv (inB limit 0 200) != 0) = true := by simpa using hc
    generalize tripC w h sl lv (inB limit 0 200) = C at *
    have hO0 := Lib.hid (Own.empty (α := Pair) (c := Pair.c) (sz := 2) (E := 98) w1 W.heap.size w1.heap.size rfl HB1.out.size)
    have HB2 := Lib.hid (HB1.out.alloc HB1.out.size (.cells #[] 98))
    clear hc
    go_wp2_with fail
    go_ret2
    rw [hE.out]
    exact RetRow2.mk rfl hO0.out HB2.out
set_option maxHeartbeats 1000000 in
theorem implTripEdges_calls (w h : Int) (z : Value) (sl : List Slab) (lv : List Int) (u : Value) (limit : Int) (W : World) (hq : SqIn W w h z sl) (ht : Sl W W.heap.size i64c 1 u lv) :
    Calls Try.prog 31 #[sqv w h z, u, .int .i64 limit] W (RetRow2 W 98 Pair.c 2 (tripEdges w h sl lv limit)) := by
  obtain ⟨A, cap, hz, -, -, -⟩ := hq.sl.slab
  subst hz
  obtain ⟨A2, cap2, rfl, -, -, -⟩ := ht.i64
  have HQ := Lib.hid hq
  have HT := Lib.hid ht
  have HB := Lib.hid ((Below.refl W.heap.size W).alloc (Nat.le_refl _) (.cells #[.int .i8 w, .int .i8 h, .slice A sl.length cap] 34))
  have K0 := Lib.hid (Bk.new W 34 #[.int .i8 w, .int .i8 h, .slice A sl.length cap] W.heap.size rfl)
  have qa := Lib.hid (tripCode_calls w h _ sl lv _ limit _ (hq.ext HB.out) (ht.ext HB.out))
  have k0 := K0.out.cell 0 _ rfl
  have k1 := K0.out.cell 1 _ rfl
  have k2 := K0.out.cell 2 _ rfl
  clear hq ht
  unfold sqv at *
  go_enter Try.func31, Try.ntmps31
  go_wp2_with fail
  refine qa.out.mono ?_
  rintro e w1 ⟨rfl, hb1⟩
  have HB1 := Lib.hid (ext_trans HB.out hb1)
  have K01 := Lib.hid (K0.out.ext hb1)
  clear hb1 qa k0 k1 k2
  by_cases hc : tripC w h sl lv (inB limit 0 200) = 0
  · have hE := Lib.hid (tripEdges_ok hc)
    obtain ⟨hlb, -⟩ := tripC_ok hc
    obtain ⟨hv, hll, hsm⟩ := levB_ok hlb
    have qp := Lib.hid (pairs_calls w h _ sl (sqOk_small hv) (sqOk_len hv) w1 (HQ.out.ext HB1.out))
    have hpl := Lib.hid (prsL_len60 (sqOk_len hv))
    have HIX := Lib.hid (prsL_idx hll)
    have HSM := Lib.hid hsm
    have k0 := K01.out.cell 0 _ rfl
    have k1 := K01.out.cell 1 _ rfl
    have k2 := K01.out.cell 2 _ rfl
    unfold sqv at qp
    rw [hc]
    clear hc hv hll hsm hlb
    generalize prsL sl = ps at *
    go_wp2_with fail
    refine qp.out.mono ?_
    rintro e w2 ⟨v2, rfl, hO2, hb2⟩
    have HB2 := Lib.hid (ext_trans HB1.out hb2)
    have qt := Lib.hid (trips_calls ps v2 lv _ limit w2 (hO2.sl Pair.c_len) (by have := hpl.out; omega) (HT.out.ext HB2.out) HIX.out HSM.out)
    clear hO2 hb2 k0 k1 k2
    go_wp2_with fail
    refine qt.out.mono ?_
    rintro e w3 ⟨v3, rfl, hO3, hb3⟩
    have HB3 := Lib.hid (ext_trans HB2.out hb3)
    have HO3 := Lib.hid (hO3.more HB2.out.size)
    clear hO3 hb3
    go_wp2_with fail
    go_ret2
    rw [hE.out]
    exact RetRow2.mk rfl HO3.out HB3.out
  · have hE := Lib.hid (tripEdges_no hc)
    have hcb : (tripC w h sl lv (inB limit 0 200) == 0) = false := by simpa using hc
    have hcb2 : (tripC w h sl lv (inB limit 0 200) != 0) = true := by simpa using hc
    generalize tripC w h sl lv (inB limit 0 200) = C at *
    clear hc
    go_wp2_with fail
    go_ret2
    rw [hE.out]
    exact RetRow2.mk rfl (Own.nil_ _ _ _ _ _) HB1.out
end Go.Proofs.Ytpjdgpcdcihogaa
