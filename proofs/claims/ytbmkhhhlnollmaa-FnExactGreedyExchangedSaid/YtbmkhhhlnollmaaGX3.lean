/-
GreedyExchanged of the program. Conditions: slices can be read. PRINTED by wip/mk_gx3.py.
-/
import Derived.Test.YtbmkhhhlnollmaaGX2
set_option linter.unusedVariables false
set_option linter.unusedSimpArgs false
set_option maxRecDepth 100000
namespace Go.Proofs.Ytbmkhhhlnollmaa
open Go.RowKit
theorem Bk.grown' {w w' : World} {g : Nat} {T : TypeId} {cs : Array Value} {vb : Option Nat} (h : Bk w g T cs) (hG : w.grownBy w' vb) (hne : vb = some g → False) : Bk w' g T cs := (hG.block g h.lt (fun e => hne e.symm)).trans h
theorem gx1Fn (m : Int) (b1 g0 : Nat) (w : World) (k1 : Bk w b1 2 #[.int .i64 m]) (hne : b1 ≠ g0) (x : Pair) :
    TellsR Try.prog 106 #[.pointer (some ⟨b1, 0, none⟩)] Pair.v (hasE m) w (some g0) x := by
  intro W hW
  have K1 := Lib.hid ((k1.grown hW hne).alloc (.cells #[.int .i64 x.a, .int .i64 x.b] 120))
  have c1 := K1.out.cell 0 _ rfl
  have HB := Lib.hid ((Below.refl W.heap.size W).alloc (Nat.le_refl _) (.cells #[.int .i64 x.a, .int .i64 x.b] 120))
  have hE := Lib.hid (show hasE m x = ((x.a == m) || (x.b == m)) from rfl)
  clear hW k1 hne
  unfold Pair.v
  by_cases e1 : x.a = m
  · have r1 : (x.a == m) = true := by simp [e1]
    have hE2 := Lib.hid (show hasE m x = true from by rw [hE.out, r1]; rfl)
    clear e1
    go_enter Try.func106, Try.ntmps106
    go_wp2_with fail
    go_ret
    exact ⟨ret_bool hE2.out.symm, HB.out⟩
  · have r1 : (x.a == m) = false := by simpa using e1
    clear e1
    by_cases e2 : x.b = m
    · have r2 : (x.b == m) = true := by simp [e2]
      have hE2 := Lib.hid (show hasE m x = true from by rw [hE.out, r1, r2]; rfl)
      clear e2
      go_enter Try.func106, Try.ntmps106
      go_wp2_with fail
      go_ret
      exact ⟨ret_bool hE2.out.symm, HB.out⟩
    · have r2 : (x.b == m) = false := by simpa using e2
      have hE2 := Lib.hid (show hasE m x = false from by rw [hE.out, r1, r2]; rfl)
      clear e2
      go_enter Try.func106, Try.ntmps106
      go_wp2_with fail
      go_ret
      exact ⟨ret_bool hE2.out.symm, HB.out⟩
set_option maxHeartbeats 4000000 in
theorem implGreedy_calls (w h : Int) (z : Value) (sl : List Slab) (lv : List Int) (u : Value) (limit : Int) (W : World) (hq : SqIn W w h z sl) (ht : Sl W W.heap.size i64c 1 u lv) :
    Calls Try.prog 56 #[sqv w h z, u, .int .i64 limit] W (RetRow2 W 2 i64c 1 (greedy w h sl lv limit)) := by
  obtain ⟨A, cap, hz, -, -, -⟩ := hq.sl.slab
  subst hz
  obtain ⟨A2, cap2, rfl, -, -, -⟩ := ht.i64
  have eg := enters_of Try.func106 (by kernel_rfl) rfl
  have HQ := Lib.hid hq
  have HT := Lib.hid ht
  have HB := Lib.hid ((Below.refl W.heap.size W).alloc (Nat.le_refl _) (.cells #[.int .i8 w, .int .i8 h, .slice A sl.length cap] 34))
  have K0 := Lib.hid (Bk.new W 34 #[.int .i8 w, .int .i8 h, .slice A sl.length cap] W.heap.size rfl)
  have qa := Lib.hid (tripCode_calls w h _ sl lv _ limit _ (hq.ext HB.out) (ht.ext HB.out))
  have k0 := K0.out.cell 0 _ rfl
  have k1 := K0.out.cell 1 _ rfl
  have k2 := K0.out.cell 2 _ rfl
  clear hq ht
  unfold sqv at *
  go_enter Try.func56, Try.ntmps56
  go_wp2_with fail
  refine qa.out.mono ?_
  rintro e w1 ⟨rfl, hb1⟩
  have HB1 := Lib.hid (ext_trans HB.out hb1)
  have K01 := Lib.hid (K0.out.ext hb1)
  clear hb1 qa k0 k1 k2
  by_cases hc : tripC w h sl lv (inB limit 0 200) = 0
  · have hE := Lib.hid (greedy_ok hc)
    obtain ⟨hlb, -⟩ := tripC_ok hc
    obtain ⟨hv, hll, hsm⟩ := levB_ok hlb
    have qp := Lib.hid (pairs_calls w h _ sl (sqOk_small hv) (sqOk_len hv) w1 (HQ.out.ext HB1.out))
    have hpl0 := Lib.hid (prsL_len60 (sqOk_len hv))
    have hpl := Lib.hid (Nat.le_trans (tripsL_len lv limit (prsL sl)) (prsL_len60 (sqOk_len hv)))
    have HIP := Lib.hid (prsL_idx hll)
    have HIX := Lib.hid (trips_idx (sl := sl) (lv := lv) (limit := limit))
    have HSM := Lib.hid hsm
    have hn60 := sqOk_len hv
    have hmk : ∀ W : World, (Instr.makeSlice 132 (.int .i64 (sl.length : Int)) (.int .i64 (sl.length : Int))).run Try.prog W = .ok (.slice (some ⟨W.heap.size, 0, none⟩) sl.length sl.length) (W.alloc (.cells (madeCells (Value.int .i64 0).cells (sl.length * 1)) 3)) := fun W => run_makeOf (P := Try.prog) 132 3 (.int .i64 0) 1 8 Try.underlying132 (by kernel_rfl) sl.length (by omega) (by omega) W
    have hmk := Lib.hid hmk
    have hn60 := Lib.hid hn60
    have k0 := K01.out.cell 0 _ rfl
    have k1 := K01.out.cell 1 _ rfl
    have k2 := K01.out.cell 2 _ rfl
    unfold sqv at qp
    rw [hc]
    clear hc hv hll hsm hlb
    go_wp2_with fail
    refine qp.out.mono ?_
    rintro e w2 ⟨v2, rfl, hO2, hb2⟩
    have HB2 := Lib.hid (ext_trans HB1.out hb2)
    have K02 := Lib.hid (K01.out.ext hb2)
    have qt := Lib.hid (trips_calls (prsL sl) v2 lv _ limit w2 (hO2.sl Pair.c_len) (by have := hpl0.out; omega) (HT.out.ext HB2.out) HIP.out HSM.out)
    clear hO2 hb2 k0 k1 k2 qp
    generalize tripsL lv limit (prsL sl) = ts at *
    go_wp2_with fail
    refine qt.out.mono ?_
    rintro e w3 ⟨v3, rfl, hO3, hb3⟩
    have HB3 := Lib.hid ((ext_trans HB2.out hb3).alloc (ext_trans HB2.out hb3).size (.cells #[] 2))
    have K03 := Lib.hid ((K02.out.ext hb3).alloc (.cells #[] 2))
    have HP3 := Lib.hid ((hO3.more (show W.heap.size + 1 ≤ w2.heap.size from K02.out.lt)).alloc (.cells #[] 2))
    have HU3 := Lib.hid ((Own.empty (α := Int) (c := i64c) (sz := 1) (E := 2) w3 w3.heap.size w3.heap.size rfl (Nat.le_refl _)).more (show W.heap.size + 1 ≤ w3.heap.size from (K02.out.ext hb3).lt))
    have HD3 := Lib.hid (show Dis (.slice (some ⟨w3.heap.size, 0, none⟩) 0 0) v3 from fun j h1 h2 => by have := hO3.lt j h2; simp [Value.ownBlock] at h1; omega)
    have hR0 := Lib.hid (show ts = remL ts (gr ts sl.length 0) from (remL_nil ts).symm)
    rw [hR0.out] at HP3
    clear hO3 hb3 qt
    go_wp2_with fail
    go_loopg [9, 10, 11, 13, 14, 35, 36, 37] ts.length (fun gg r9 r10 _ _ _ _ _ _ wr => ∃ kk : Nat, kk ≤ ts.length ∧ ts.length - kk ≤ gg ∧ Own wr (W.heap.size + 1) 120 Pair.c 2 r9 (remL ts (gr ts sl.length kk)) ∧ Own wr (W.heap.size + 1) 2 i64c 1 r10 (gr ts sl.length kk) ∧ Dis r10 r9 ∧ Bk wr W.heap.size 34 #[.int .i8 w, .int .i8 h, .slice A sl.length cap] ∧ Below W.heap.size W wr)
    case atStart => exact ⟨0, by omega, by omega, HP3.out, HU3.out, HD3.out, K03.out, HB3.out⟩
    case round =>
      obtain ⟨wo, rfl⟩ : ∃ wo : World, wo = wr := ⟨_, rfl⟩
      obtain ⟨kk, hkk, hgg, hP, hO, hD, hK, hb⟩ := hrel
      have HO := Lib.hid hO
      have HP := Lib.hid hP
      have HD := Lib.hid hD
      have HK := Lib.hid hK
      have HBr := Lib.hid hb
      obtain ⟨A5, cap5, rfl, -, -, -⟩ := (hO.sl i64c_len).i64
      have hle := Lib.hid (Nat.le_trans (gr_len (ts := ts) (n := sl.length) kk) (show kk ≤ 3600 from by have := hpl.out; omega))
      by_cases hrem : remL ts (gr ts sl.length kk) = []
      · have hfin := Lib.hid (gr_end (fun p hp => (HIX.out p hp).1) hkk hrem)
        obtain ⟨A9, cap9, rfl, -, -, -⟩ := (hP.sl Pair.c_len).pair
        clear hO hP hD hK hb HP HD
        rw [hrem]
        clear hrem
        go_wp2_with fail
        go_ret2
        rw [hE.out]
        exact RetRow2.mk rfl (by rw [← hfin.out]; exact HO.out.more (by omega)) HBr.out
      · have hnx := Lib.hid (gr_next (n := sl.length) (k := kk) (fun p hp => (HIX.out p hp).1) hrem)
        have hpos : 0 < (remL ts (gr ts sl.length kk)).length := List.length_pos_iff.2 hrem
        have hsn := Lib.hid (show remL ts (gr ts sl.length (kk + 1)) = (remL ts (gr ts sl.length kk)).filter fun p => !hasE (bestE (remL ts (gr ts sl.length kk)) sl.length) p from by rw [hnx.out.1, remL_snoc])
        have hix := Lib.hid (show ∀ p ∈ remL ts (gr ts sl.length kk), idxP sl.length p ∧ p.a ≠ p.b from fun p hp => HIX.out p (remL_mem hp))
        have hrl := Lib.hid (show (remL ts (gr ts sl.length kk)).length ≤ 3600 from Nat.le_trans (List.length_filter_le _ _) hpl.out)
        obtain ⟨g9, cap9, rfl, hg9, hg9l, -, -, hce9, -⟩ := hP.room Pair.c_len hpos
        generalize remL ts (gr ts sl.length kk) = rem at *
        have hn0 : 0 < sl.length := by
          have h1 := (hix.out rem[0] (List.getElem_mem hpos)).1
          unfold idxP at h1
          omega
        have hbi := Lib.hid (best_index rem sl.length hn0 (fun p hp => (hix.out p hp).2))
        generalize bestE rem sl.length = best at *
        generalize hus : gr ts sl.length kk = us at *
        have HUS := Lib.hid hus
        have HC9 := Lib.hid hce9
        have k2 := hK.cell 2 _ rfl
        have hg9 := Lib.hid hg9
        have hg9l := Lib.hid hg9l
        have hd : decide (0 < rem.length) = true := decide_eq_true hpos
        have hmk := hmk.out
        have hOC := Lib.hid (show Own (wo.alloc (.cells (madeCells #[Value.int .i64 0] sl.length) 3)) wo.heap.size 3 i64c 1 (.slice (some ⟨wo.heap.size, 0, none⟩) sl.length sl.length) (List.replicate sl.length 0) from by
          have := Own.made (c := i64c) (E := 3) (B := wo.heap.size) i64c_len (by omega) wo (Nat.le_refl _) (0 : Int) sl.length (by omega)
          rwa [Nat.mul_one] at this)
        rw [← cA_start] at hOC
        have HBC := Lib.hid ((Below.refl wo.heap.size wo).alloc (Nat.le_refl _) (.cells (madeCells #[Value.int .i64 0] sl.length) 3))
        have hCs := Lib.hid (show wo.heap.size < (wo.alloc (.cells (madeCells #[Value.int .i64 0] sl.length) 3)).heap.size from by simp)
        clear hus hrem hce9 hO hP hD hK hb hpos
        go_wp2_with fail
        go_loopw [13, 37] (fun _ c wr => ∃ j : Nat, j ≤ rem.length ∧ c = .int .i64 (j : Int) ∧ Own wr wo.heap.size 3 i64c 1 (.slice (some ⟨wo.heap.size, 0, none⟩) sl.length sl.length) (cA (rem.take j) sl.length) ∧ Below wo.heap.size wo wr ∧ wo.heap.size < wr.heap.size) (fun _ c _ => rem.length - (intOf c).toNat)
        case atStart => exact ⟨0, by omega, rfl, by simpa using hOC.out, HBC.out, hCs.out⟩
        case round =>
          obtain ⟨j, hj, rfl, hOc, hb, hsz⟩ := hrel
          by_cases hlt : j < rem.length
          · have c0 : wr.cell? ⟨g9, j * 2, none⟩ = some (.int .i64 rem[j].a) := by
              have := HC9.out j rem[j] (List.getElem?_eq_getElem hlt) 0 _ rfl
              exact (hb.cell (p := ⟨g9, _, none⟩) hg9l.out).trans (by simpa using this)
            have c1 : wr.cell? ⟨g9, j * 2 + 1, none⟩ = some (.int .i64 rem[j].b) := by
              have := HC9.out j rem[j] (List.getElem?_eq_getElem hlt) 1 _ rfl
              exact (hb.cell (p := ⟨g9, _, none⟩) hg9l.out).trans (by simpa using this)
            have hx := (hix.out rem[j] (List.getElem_mem hlt)).1
            have htk := Lib.hid (show rem.take (j + 1) = rem.take j ++ [rem[j]] from List.take_succ_eq_append_getElem hlt)
            generalize rem[j] = p at *
            obtain ⟨hx1, hx2, hx3, hx4⟩ := hx
            obtain ⟨a, ha⟩ : ∃ a : Nat, p.a = (a : Int) := ⟨p.a.toNat, by omega⟩
            obtain ⟨b, hb2⟩ : ∃ b : Nat, p.b = (b : Int) := ⟨p.b.toNat, by omega⟩
            have han : a < sl.length := by omega
            have hbn : b < sl.length := by omega
            obtain ⟨x, hx⟩ : ∃ x, (cA (rem.take j) sl.length)[a]? = some x := ⟨_, cA_get _ _ _ han⟩
            obtain ⟨y, hy⟩ : ∃ y, (cB (rem.take j) p sl.length)[b]? = some y := ⟨_, cB_get _ _ _ _ hbn⟩
            have hxs := Lib.hid (show 0 ≤ x ∧ x ≤ 7200 from by
              rw [cA_get _ _ _ han] at hx
              injection hx with hx
              have t1 := List.countP_le_length (p := fun (p : Pair) => p.a == (a : Int)) (l := rem.take j)
              have t2 := List.countP_le_length (p := fun (p : Pair) => p.b == (a : Int)) (l := rem.take j)
              rw [List.length_take] at t1 t2
              have := hrl.out
              omega)
            have hys := Lib.hid (show 0 ≤ y ∧ y ≤ 7201 from by
              rw [cB_get _ _ _ _ hbn] at hy
              injection hy with hy
              have t1 := List.countP_le_length (p := fun (p : Pair) => p.a == (b : Int)) (l := rem.take j ++ [p])
              have t2 := List.countP_le_length (p := fun (p : Pair) => p.b == (b : Int)) (l := rem.take j)
              rw [List.length_append, List.length_take] at t1
              rw [List.length_take] at t2
              simp only [List.length_cons, List.length_nil] at t1
              have := hrl.out
              omega)
            have hA := Lib.hid (cA_stepA (rem.take j) p sl.length a ha han x hx)
            have hB := Lib.hid (cB_stepB (rem.take j) p sl.length b hb2 hbn y hy)
            have hAl := Lib.hid (cA_len (rem.take j) sl.length)
            have hBl := Lib.hid (cB_len (rem.take j) p sl.length)
            rw [← htk.out] at hB
            generalize cA (rem.take j) sl.length = xs1 at *
            generalize cB (rem.take j) p sl.length = xs2 at *
            have KV := Lib.hid (Bk.new wr 120 #[.int .i64 p.a, .int .i64 p.b] wr.heap.size rfl)
            have HOa := Lib.hid (hOc.alloc (.cells #[.int .i64 p.a, .int .i64 p.b] 120))
            have HBa := Lib.hid (hb.alloc hb.size (.cells #[.int .i64 p.a, .int .i64 p.b] 120))
            have hxg := Lib.hid hx
            have hyg := Lib.hid hy
            have hsz9 := Lib.hid hsz
            rw [ha, hb2] at KV HOa HBa
            rw [ha] at c0
            rw [hb2] at c1
            clear hx hy hOc hb htk ha hb2 hx1 hx2 hx3 hx4
            have hjl : (j : Int) < (rem.length : Int) := by omega
            go_upto_region 10 with (fail)
            generalize hwa : wr.alloc (.cells #[.int .i64 (a : Int), .int .i64 (b : Int)] 120) = wa at *
            have hwas := Lib.hid (show wa.heap.size = wr.heap.size + 1 from by rw [← hwa]; simp)
            clear hwa
            go_cut [] (fun wx => Own wx wo.heap.size 3 i64c 1 (.slice (some ⟨wo.heap.size, 0, none⟩) sl.length sl.length) xs2 ∧ Bk wx wr.heap.size 120 #[.int .i64 (a : Int), .int .i64 (b : Int)] ∧ Below wo.heap.size wo wx ∧ wr.heap.size < wx.heap.size)
            case first =>
              obtain ⟨hBg, hgl, hce, hfz⟩ := HOa.out.at_ i64c_len (by have := hAl.out; omega)
              have q0 : wa.cell? ⟨wo.heap.size, a, none⟩ = some (.int .i64 x) := by simpa using hce a x hxg.out 0 _ rfl
              have v0 := KV.out.cell 0 _ rfl
              have v1 := KV.out.cell 1 _ rfl
              obtain ⟨hO2, hG2⟩ := HOa.out.put i64c_len a (by have := hAl.out; omega) (x + 1)
              rw [Nat.mul_one] at hO2 hG2
              rw [hA.out] at hO2
              have hO2 := Lib.hid hO2
              have hK2 := Lib.hid (KV.out.grown hG2 (by have := hsz9.out; omega))
              have hB2 := Lib.hid (HBa.out.grown hG2 HBa.out.size (fun j hj => by injection hj with hj; omega))
              have hs2 := Lib.hid (show wr.heap.size < _ from hK2.out.lt)
              have hx0 := hxs.out.1
              have hx7 := hxs.out.2
              clear hce hG2 c0 c1
              go_wp2_with fail
              go_meet
              exact ⟨hO2.out, hK2.out, hB2.out, hs2.out⟩
            obtain ⟨hO, hK, hb, hs⟩ := hcut
            have HO5 := Lib.hid hO
            have HK5 := Lib.hid hK
            have HB5 := Lib.hid hb
            have HS5 := Lib.hid hs
            clear hO hK hb hs HOa HBa KV hwas c0 c1
            obtain ⟨hBg, hgl, hce, hfz⟩ := HO5.out.at_ i64c_len (by have := hBl.out; omega)
            have q0 : wc.cell? ⟨wo.heap.size, b, none⟩ = some (.int .i64 y) := by simpa using hce b y hyg.out 0 _ rfl
            have v0 := HK5.out.cell 0 _ rfl
            have v1 := HK5.out.cell 1 _ rfl
            obtain ⟨hO2, hG2⟩ := HO5.out.put i64c_len b (by have := hBl.out; omega) (y + 1)
            rw [Nat.mul_one] at hO2 hG2
            rw [hB.out] at hO2
            have hO2 := Lib.hid hO2
            have hB2 := Lib.hid (HB5.out.grown hG2 HB5.out.size (fun j hj => by injection hj with hj; omega))
            have hs2 := Lib.hid (Nat.lt_of_lt_of_le (Nat.lt_trans hsz9.out HS5.out) hG2.size)
            have hy0 := hys.out.1
            have hy7 := hys.out.2
            have hr36 := hrl.out
            clear hce hG2
            go_wp2_with fail
            go_roundw
            case rel => exact ⟨j + 1, by omega, by go_num, hO2.out, hB2.out, hs2.out⟩
            case measure => first | (simp [intOf]; done) | (simp [intOf]; omega)
          · obtain rfl : j = rem.length := by omega
            rw [List.take_length] at hOc
            have hcl := cA_len rem sl.length
            have qm := Lib.hid (maxInt_calls (cA rem sl.length) _ wr (hOc.sl i64c_len) (by omega))
            have qi := Lib.hid (indexInt_calls (cA rem sl.length) _ (maxI (cA rem sl.length)) wr (hOc.sl i64c_len))
            rw [hbi.out] at qi
            have HBi := Lib.hid hb
            have hs9 := Lib.hid hsz
            generalize maxI (cA rem sl.length) = mx at *
            have HPi := Lib.hid (HP.out.ext HBi.out)
            have HOi := Lib.hid (HO.out.ext HBi.out)
            have HKi := Lib.hid (HK.out.ext HBi.out)
            have HBi2 := Lib.hid (ext_trans HBr.out HBi.out)
            clear hOc hcl hb
            go_wp2_with fail
            refine qm.out.mono ?_
            rintro e w4 ⟨rfl, rfl⟩
            go_wp2_with fail
            refine qi.out.mono ?_
            rintro e w4 ⟨rfl, rfl⟩
            have KM := Lib.hid (Bk.new wr 2 #[.int .i64 best] wr.heap.size rfl)
            have km := KM.out.cell 0 _ rfl
            have HPa := Lib.hid (HPi.out.alloc (.cells #[.int .i64 best] 2))
            have HOa := Lib.hid (HOi.out.alloc (.cells #[.int .i64 best] 2))
            have HKa := Lib.hid (HKi.out.alloc (.cells #[.int .i64 best] 2))
            have HBa := Lib.hid (HBi2.out.alloc HBi2.out.size (.cells #[.int .i64 best] 2))
            have hwas := Lib.hid (show (wr.alloc (.cells #[.int .i64 best] 2)).heap.size = wr.heap.size + 1 from by simp)
            go_upto_region 14 with (fail)
            generalize wr.alloc (.cells #[.int .i64 best] 2) = wa at *
            have hba := Lib.hid (HBa.out.alloc HBa.out.size (.cells #[.int .i64 best] 2))
            have HPb := Lib.hid (HPa.out.alloc (.cells #[.int .i64 best] 2))
            have HKb := Lib.hid (HKa.out.alloc (.cells #[.int .i64 best] 2))
            have KMb := Lib.hid (KM.out.alloc (.cells #[.int .i64 best] 2))
            go_wp2_with (at_builtin; refine push_i64at rfl _ _ rfl (W.heap.size + 1) us _ rfl (HOa.out.alloc _) ⟨_, 0, none⟩ best rfl ((Bk.new _ _ _ _ rfl).cell 0 _ rfl) (by have := hle.out; omega) (Nat.le_trans HKa.out.lt (by simp)) ?_)
            intro v4 w4 hO4 hG4 hat
            have hb4 := Lib.hid (hba.out.grown hG4 hba.out.size (fun j hj => by have := HOa.out.base j hj; omega))
            have HK4 := Lib.hid (HKb.out.grown' hG4 (fun hj => by have := HOa.out.base _ hj; omega))
            have KM4 := Lib.hid (KMb.out.grown' hG4 (fun hj => by have := HOi.out.lt _ hj; omega))
            have HP4 := Lib.hid (HPb.out.keep (fun j hj => hG4.block j (HPb.out.lt j hj) (fun he => HD.out j he.symm hj)))
            have HD4 := Lib.hid (show Dis v4 (.slice (some ⟨g9, 0, none⟩) rem.length cap9) from fun j h1 h2 => by
              rcases hat with he | he
              · exact HD.out j (he ▸ h1) h2
              · rw [he] at h1
                injection h1 with h1
                have := HPb.out.lt j h2
                try simp at h1
                simp at this
                omega)
            rw [← hnx.out.1] at hO4
            have HO4 := Lib.hid hO4
            clear hG4 hat hO4 km
            have qd := Lib.hid (deleteFuncPair rem g9 cap9 (W.heap.size + 1) w4 HP4.out (HK4.out.lt) 106 #[.pointer (some ⟨wr.heap.size, 0, none⟩)] (hasE best) eg (fun x hx => gx1Fn best wr.heap.size g9 w4 KM4.out (by have := HPi.out.lt g9 rfl; omega) x))
            go_wp2_with fail
            refine qd.out.mono ?_
            rintro e w5 ⟨rfl, hO5, hG5⟩
            rw [← hsn.out] at hO5
            have HP5 := Lib.hid hO5
            have HO5 := Lib.hid (HO4.out.keep (fun j hj => hG5.block j (HO4.out.lt j hj) (fun he => HD4.out j hj he.symm)))
            have HK5 := Lib.hid (HK4.out.grown hG5 (by have := hg9.out; omega))
            have HB5 := Lib.hid (hb4.out.grown hG5 hb4.out.size (fun j hj => by injection hj with hj; have := hg9.out; omega))
            have HD5 := Lib.hid (show Dis v4 (.slice (some ⟨g9, 0, none⟩) (rem.filter fun p => !hasE best p).length cap9) from fun j h1 h2 => HD4.out j h1 h2)
            clear hO5 hG5
            have hk1 := hnx.out.2
            go_wp2_with fail
            go_roundg (ts.length - (kk + 1))
            case rel => exact ⟨kk + 1, by omega, by omega, by rw [hsn.out]; rw [hsn.out] at HP5; exact HP5.out, HO5.out, HD5.out, HK5.out, HB5.out⟩
            case measure => omega
  · have hE := Lib.hid (greedy_no hc)
    have hcb : (tripC w h sl lv (inB limit 0 200) == 0) = false := by simpa using hc
    have hcb2 : (tripC w h sl lv (inB limit 0 200) != 0) = true := by simpa using hc
    generalize tripC w h sl lv (inB limit 0 200) = C at *
    clear hc
    go_wp2_with fail
    go_ret2
    rw [hE.out]
    exact RetRow2.mk rfl (Own.nil_ _ _ _ _ _) HB1.out
end Go.Proofs.Ytbmkhhhlnollmaa
