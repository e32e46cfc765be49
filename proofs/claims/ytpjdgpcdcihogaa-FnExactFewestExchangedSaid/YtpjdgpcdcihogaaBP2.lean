/-
Pairs of slabs beside each other, of the reference. Conditions: the square is valid; slices can be read.
-/
import Derived.Test.YtpjdgpcdcihogaaBS3
set_option linter.unusedVariables false
set_option linter.unusedSimpArgs false
set_option maxRecDepth 100000
namespace Go.Proofs.Ytpjdgpcdcihogaa
open Go.RowKit
theorem sok_calls (b o : Nat) (w h : Int) (z : Value) (sl : List Slab) (W : World) (hq : SqIn W w h z sl) (ha : Sq.at_ W b o w h z) :
    Calls Try.prog 166 #[.pointer (some ⟨b, o, none⟩)] W fun e w' => e = .returned (.bool (sqOk w h sl)) ∧ Below W.heap.size W w' := by
  have ql := Lib.hid (lay_calls b o w h hq.w0 hq.w1 hq.h0 hq.h1 sl hq.ok z W hq.sl ha)
  clear hq ha
  generalize sqOk w h sl = E at *
  go_enter Try.func166, Try.ntmps166
  go_wp2_with fail
  refine ql.out.mono ?_
  rintro e wa ⟨g, rfl, hgl, hgr, hb1⟩
  have HB5 := Lib.hid (hb1.alloc hb1.size (.cells Try.zeroCells68 68))
  have K5 := Lib.hid (Bk.new wa 68 Try.zeroCells68 wa.heap.size rfl)
  have hs5 := Lib.hid (show W.heap.size ≤ wa.heap.size from hb1.size)
  have hglH := Lib.hid hgl
  clear hb1 hgl hgr
  go_wp2_with (refine wpList_store_bk rfl 68 (.tmp 3) (.tmp 8) rfl _ (gcells g) rfl rfl _ _ K5.out (by rw [zsize, gcells_size, hglH.out]) (ginfo _ hglH.out) (gcells_one _) ?_)
  intro w6 k6 G6
  have HB6 := Lib.hid (HB5.out.grown G6 HB5.out.size (fun j hj => by injection hj with hj; have := hs5.out; omega))
  clear k6 G6
  go_wp2_with fail
  go_ret
  exact ⟨rfl, HB6.out⟩
set_option maxHeartbeats 2000000 in
theorem sPairs_calls (b o : Nat) (w h : Int) (z : Value) (sl : List Slab) (hv : sqOk w h sl = true) (W : World) (hq : SqIn W w h z sl) (ha : Sq.at_ W b o w h z) :
    Calls Try.prog 110 #[.pointer (some ⟨b, o, none⟩)] W (RetRow W 98 Pair.c 2 (prsL sl)) := by
  have hn60 : sl.length ≤ 60 := by simp only [sqOk, Bool.and_eq_true, decide_eq_true_eq] at hv; exact hv.1.2
  obtain ⟨A, cap, hz, hl, hm, -⟩ := hq.sl.slab
  subst hz
  have HQ := Lib.hid hq
  have HA := Lib.hid ha
  have HV := Lib.hid hv
  have HB := Lib.hid ((Below.refl W.heap.size W).alloc (Nat.le_refl _) (.cells #[] 98))
  have hO0 := Lib.hid (Own.empty (α := Pair) (c := Pair.c) (sz := 2) (E := 98) W W.heap.size W.heap.size rfl (Nat.le_refl _))
  clear hq ha hv
  go_enter Try.func110, Try.ntmps110
  go_wp2_with fail
  generalize W.alloc (.cells #[] 98) = W1 at *
  go_loopw [3, 4, 5, 6] (fun r c _ _ wr => ∃ k : Nat, k ≤ sl.length ∧ c = .int .i64 (k : Int) ∧ Own wr W.heap.size 98 Pair.c 2 r (prsN sl k) ∧ Below W.heap.size W wr) (fun _ c _ _ _ => sl.length - (intOf c).toNat)
  case atStart => exact ⟨0, by omega, rfl, hO0.out, HB.out⟩
  case round =>
    obtain ⟨k, hk, rfl, hO, hb⟩ := hrel
    obtain ⟨wo, rfl⟩ : ∃ wo : World, wo = wr := ⟨_, rfl⟩
    have HO := Lib.hid hO
    have HBo := Lib.hid hb
    have a2 := (HA.out.ext hb).c2
    have hbl := (HA.out.ext hb).lt
    clear hO hb
    by_cases hlt : k < sl.length
    · have hst := Lib.hid (prsN_succ sl k)
      have hlen := Lib.hid (prsN_len sl k)
      have qb := Lib.hid (sbeside_calls b o w h _ sl k hlt HV.out wo (HQ.out.ext HBo.out) (HA.out.ext HBo.out))
      have hbl2 := Lib.hid (besL_len sl k)
      have hm3 := Lib.hid (mul60 hk hn60)
      have hkd : decide ((k : Int) < (sl.length : Int)) = true := by rw [decide_eq_true_eq]; omega
      have hsz0 := Lib.hid HBo.out.size
      generalize besL sl k = bs at *
      generalize prsN sl k = ps at *
      go_wp2_with fail
      refine qb.out.mono ?_
      rintro e w2 ⟨v2, rfl, hO2, hb2⟩
      obtain ⟨A2, cap2, rfl, hl2, hm2, -⟩ := (hO2.sl i64c_len).i64
      have HO2 := Lib.hid hO2
      have HP2 := Lib.hid (HO.out.ext hb2)
      have HB2 := Lib.hid (ext_trans HBo.out hb2)
      clear hO2 hb2 a2 hbl
      go_wp2_with fail
      go_loopw [3, 6] (fun r c w3 => ∃ m : Nat, m ≤ bs.length ∧ c = .int .i64 (m : Int) ∧ Own w3 W.heap.size 98 Pair.c 2 r (ps ++ prsIn (k : Int) (bs.take m)) ∧ Own w3 wo.heap.size 2 i64c 1 (.slice A2 bs.length cap2) bs ∧ Dis r (.slice A2 bs.length cap2) ∧ Below W.heap.size W w3) (fun _ c _ => bs.length - (intOf c).toNat)
      case atStart => exact ⟨0, by omega, rfl, by simpa [prsIn] using HP2.out, HO2.out, fun j h1 h2 => by have := HO.out.lt j h1; have := HO2.out.base j h2; omega, HB2.out⟩
      case round =>
        obtain ⟨m, hm0, rfl, hO, hO2, hdis, hb⟩ := hrel
        have HP := Lib.hid hO
        have HS := Lib.hid hO2
        have HD := Lib.hid hdis
        have HBr := Lib.hid hb
        clear hO hO2 hdis hb
        by_cases hlt2 : m < bs.length
        · have hst2 := Lib.hid (prsIn_succ (k : Int) bs m hlt2)
          obtain ⟨A3, cap3, hv, _, _, hcell⟩ := (HS.out.sl i64c_len).i64
          obtain ⟨rfl, rfl⟩ : A2 = A3 ∧ cap2 = cap3 := by injection hv with e1 e2 e3; exact ⟨e1, e3⟩
          obtain ⟨b2, o2, rfl, hbb, c0⟩ := hcell m hlt2
          have hpl := Lib.hid (Nat.le_trans (prsIn_len (k : Int) (bs.take m)) (by rw [List.length_take]; exact Nat.min_le_right _ _))
          have hbl3 := Lib.hid (show bs.length ≤ 60 from by have := hbl2.out; omega)
          clear hcell hv
          generalize bs[m] = y at *
          by_cases hky : (k : Int) < y
          · have hkd2 : decide ((k : Int) < y) = true := decide_eq_true hky
            have hs2 := Lib.hid (show ps ++ prsIn (k : Int) (bs.take (m + 1)) = (ps ++ prsIn (k : Int) (bs.take m)) ++ [⟨(k : Int), y⟩] from by rw [hst2.out, if_pos hky, List.append_assoc])
            have hle := Lib.hid (show (ps ++ prsIn (k : Int) (bs.take m)).length ≤ 1000000 from by rw [List.length_append]; have := hpl.out; have := hlen.out; have := hm3.out; have := hbl3.out; omega)
            generalize ps ++ prsIn (k : Int) (bs.take m) = us at *
            clear hst2
            have hba := Lib.hid (HBr.out.alloc HBr.out.size (.cells #[.int .i64 (k : Int), .int .i64 y] 98))
            have HSa := Lib.hid (HS.out.alloc (.cells #[.int .i64 (k : Int), .int .i64 y] 98))
            go_wp2_with (at_builtin; refine push_pair rfl _ _ rfl W.heap.size us _ rfl (HP.out.alloc _) _ ⟨(k : Int), y⟩ 98 rfl (Bk.new _ _ _ _ rfl) (by have := hle.out; omega) (Nat.le_trans HBr.out.size (by simp)) ?_)
            intro v4 w4 hO4 hG4 hat
            have hb4 := Lib.hid (hba.out.grown hG4 hba.out.size (fun j hj => HP.out.base j hj))
            have HS4 := Lib.hid (HSa.out.keep (fun j hj => hG4.block j (HSa.out.lt j hj) (fun he => HD.out j he.symm hj)))
            have HD4 := Lib.hid (show Dis v4 (.slice (some ⟨b2, o2, none⟩) bs.length cap2) from fun j h1 h2 => by
              rcases hat with he | he
              · exact HD.out j (he ▸ h1) h2
              · rw [he] at h1
                injection h1 with h1
                have := HS.out.lt j h2
                try simp at h1
                omega)
            rw [← hs2.out] at hO4
            have hO4 := Lib.hid hO4
            clear hG4 hat
            go_wp2_with fail
            go_roundw
            case rel => exact ⟨m + 1, by omega, by go_num, hO4.out, HS4.out, HD4.out, hb4.out⟩
            case measure => first | (simp [intOf]; done) | (simp [intOf]; omega)
          · have hkd2 : decide ((k : Int) < y) = false := decide_eq_false hky
            have hs2 := Lib.hid (show prsIn (k : Int) (bs.take (m + 1)) = prsIn (k : Int) (bs.take m) from by rw [hst2.out, if_neg hky])
            clear hst2
            go_wp2_with fail
            go_roundw
            case rel => exact ⟨m + 1, by omega, by go_num, by rw [hs2.out]; exact HP.out, HS.out, HD.out, HBr.out⟩
            case measure => first | (simp [intOf]; done) | (simp [intOf]; omega)
        · obtain rfl : m = bs.length := by omega
          have hs2 := Lib.hid (show prsN sl (k + 1) = ps ++ prsIn (k : Int) (bs.take bs.length) from by rw [hst.out, List.take_length])
          rw [← hs2.out] at HP
          go_wp2_with fail
          go_roundw
          case rel => exact ⟨k + 1, by omega, by go_num, HP.out, HBr.out⟩
          case measure => first | (simp [intOf]; done) | (simp [intOf]; omega)
    · obtain rfl : k = sl.length := by omega
      have hkd : decide ((sl.length : Int) < (sl.length : Int)) = false := by simp
      go_wp2_with fail
      go_ret
      exact ⟨_, rfl, HO.out, HBo.out⟩
end Go.Proofs.Ytpjdgpcdcihogaa
