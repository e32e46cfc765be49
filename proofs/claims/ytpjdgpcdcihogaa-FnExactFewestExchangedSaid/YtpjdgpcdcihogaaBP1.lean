/-
Pairs of slabs beside each other, of the program; own rows of pairs. Conditions: numbers are small; slices can be read.
-/
import Derived.Test.YtpjdgpcdcihogaaBS2
set_option linter.unusedVariables false
set_option linter.unusedSimpArgs false
set_option maxRecDepth 100000
namespace Go.Proofs.Ytpjdgpcdcihogaa
open Go.RowKit
theorem push_pair {ops : Array Oper} {rest : List Oper} {o : Oper} {a : Act} {Q : Exit → Act → World → Prop} {W : World} (hgd : o.guard = none) (s x : Operand)
    (ho : o.op = .call { callee := .builtin .append, args := #[s, x], argTypes := #[54, 54] }) (B : Nat) (xs : List Pair) (v : Value) (hs : a.eval s = v)
    (hown : Own W B 98 Pair.c 2 v xs) (g0 : Nat) (p : Pair) (T : TypeId) (hx : a.eval x = .slice (some ⟨g0, 0, none⟩) 1 1) (hc : Bk W g0 T #[.int .i64 p.a, .int .i64 p.b]) (hn : xs.length ≤ 1000000) (hB : B ≤ W.heap.size)
    (h : ∀ v' w', Own w' B 98 Pair.c 2 v' (xs ++ [p]) → W.grownBy w' v.ownBlock → (v'.ownBlock = v.ownBlock ∨ v'.ownBlock = some W.heap.size) → wpList Try.prog ops Q rest (a.put o.dst v') w') :
    wpList Try.prog ops Q (o :: rest) a W := by
  obtain ⟨i, hi, hz⟩ := Option.map_eq_some_iff.1 (show (Try.prog.info? 98).map (fun i => (i.zero, i.size, i.bytes)) = some (some (.agg #[.int .i64 0, .int .i64 0]), 2, 16) from by kernel_rfl)
  simp only [Prod.mk.injEq] at hz
  obtain ⟨hz0, hz1, hz2⟩ := hz
  refine wpList_append_own_at W hgd s x 54 ho B 98 i (.agg #[.int .i64 0, .int .i64 0]) 2 16 Try.underlying54 hi hz0 hz1 hz2 rfl (by omega) v xs.length _ hs hown.out ⟨g0, 0, none⟩ 1 1 (Pair.c p) hx rfl ?_ ?_ (by unfold maxLen; omega) (by omega) hB ?_
  · intro j u hj
    match j with
    | 0 => simp [Pair.c] at hj; subst hj; simpa [Addr.add] using hc.cell 0 _ rfl
    | 1 => simp [Pair.c] at hj; subst hj; simpa [Addr.add] using hc.cell 1 _ rfl
    | j + 2 => simp [Pair.c] at hj
  · intro u hu
    simp [Pair.c] at hu
    rcases hu with rfl | rfl <;> rfl
  · intro v' w' ho' hg _ hat
    exact h v' w' ⟨by simpa [Pair.c] using ho'⟩ hg hat
theorem sizeSlab_calls (sl : List Slab) (v : Value) (W : World) (hs : Sl W W.heap.size Slab.c 4 v sl) :
    Calls Try.prog 116 #[v] W fun e w' => e = .returned (.int .i64 (sl.length : Int)) ∧ W = w' := by
  obtain ⟨A, cap, rfl, hl, hm, -⟩ := hs.slab
  clear hs
  go_enter Try.func116, Try.ntmps116
  go_wp2_with fail
  go_ret
  exact ⟨rfl, rfl⟩
/-- Two rows do not share a block. -/
def Dis (r v : Value) : Prop := ∀ j, r.ownBlock = some j → v.ownBlock = some j → False
theorem besL_len (sl : List Slab) (i : Nat) : (besL sl i).length ≤ sl.length := besN_len sl i sl.length
theorem mul60 {k n : Nat} (hk : k ≤ n) (hn : n ≤ 60) : k * n ≤ 3600 := Nat.le_trans (Nat.mul_le_mul hk hn) (by omega)
set_option maxHeartbeats 2000000 in
theorem pairs_calls (w h : Int) (z : Value) (sl : List Slab) (hsm : ∀ x ∈ sl, smallS x) (hn : sl.length ≤ 60) (W : World) (hq : SqIn W w h z sl) :
    Calls Try.prog 66 #[sqv w h z] W (RetRow W 98 Pair.c 2 (prsL sl)) := by
  obtain ⟨A, cap, hz, hl, hm, -⟩ := hq.sl.slab
  subst hz
  have HQ := Lib.hid hq
  have HSM := Lib.hid hsm
  have HB := Lib.hid (ext_alloc ((Below.refl W.heap.size W).alloc (Nat.le_refl _) (.cells #[.int .i8 w, .int .i8 h, .slice A sl.length cap] 34)) (.cells #[] 98))
  have K0 := Lib.hid ((Bk.new W 34 #[.int .i8 w, .int .i8 h, .slice A sl.length cap] W.heap.size rfl).alloc (.cells #[] 98))
  have hO0 := Lib.hid (Own.empty (α := Pair) (c := Pair.c) (sz := 2) (E := 98) (W.alloc (.cells #[.int .i8 w, .int .i8 h, .slice A sl.length cap] 34)) (W.heap.size + 1) (W.heap.size + 1) (by simp) (by simp))
  clear hq hsm
  unfold sqv
  go_enter Try.func66, Try.ntmps66
  go_wp2_with fail
  refine (sizeSlab_calls sl _ _ (HQ.out.sl.ext HB.out)).mono ?_
  rintro e w1 ⟨rfl, rfl⟩
  go_wp2_with fail
  generalize (W.alloc (.cells #[.int .i8 w, .int .i8 h, .slice A sl.length cap] 34)).alloc (.cells #[] 98) = W1 at *
  go_loopw [3, 4, 6, 11, 16, 17, 18] (fun r _ _ c _ _ _ wr => ∃ k : Nat, k ≤ sl.length ∧ c = .int .i64 (k : Int) ∧ Own wr (W.heap.size + 1) 98 Pair.c 2 r (prsN sl k) ∧ Bk wr W.heap.size 34 #[.int .i8 w, .int .i8 h, .slice A sl.length cap] ∧ Below W.heap.size W wr) (fun _ _ _ c _ _ _ _ => sl.length - (intOf c).toNat)
  case atStart => exact ⟨0, by omega, rfl, hO0.out, K0.out, HB.out⟩
  case round =>
    obtain ⟨k, hk, rfl, hO, hK, hb⟩ := hrel
    obtain ⟨wo, rfl⟩ : ∃ wo : World, wo = wr := ⟨_, rfl⟩
    have HO := Lib.hid hO
    have HK := Lib.hid hK
    have HBo := Lib.hid hb
    clear hO hK hb
    by_cases hlt : k < sl.length
    · have hst := Lib.hid (prsN_succ sl k)
      have hlen := Lib.hid (prsN_len sl k)
      have k0 := HK.out.cell 0 _ rfl
      have k1 := HK.out.cell 1 _ rfl
      have k2 := HK.out.cell 2 _ rfl
      have qb := Lib.hid (beside_calls w h _ sl k hlt HSM.out (by omega) wo (HQ.out.ext HBo.out))
      have hbl := Lib.hid (besL_len sl k)
      have hm3 := Lib.hid (mul60 hk hn)
      have hkd : decide ((k : Int) < (sl.length : Int)) = true := by rw [decide_eq_true_eq]; omega
      unfold sqv at qb
      generalize besL sl k = bs at *
      generalize prsN sl k = ps at *
      go_wp2_with fail
      refine qb.out.mono ?_
      rintro e w2 ⟨v2, rfl, hO2, hb2⟩
      obtain ⟨A2, cap2, rfl, hl2, hm2, -⟩ := (hO2.sl i64c_len).i64
      have HO2 := Lib.hid hO2
      have HP2 := Lib.hid (HO.out.ext hb2)
      have HK2 := Lib.hid (HK.out.ext hb2)
      have HB2 := Lib.hid (ext_trans HBo.out hb2)
      have hsz := Lib.hid (show W.heap.size + 1 ≤ wo.heap.size from HK.out.lt)
      clear hO2 hb2 k0 k1 k2
      go_wp2_with fail
      go_loopw [3, 6, 18] (fun r _ c w3 => ∃ m : Nat, m ≤ bs.length ∧ c = .int .i64 (m : Int) ∧ Own w3 (W.heap.size + 1) 98 Pair.c 2 r (ps ++ prsIn (k : Int) (bs.take m)) ∧ Own w3 wo.heap.size 2 i64c 1 (.slice A2 bs.length cap2) bs ∧ Dis r (.slice A2 bs.length cap2) ∧ Bk w3 W.heap.size 34 #[.int .i8 w, .int .i8 h, .slice A sl.length cap] ∧ Below W.heap.size W w3) (fun _ _ c _ => bs.length - (intOf c).toNat)
      case atStart => exact ⟨0, by omega, rfl, by simpa [prsIn] using HP2.out, HO2.out, fun j h1 h2 => by have := HO.out.lt j h1; have := HO2.out.base j h2; omega, HK2.out, HB2.out⟩
      case round =>
        obtain ⟨m, hm0, rfl, hO, hO2, hdis, hK, hb⟩ := hrel
        have HP := Lib.hid hO
        have HS := Lib.hid hO2
        have HD := Lib.hid hdis
        have HKr := Lib.hid hK
        have HBr := Lib.hid hb
        clear hO hO2 hdis hK hb
        by_cases hlt2 : m < bs.length
        · have hst2 := Lib.hid (prsIn_succ (k : Int) bs m hlt2)
          obtain ⟨A3, cap3, hv, _, _, hcell⟩ := (HS.out.sl i64c_len).i64
          obtain ⟨rfl, rfl⟩ : A2 = A3 ∧ cap2 = cap3 := by injection hv with e1 e2 e3; exact ⟨e1, e3⟩
          obtain ⟨b, o, rfl, hbb, c0⟩ := hcell m hlt2
          have hpl := Lib.hid (Nat.le_trans (prsIn_len (k : Int) (bs.take m)) (by rw [List.length_take]; exact Nat.min_le_right _ _))
          have hbl2 := Lib.hid (show bs.length ≤ 60 from by have := hbl.out; omega)
          clear hcell hv
          generalize bs[m] = y at *
          by_cases hky : (k : Int) < y
          · have hkd2 : decide ((k : Int) < y) = true := decide_eq_true hky
            have hs2 := Lib.hid (show ps ++ prsIn (k : Int) (bs.take (m + 1)) = (ps ++ prsIn (k : Int) (bs.take m)) ++ [⟨(k : Int), y⟩] from by rw [hst2.out, if_pos hky, List.append_assoc])
            have hle := Lib.hid (show (ps ++ prsIn (k : Int) (bs.take m)).length ≤ 1000000 from by rw [List.length_append]; have := hpl.out; have := hlen.out; have := hm3.out; have := hbl2.out; omega)
            generalize ps ++ prsIn (k : Int) (bs.take m) = us at *
            clear hst2
            have hba := Lib.hid (HBr.out.alloc HBr.out.size (.cells #[.int .i64 (k : Int), .int .i64 y] 98))
            have HSa := Lib.hid (HS.out.alloc (.cells #[.int .i64 (k : Int), .int .i64 y] 98))
            have HKa := Lib.hid (HKr.out.alloc (.cells #[.int .i64 (k : Int), .int .i64 y] 98))
            go_wp2_with (at_builtin; refine push_pair rfl _ _ rfl (W.heap.size + 1) us _ rfl (HP.out.alloc _) _ ⟨(k : Int), y⟩ 98 rfl (Bk.new _ _ _ _ rfl) (by have := hle.out; omega) (Nat.le_trans (show W.heap.size + 1 ≤ wr.heap.size from HKr.out.lt) (by simp)) ?_)
            intro v4 w4 hO4 hG4 hat
            have hb4 := Lib.hid (hba.out.grown hG4 hba.out.size (fun j hj => Nat.le_trans (by omega) (HP.out.base j hj)))
            have HK4 := Lib.hid (show Bk w4 W.heap.size 34 #[.int .i8 w, .int .i8 h, .slice A sl.length cap] from (hG4.block _ HKa.out.lt (fun he => by have := HP.out.base _ he.symm; omega)).trans HKa.out)
            have HS4 := Lib.hid (HSa.out.keep (fun j hj => hG4.block j (HSa.out.lt j hj) (fun he => HD.out j he.symm hj)))
            have HD4 := Lib.hid (show Dis v4 (.slice (some ⟨b, o, none⟩) bs.length cap2) from fun j h1 h2 => by
              rcases hat with he | he
              · exact HD.out j (he ▸ h1) h2
              · rw [he] at h1
                injection h1 with h1
                have := HS.out.lt j h2
                try simp at h1
                omega)
            rw [← hs2.out] at hO4
            have hO4 := Lib.hid hO4
            clear hG4 hat
            go_wp2_with fail
            go_roundw
            case rel => exact ⟨m + 1, by omega, by go_num, hO4.out, HS4.out, HD4.out, HK4.out, hb4.out⟩
            case measure => first | (simp [intOf]; done) | (simp [intOf]; omega)
          · have hkd2 : decide ((k : Int) < y) = false := decide_eq_false hky
            have hs2 := Lib.hid (show prsIn (k : Int) (bs.take (m + 1)) = prsIn (k : Int) (bs.take m) from by rw [hst2.out, if_neg hky])
            clear hst2
            go_wp2_with fail
            go_roundw
            case rel => exact ⟨m + 1, by omega, by go_num, by rw [hs2.out]; exact HP.out, HS.out, HD.out, HKr.out, HBr.out⟩
            case measure => first | (simp [intOf]; done) | (simp [intOf]; omega)
        · obtain rfl : m = bs.length := by omega
          have hs2 := Lib.hid (show prsN sl (k + 1) = ps ++ prsIn (k : Int) (bs.take bs.length) from by rw [hst.out, List.take_length])
          rw [← hs2.out] at HP
          go_wp2_with fail
          go_roundw
          case rel => exact ⟨k + 1, by omega, by go_num, HP.out, HKr.out, HBr.out⟩
          case measure => first | (simp [intOf]; done) | (simp [intOf]; omega)
    · obtain rfl : k = sl.length := by omega
      go_wp2_with fail
      go_ret
      exact ⟨_, rfl, HO.out.more (by omega), HBo.out⟩
end Go.Proofs.Ytpjdgpcdcihogaa
