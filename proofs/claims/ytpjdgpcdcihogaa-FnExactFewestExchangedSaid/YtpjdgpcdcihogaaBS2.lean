/-
All slabs beside one, of the program. Conditions: numbers are small; slices can be read.
-/
import Derived.Test.YtpjdgpcdcihogaaBS1
import Derived.Test.YtpjdgpcdcihogaaSQ12
set_option linter.unusedVariables false
set_option linter.unusedSimpArgs false
set_option maxRecDepth 100000
namespace Go.Proofs.Ytpjdgpcdcihogaa
open Go.RowKit
/-- A row of the call's own is handed back, maybe nil. -/
def RetRow {α : Type} (W : World) (E : TypeId) (c : α → List Value) (sz : Nat) (xs : List α) (e : Ending) (w' : World) : Prop := ∃ v, e = .returned v ∧ Own w' W.heap.size E c sz v xs ∧ Below W.heap.size W w'
/-- Slabs that a square of the program may have. -/
def smallS (s : Slab) : Prop := -127 ≤ s.x ∧ -127 ≤ s.y ∧ s.w ≤ 125 ∧ s.h ≤ 125
set_option maxHeartbeats 2000000 in
theorem beside_calls (w h : Int) (z : Value) (sl : List Slab) (i : Nat) (hi : i < sl.length) (hsm : ∀ x ∈ sl, smallS x) (hn : sl.length ≤ 1000000) (W : World) (hq : SqIn W w h z sl) :
    Calls Try.prog 117 #[sqv w h z, .int .i64 (i : Int)] W (RetRow W 2 i64c 1 (besL sl i)) := by
  obtain ⟨A, cap, hz, hl, hm, hcell⟩ := hq.sl.slab
  subst hz
  have HB := Lib.hid (ext_alloc ((Below.refl W.heap.size W).alloc (Nat.le_refl _) (.cells #[.int .i8 w, .int .i8 h, .slice A sl.length cap] 34)) (.cells #[] 2))
  have K0 := Lib.hid ((Bk.new W 34 #[.int .i8 w, .int .i8 h, .slice A sl.length cap] W.heap.size rfl).alloc (.cells #[] 2))
  have hO0 := Lib.hid (Own.empty (α := Int) (c := i64c) (sz := 1) (E := 2) (W.alloc (.cells #[.int .i8 w, .int .i8 h, .slice A sl.length cap] 34)) (W.heap.size + 1) (W.heap.size + 1) (by simp) (by simp))
  have HSL := Lib.hid hq.ok
  have HSM := Lib.hid hsm
  clear hq hsm
  obtain ⟨b, o, rfl, hbb, i0, i1, i2, i3⟩ := hcell i hi
  have I0 := Lib.hid (show Slab.at_ W b (o + i * 4) sl[i] from ⟨i0, i1, i2, i3⟩)
  have HC := Lib.hid (show ∀ k (hk : k < sl.length), Slab.at_ W b (o + k * 4) sl[k] from fun k hk => by
    obtain ⟨b', o', he, _, j0, j1, j2, j3⟩ := hcell k hk
    injection he with he
    injection he with e1 e2
    subst e1; subst e2
    exact ⟨j0, j1, j2, j3⟩)
  have hii := Lib.hid (List.getElem?_eq_getElem hi)
  have hi0 : (0 : Int) ≤ (i : Int) := by omega
  have hi9 : (i : Int) < (sl.length : Int) := by omega
  have HSI := Lib.hid (show sl.getD i s0 = sl[i] from getD_at sl i hi)
  have HOI := Lib.hid (HSL.out _ (List.getElem_mem hi))
  have HMI := Lib.hid (HSM.out _ (List.getElem_mem hi))
  clear i0 i1 i2 i3 hcell
  generalize sl[i] = t at *
  unfold sqv
  go_enter Try.func117, Try.ntmps117
  go_wp2_with fail
  generalize (W.alloc (.cells #[.int .i8 w, .int .i8 h, .slice (some ⟨b, o, none⟩) sl.length cap] 34)).alloc (.cells #[] 2) = W1 at *
  go_loopw [5, 6, 7, 12] (fun r _ _ c wr => ∃ k : Nat, k ≤ sl.length ∧ c = .int .i64 (k : Int) ∧ Own wr (W.heap.size + 1) 2 i64c 1 r (besN sl i k) ∧ Bk wr W.heap.size 34 #[.int .i8 w, .int .i8 h, .slice (some ⟨b, o, none⟩) sl.length cap] ∧ Below W.heap.size W wr) (fun _ _ _ c _ => sl.length - (intOf c).toNat)
  case atStart => exact ⟨0, by omega, rfl, hO0.out, K0.out, HB.out⟩
  case round =>
    obtain ⟨k, hk, rfl, hO, hK, hb⟩ := hrel
    have HO := Lib.hid hO
    have HK := Lib.hid hK
    have HBo := Lib.hid hb
    have hlen := Lib.hid (besN_len sl i k)
    clear hO hK hb
    by_cases hlt : k < sl.length
    · have hst := Lib.hid (besN_succ sl i k)
      rw [HSI.out, getD_at sl k hlt] at hst
      have hk8 : (0 : Int) ≤ (k : Int) := by omega
      have hk9 : (k : Int) < (sl.length : Int) := by omega
      obtain ⟨c0, c1, c2, c3⟩ := Slab.at_ext (HC.out k hlt) HBo.out hbb
      have HOK := Lib.hid (HSL.out _ (List.getElem_mem hlt))
      generalize sl[k] = u at *
      have hbl : b < wr.heap.size := Nat.lt_of_lt_of_le hbb HBo.out.size
      have qa := Lib.hid (show ∀ W', Calls Try.prog 157 #[.agg #[.int .i8 t.x, .int .i8 t.y, .int .i8 t.w, .int .i8 t.h], .agg #[.int .i8 u.x, .int .i8 u.y, .int .i8 u.w, .int .i8 u.h]] W' (fun e w' => e = .returned (.bool (besB t u)) ∧ Below W'.heap.size W' w') from fun W' => areBeside_calls t u HOI.out HOK.out HMI.out.1 HMI.out.2.1 HMI.out.2.2.1 HMI.out.2.2.2 W')
      generalize besB t u = E at *
      have hba := Lib.hid ((Below.refl wr.heap.size wr).alloc (Nat.le_refl _) (.cells #[.int .i8 u.x, .int .i8 u.y, .int .i8 u.w, .int .i8 u.h] 117))
      have KU := Lib.hid (Bk.new wr 117 #[.int .i8 u.x, .int .i8 u.y, .int .i8 u.w, .int .i8 u.h] wr.heap.size rfl)
      go_wp2_with fail
      generalize wr.alloc (.cells #[.int .i8 u.x, .int .i8 u.y, .int .i8 u.w, .int .i8 u.h] 117) = wa at *
      clear c0 c1 c2 c3
      have k2 := (HK.out.ext hba.out).cell 2 _ rfl
      obtain ⟨d0, d1, d2, d3⟩ := Slab.at_ext I0.out (ext_trans HBo.out hba.out) hbb
      have u0 := KU.out.cell 0 _ rfl
      have u1 := KU.out.cell 1 _ rfl
      have u2 := KU.out.cell 2 _ rfl
      have u3 := KU.out.cell 3 _ rfl
      have HBa := Lib.hid (ext_trans HBo.out hba.out)
      go_still_tail 6, (by kernel_rfl)
      change wpList _ _ _ _ _ wa.drew
      go_wp2_with fail
      refine (qa.out _).mono ?_
      rintro e w3 ⟨rfl, hb3⟩
      have HB3 := Lib.hid (ext_trans HBa.out.drew hb3)
      have HK3 := Lib.hid ((HK.out.ext (hba.out.drew)).ext hb3)
      have HO3 := Lib.hid ((HO.out.ext (hba.out.drew)).ext hb3)
      clear hb3 d0 d1 d2 d3 u0 u1 u2 u3 k2
      cases E
      · have hs2 := Lib.hid (hst.out.trans (if_neg (by decide)))
        clear hst
        go_wp2_with fail
        go_roundw
        case rel => exact ⟨k + 1, by omega, by go_num, by rw [hs2.out]; exact HO3.out, HK3.out, HB3.out⟩
        case measure => first | (simp [intOf]; done) | (simp [intOf]; omega)
      · have hs2 := Lib.hid (hst.out.trans (if_pos rfl))
        clear hst
        have hba2 := Lib.hid (HB3.out.alloc HB3.out.size (.cells #[.int .i64 (k : Int)] 2))
        have hsz3 := Lib.hid (show W.heap.size + 1 ≤ w3.heap.size from HK3.out.lt)
        have HKa := Lib.hid (HK3.out.alloc (.cells #[.int .i64 (k : Int)] 2))
        generalize besN sl i k = us at *
        go_wp2_with (at_builtin; refine push_i64at rfl _ _ rfl (W.heap.size + 1) us _ rfl (HO3.out.alloc _) ⟨_, 0, none⟩ _ rfl ((Bk.new _ _ _ _ rfl).cell 0 _ rfl) (by have := hlen.out; omega) (Nat.le_trans hsz3.out (by simp)) ?_)
        intro v4 w4 hO4 hG4 hat
        have hb4 := Lib.hid (hba2.out.grown hG4 hba2.out.size (fun j hj => Nat.le_trans (by omega) (HO3.out.base j hj)))
        have HK4 := Lib.hid (show Bk w4 W.heap.size 34 #[.int .i8 w, .int .i8 h, .slice (some ⟨b, o, none⟩) sl.length cap] from (hG4.block _ HKa.out.lt (fun he => by have := HO3.out.base _ he.symm; omega)).trans HKa.out)
        rw [← hs2.out] at hO4
        have hO4 := Lib.hid hO4
        clear hG4 hat
        go_wp2_with fail
        go_roundw
        case rel => exact ⟨k + 1, by omega, by go_num, hO4.out, HK4.out, hb4.out⟩
        case measure => first | (simp [intOf]; done) | (simp [intOf]; omega)
    · obtain rfl : k = sl.length := by omega
      go_wp2_with fail
      go_ret
      exact ⟨_, rfl, HO.out.more (by omega), HBo.out⟩
end Go.Proofs.Ytpjdgpcdcihogaa
