/-
The law on ReadGround, walked: it answers true. Conditions: the library's variables stand. PRINTED by wip/mk_glaw5.py.
-/
import Derived.Test.YthlcmiediedcfaaDoorGL3
import Derived.Test.YthlcmiediedcfaaDoorTX16
import Derived.Test.YthlcmiediedcfaaDoorOpS
set_option linter.unusedVariables false
set_option linter.unusedSimpArgs false
set_option maxRecDepth 100000
namespace Go.Proofs.YthlcmiediedcfaaDoor
open Go.RowKit
theorem gdA_one' {w' : World} {B : Nat} {xs : List Cell} {v : Value} (w h : Int) (hs : List Int) (hO : Own w' B 98 Cell.c 2 v xs) : (gdA w h hs v).all (·.oneCell') = true := by
  obtain ⟨A, cap, rfl, -, -, -⟩ := (hO.sl Cell.c_len).cell
  exact gdA_one _ _ _ _ _ _
theorem readG_hs (l : List UInt8) : (readG l).gd.hs.length = 81 := by
  cases h : readGF l with
  | none => rw [readG_none h]; exact z81_len
  | some st =>
    rw [readG_some h]
    unfold readGF at h
    split at h
    · rename_i hc
      obtain ⟨s, hs, hk⟩ := Option.bind_eq_some_iff.1 h
      split at hk
      · obtain rfl := Option.some.inj hk
        exact (gridR_val (wideG l) hc.2.2.2 (linesG l) 0 st0 s hs (by rw [linesG_len]; omega) (by simp [st0]) (fun _ _ _ h => by cases h)).1
      · cases hk
    · cases h
theorem readG_gl (l : List UInt8) : (readG l).gd.gl.length ≤ 8 := by
  cases h : readGF l with
  | none => rw [readG_none h]; simp
  | some st =>
    rw [readG_some h]
    unfold readGF at h
    split at h
    · obtain ⟨s, hs, hk⟩ := Option.bind_eq_some_iff.1 h
      split at hk
      · rename_i hok
        obtain rfl := Option.some.inj hk
        exact (gOk_ok hok).len
      · cases hk
    · cases h
set_option maxHeartbeats 8000000 in
theorem law_FnExactReadGround (W : World) (ht : TxtP W) (l : List UInt8) (k0 : True) :
    Calls Tryd.prog 8 #[.string ⟨l.toArray⟩] W fun e w' => e = .returned (.bool true) ∧ Below W.heap.size W w' := by
  have HT := Lib.hid ht
  clear ht
  have hch := Lib.hid (show True ∧ 0 ≤ W.heap.size from ⟨trivial, Nat.zero_le _⟩)
  by_cases hl : (1048576 : Int) < (l.length : Int)
  · have hd : decide ((1048576 : Int) < (l.length : Int)) = true := decide_eq_true hl
    go_enter Tryd.func8, Tryd.ntmps8
    go_wp2_with fail
    go_ret
    exact ⟨rfl, Below.refl _ _⟩
  have hd : decide ((1048576 : Int) < (l.length : Int)) = false := decide_eq_false hl
  have hFl := Lib.hid (readG_hs l)
  have hFg := Lib.hid (readG_gl l)
  have HSC := Lib.hid (fun W' => specReadGround_calls l (by omega) W')
  have HIC := Lib.hid (fun W' (h : TxtP W') => implReadGround_calls l (by omega) W' h)
  generalize readG l = F at *
  have hi_code : (F.code != F.code) = false := by simp
  go_enter Tryd.func8, Tryd.ntmps8
  go_wp2_with fail
  refine (HSC.out _).mono ?_
  rintro e w1_ ⟨v_w0, rfl, hP1, hb1⟩
  have olw0 := Lib.hid (show ∀ j, Value.ownBlock v_w0 = some j → W.heap.size ≤ j from fun j hj => hP1.base j hj)
  have Rw0_ := Lib.hid (hP1.more (show W.heap.size ≤ _ from Nat.le_refl _))
  have HB := Lib.hid hb1
  clear hb1
  have Rw0 := Lib.hid Rw0_.out
  obtain ⟨Aw0, capw0, hvw0, -, -, -⟩ := (hP1.sl Cell.c_len).cell
  have Vw0 := Lib.hid hvw0
  clear hP1 Rw0_ hvw0
  have hOne := show Own _ _ _ _ _ _ _ from Rw0.out
  have ouw0 := Lib.hid (show ∀ j, Value.ownBlock v_w0 = some j → j < w1_.heap.size from fun j hj => Rw0.out.lt j hj)
  have hln := Lib.hid (show W.heap.size ≤ w1_.heap.size from HB.out.size)
  have K0 := Lib.hid (Bk.new w1_ 54 Tryd.zeroCells54 w1_.heap.size rfl)
  have HB := Lib.hid (HB.out.alloc HB.out.size (.cells Tryd.zeroCells54 54))
  have hrw0 := Lib.hid (fun j hj => Rw0.out.lt j hj)
  have Rw0 := Lib.hid (Rw0.out.alloc (.cells Tryd.zeroCells54 54))
  go_wp2_with (refine wpList_store_m rfl 54 (.tmp 3) (.tmp 17) rfl _ 0 (gdA F.gd.w F.gd.h F.gd.hs v_w0) rfl rfl _ _ K0.out (by rw [gdA_size _ _ _ _ hFl.out, zG_size]; omega) (by rw [gdA_size _ _ _ _ hFl.out]; exact gd_sz _) (by first | exact gdA_one _ _ _ _ _ _ | exact gdA_one' _ _ _ (by assumption)) ?_)
  intro wb2 hK hG
  rw [gdA_zero _ _ _ hFl.out] at hK
  have HB := Lib.hid (HB.out.grown hG HB.out.size (fun j hj => by injection hj with hj; have h1 := hch.out; have h2 := hln.out; omega))
  have Rw0 := Lib.hid (Rw0.out.keep fun j hj => hG.block j (Rw0.out.lt j hj) (fun e => by injection e with e; have := hrw0.out j hj; omega))
  have KS := Lib.hid hK
  have hch := Lib.hid (And.intro hch.out hln.out)
  clear hK hG K0 hln hOne hrw0
  generalize w1_.heap.size = bS at *
  go_wp2_with fail
  refine (HIC.out _ (HT.out.ext HB.out)).mono ?_
  rintro e w3_ ⟨v_g0, rfl, hP3, hb3⟩
  have hlo := Lib.hid (show bS < wb2.heap.size from KS.out.lt)
  have olg0 := Lib.hid (show ∀ j, Value.ownBlock v_g0 = some j → bS < j from fun j hj => by have h1 := hP3.base j hj; have h2 := hlo.out; omega)
  clear hlo
  have Rg0_ := Lib.hid (hP3.more (show W.heap.size ≤ _ from HB.out.size))
  have HB := Lib.hid (ext_trans HB.out hb3)
  have KS := Lib.hid (KS.out.ext hb3)
  have Rw0 := Lib.hid (Rw0.out.ext hb3)
  clear hb3
  have Rg0 := Lib.hid Rg0_.out
  obtain ⟨Ag0, capg0, hvg0, -, -, -⟩ := (hP3.sl Cell.c_len).cell
  have Vg0 := Lib.hid hvg0
  clear hP3 Rg0_ hvg0
  have hOne := show Own _ _ _ _ _ _ _ from Rg0.out
  have oug0 := Lib.hid (show ∀ j, Value.ownBlock v_g0 = some j → j < w3_.heap.size from fun j hj => Rg0.out.lt j hj)
  have hln := Lib.hid (show bS < w3_.heap.size from KS.out.lt)
  have K0 := Lib.hid (Bk.new w3_ 54 Tryd.zeroCells54 w3_.heap.size rfl)
  have HB := Lib.hid (HB.out.alloc HB.out.size (.cells Tryd.zeroCells54 54))
  have KS := Lib.hid (KS.out.alloc (.cells Tryd.zeroCells54 54))
  have hrw0 := Lib.hid (fun j hj => Rw0.out.lt j hj)
  have Rw0 := Lib.hid (Rw0.out.alloc (.cells Tryd.zeroCells54 54))
  have hrg0 := Lib.hid (fun j hj => Rg0.out.lt j hj)
  have Rg0 := Lib.hid (Rg0.out.alloc (.cells Tryd.zeroCells54 54))
  go_wp2_with (refine wpList_store_m rfl 54 (.tmp 5) (.tmp 22) rfl _ 0 (gdA F.gd.w F.gd.h F.gd.hs v_g0) rfl rfl _ _ K0.out (by rw [gdA_size _ _ _ _ hFl.out, zG_size]; omega) (by rw [gdA_size _ _ _ _ hFl.out]; exact gd_sz _) (by first | exact gdA_one _ _ _ _ _ _ | exact gdA_one' _ _ _ (by assumption)) ?_)
  intro wb4 hK hG
  rw [gdA_zero _ _ _ hFl.out] at hK
  have HB := Lib.hid (HB.out.grown hG HB.out.size (fun j hj => by injection hj with hj; have h1 := hch.out; have h2 := hln.out; omega))
  have KS := Lib.hid (KS.out.grownM hG (by have h1 := hch.out; have h2 := hln.out; omega))
  have Rw0 := Lib.hid (Rw0.out.keep fun j hj => hG.block j (Rw0.out.lt j hj) (fun e => by injection e with e; have := hrw0.out j hj; omega))
  have Rg0 := Lib.hid (Rg0.out.keep fun j hj => hG.block j (Rg0.out.lt j hj) (fun e => by injection e with e; have := hrg0.out j hj; omega))
  have KG := Lib.hid hK
  have hch := Lib.hid (And.intro hch.out hln.out)
  clear hK hG K0 hln hOne hrw0 hrg0
  generalize w3_.heap.size = bG at *
  have lda := load_gd hFl.out KG.out
  have ldb := load_gd hFl.out KS.out
  go_wp2_with (first | (refine wpList_load_w rfl 54 (.tmp 5) rfl _ rfl _ lda ?_) | (refine wpList_load_w rfl 54 (.tmp 3) rfl _ rfl _ ldb ?_))
  refine (eqGround_calls F.gd.w F.gd.h F.gd.hs hFl.out _ _ F.gd.gl _ (Rg0.out.sl Cell.c_len) (Rw0.out.sl Cell.c_len)).mono ?_
  rintro e w5_ ⟨rfl, hb5⟩
  clear lda ldb
  have HB := Lib.hid (ext_trans HB.out hb5)
  have KS := Lib.hid (KS.out.ext hb5)
  have KG := Lib.hid (KG.out.ext hb5)
  have Rw0 := Lib.hid (Rw0.out.ext hb5)
  have Rg0 := Lib.hid (Rg0.out.ext hb5)
  clear hb5
  go_wp2_with (have ldg := load_gd hFl.out KG.out; refine wpList_load_w rfl 54 (.tmp 5) rfl _ rfl _ ldg ?_)
  have hg8 := hFg.out
  refine (markGround_calls F.gd.w F.gd.h F.gd.hs hFl.out _ F.gd.gl _ W.heap.size HB.out.size Rg0.out 1 (by omega) (by omega) (by omega)).mono ?_
  rintro e w6_ ⟨rfl, hM, hg⟩
  have HB := Lib.hid (HB.out.grown hg HB.out.size (fun j hj => by have h1 := hch.out; have h2 := olg0.out _ hj; omega))
  have KS := Lib.hid (show Bk w6_ _ _ _ from (hg.block _ KS.out.lt (fun e => by have h1 := hch.out; have h2 := olg0.out _ e.symm; have h3 := oug0.out _ e.symm; omega)).trans KS.out)
  have KG := Lib.hid (show Bk w6_ _ _ _ from (hg.block _ KG.out.lt (fun e => by have h1 := hch.out; have h2 := olg0.out _ e.symm; have h3 := oug0.out _ e.symm; omega)).trans KG.out)
  have Rw0 := Lib.hid (Rw0.out.keep fun j hj => hg.block j (Rw0.out.lt j hj) (fun e => by have h4 := olw0.out j hj; have h5 := ouw0.out j hj; have h1 := hch.out; have h2 := olg0.out _ e.symm; have h3 := oug0.out _ e.symm; omega))
  have Rg0 := Lib.hid hM
  clear hM hg
  have hk1 : decide ((1 : Int) + 2 * (F.gd.gl.length : Int) < 0) = false := by rw [decide_eq_false_iff_not]; omega
  have hk2 : ((1 : Int) + 2 * (F.gd.gl.length : Int) != 1 + 2 * (F.gd.gl.length : Int)) = false := by simp
  go_wp2_with (have ldg := load_gd hFl.out KG.out; refine wpList_load_w rfl 54 (.tmp 5) rfl _ rfl _ ldg ?_)
  refine (heldGround_calls F.gd.w F.gd.h F.gd.hs hFl.out _ F.gd.gl.length _ 1 (Rg0.out.sl Cell.c_len) (by omega) (by omega) (by omega)).mono ?_
  rintro e w7_ ⟨rfl, hb7⟩
  have HB := Lib.hid (ext_trans HB.out hb7)
  have KS := Lib.hid (KS.out.ext hb7)
  have KG := Lib.hid (KG.out.ext hb7)
  have Rw0 := Lib.hid (Rw0.out.ext hb7)
  have Rg0 := Lib.hid (Rg0.out.ext hb7)
  clear hb7
  go_wp2_with fail
  refine (HIC.out _ (HT.out.ext HB.out)).mono ?_
  rintro e w8_ ⟨v_h0, rfl, hP8, hb8⟩
  have hlo := Lib.hid (show bG < w7_.heap.size from KG.out.lt)
  have olh0 := Lib.hid (show ∀ j, Value.ownBlock v_h0 = some j → bG < j from fun j hj => by have h1 := hP8.base j hj; have h2 := hlo.out; omega)
  clear hlo
  have Rh0_ := Lib.hid (hP8.more (show W.heap.size ≤ _ from HB.out.size))
  have HB := Lib.hid (ext_trans HB.out hb8)
  have KS := Lib.hid (KS.out.ext hb8)
  have KG := Lib.hid (KG.out.ext hb8)
  have Rw0 := Lib.hid (Rw0.out.ext hb8)
  have Rg0 := Lib.hid (Rg0.out.ext hb8)
  clear hb8
  have Rh0 := Lib.hid Rh0_.out
  obtain ⟨Ah0, caph0, hvh0, -, -, -⟩ := (hP8.sl Cell.c_len).cell
  have Vh0 := Lib.hid hvh0
  clear hP8 Rh0_ hvh0
  have hOne := show Own _ _ _ _ _ _ _ from Rh0.out
  have ouh0 := Lib.hid (show ∀ j, Value.ownBlock v_h0 = some j → j < w8_.heap.size from fun j hj => Rh0.out.lt j hj)
  have hln := Lib.hid (show bG < w8_.heap.size from KG.out.lt)
  have K0 := Lib.hid (Bk.new w8_ 54 Tryd.zeroCells54 w8_.heap.size rfl)
  have HB := Lib.hid (HB.out.alloc HB.out.size (.cells Tryd.zeroCells54 54))
  have KS := Lib.hid (KS.out.alloc (.cells Tryd.zeroCells54 54))
  have KG := Lib.hid (KG.out.alloc (.cells Tryd.zeroCells54 54))
  have hrw0 := Lib.hid (fun j hj => Rw0.out.lt j hj)
  have Rw0 := Lib.hid (Rw0.out.alloc (.cells Tryd.zeroCells54 54))
  have hrg0 := Lib.hid (fun j hj => Rg0.out.lt j hj)
  have Rg0 := Lib.hid (Rg0.out.alloc (.cells Tryd.zeroCells54 54))
  have hrh0 := Lib.hid (fun j hj => Rh0.out.lt j hj)
  have Rh0 := Lib.hid (Rh0.out.alloc (.cells Tryd.zeroCells54 54))
  go_wp2_with (refine wpList_store_m rfl 54 (.tmp 9) (.tmp 47) rfl _ 0 (gdA F.gd.w F.gd.h F.gd.hs v_h0) rfl rfl _ _ K0.out (by rw [gdA_size _ _ _ _ hFl.out, zG_size]; omega) (by rw [gdA_size _ _ _ _ hFl.out]; exact gd_sz _) (by first | exact gdA_one _ _ _ _ _ _ | exact gdA_one' _ _ _ (by assumption)) ?_)
  intro wb9 hK hG
  rw [gdA_zero _ _ _ hFl.out] at hK
  have HB := Lib.hid (HB.out.grown hG HB.out.size (fun j hj => by injection hj with hj; have h1 := hch.out; have h2 := hln.out; omega))
  have KS := Lib.hid (KS.out.grownM hG (by have h1 := hch.out; have h2 := hln.out; omega))
  have KG := Lib.hid (KG.out.grownM hG (by have h1 := hch.out; have h2 := hln.out; omega))
  have Rw0 := Lib.hid (Rw0.out.keep fun j hj => hG.block j (Rw0.out.lt j hj) (fun e => by injection e with e; have := hrw0.out j hj; omega))
  have Rg0 := Lib.hid (Rg0.out.keep fun j hj => hG.block j (Rg0.out.lt j hj) (fun e => by injection e with e; have := hrg0.out j hj; omega))
  have Rh0 := Lib.hid (Rh0.out.keep fun j hj => hG.block j (Rh0.out.lt j hj) (fun e => by injection e with e; have := hrh0.out j hj; omega))
  have KH := Lib.hid hK
  have hch := Lib.hid (And.intro hch.out hln.out)
  clear hK hG K0 hln hOne hrw0 hrg0 hrh0
  generalize w8_.heap.size = bH at *
  have lda := load_gd hFl.out KH.out
  have ldb := load_gd hFl.out KS.out
  go_wp2_with (first | (refine wpList_load_w rfl 54 (.tmp 9) rfl _ rfl _ lda ?_) | (refine wpList_load_w rfl 54 (.tmp 3) rfl _ rfl _ ldb ?_))
  refine (eqGround_calls F.gd.w F.gd.h F.gd.hs hFl.out _ _ F.gd.gl _ (Rh0.out.sl Cell.c_len) (Rw0.out.sl Cell.c_len)).mono ?_
  rintro e w10_ ⟨rfl, hb10⟩
  clear lda ldb
  have HB := Lib.hid (ext_trans HB.out hb10)
  have KS := Lib.hid (KS.out.ext hb10)
  have KG := Lib.hid (KG.out.ext hb10)
  have KH := Lib.hid (KH.out.ext hb10)
  have Rw0 := Lib.hid (Rw0.out.ext hb10)
  have Rg0 := Lib.hid (Rg0.out.ext hb10)
  have Rh0 := Lib.hid (Rh0.out.ext hb10)
  clear hb10
  go_wp2_with (have ldg := load_gd hFl.out KG.out; refine wpList_load_w rfl 54 (.tmp 5) rfl _ rfl _ ldg ?_)
  refine (heldGround_calls F.gd.w F.gd.h F.gd.hs hFl.out _ F.gd.gl.length _ 1 (Rg0.out.sl Cell.c_len) (by omega) (by omega) (by omega)).mono ?_
  rintro e w11_ ⟨rfl, hb11⟩
  have HB := Lib.hid (ext_trans HB.out hb11)
  have KS := Lib.hid (KS.out.ext hb11)
  have KG := Lib.hid (KG.out.ext hb11)
  have KH := Lib.hid (KH.out.ext hb11)
  have Rw0 := Lib.hid (Rw0.out.ext hb11)
  have Rg0 := Lib.hid (Rg0.out.ext hb11)
  have Rh0 := Lib.hid (Rh0.out.ext hb11)
  clear hb11
  go_wp2_with fail
  go_ret
  exact ⟨rfl, HB.out⟩
end Go.Proofs.YthlcmiediedcfaaDoor
