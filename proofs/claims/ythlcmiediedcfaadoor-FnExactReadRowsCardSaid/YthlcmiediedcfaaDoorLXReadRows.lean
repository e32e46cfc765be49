/-
The walk of FnExactReadRows: for all texts it answers true, where the library's variables stand in memory.
-/
import Derived.Test.YthlcmiediedcfaaDoorTX11
import Derived.Test.YthlcmiediedcfaaDoorLaw
import Derived.Test.YthlcmiediedcfaaDoorRMK
import Derived.Test.YthlcmiediedcfaaDoorOpS
set_option linter.unusedVariables false
set_option linter.unusedSimpArgs false
set_option maxRecDepth 100000
namespace Go.Proofs.YthlcmiediedcfaaDoor
open Go.RowKit
theorem readRowsF_len (l : List UInt8) : (readRowsF l).1.length ≤ 6 := by
  unfold readRowsF
  split
  · simp
  · split
    · split
      · rename_i h
        exact (vRow_nat h).1
      · simp
    · simp
set_option maxHeartbeats 4000000 in
theorem law_FnExactReadRows (W : World) (ht : TxtP W) (l : List UInt8) (k0 : True) :
    Calls Tryd.prog 6 #[.string ⟨l.toArray⟩] W fun e w' => e = .returned (.bool true) ∧ Below W.heap.size W w' := by
  have HT := Lib.hid ht
  clear ht
  by_cases hl : (1048576 : Int) < (l.length : Int)
  · have hd : decide ((1048576 : Int) < (l.length : Int)) = true := decide_eq_true hl
    go_enter Tryd.func6, Tryd.ntmps6
    go_wp2_with fail
    go_ret
    exact ⟨rfl, Below.refl _ _⟩
  have hd : decide ((1048576 : Int) < (l.length : Int)) = false := decide_eq_false hl
  have hle := readRowsF_len l
  have HSC := Lib.hid (fun W' => specReadRows_calls l (by omega) W')
  have HIC := Lib.hid (fun W' (h : TxtP W') => implReadRows_calls l (by omega) W' h)
  generalize readRowsF l = F at *
  go_enter Tryd.func6, Tryd.ntmps6
  go_wp2_with fail
  refine (HSC.out _).mono ?_
  rintro e w1 ⟨vw, rfl, hO1, hb1⟩
  have HB := Lib.hid hb1
  have RW := Lib.hid hO1
  clear hb1 hO1
  go_wp2_with fail
  refine (HIC.out _ (HT.out.ext HB.out)).mono ?_
  rintro e w2 ⟨vg, rfl, hO2, hb2⟩
  have D := Lib.hid (show ∀ j, vw.ownBlock = some j → vg.ownBlock = some j → False from fun j h1 h2 => by
    have := RW.out.lt j h1
    have := hO2.base j h2
    omega)
  have RW := Lib.hid (RW.out.ext hb2)
  have RG := Lib.hid (hO2.more (show W.heap.size ≤ _ from HB.out.size))
  have HB := Lib.hid (ext_trans HB.out hb2)
  clear hb2 hO2
  go_wp2_with fail
  refine (eqRowS_calls F.1 F.1 vg vw _ (RG.out.sl Row.c_len) (RW.out.sl Row.c_len)).mono ?_
  rintro e w3 ⟨rfl, hb3⟩
  have HB := Lib.hid (ext_trans HB.out hb3)
  have RW := Lib.hid (RW.out.ext hb3)
  have RG := Lib.hid (RG.out.ext hb3)
  clear hb3
  have hdF : decide (F.1 = F.1) = true := by simp
  rw [hdF]
  clear hdF
  go_wp2_with fail
  refine (markRowG_calls F.1 vg _ W.heap.size HB.out.size RG.out 1 (by omega) (by omega) (by omega)).mono ?_
  rintro e w4 ⟨rfl, hM, hg⟩
  have HB := Lib.hid (HB.out.grown hg HB.out.size (fun j hj => RG.out.base j hj))
  have RW := Lib.hid (RW.out.keep fun j hj => hg.block j (RW.out.lt j hj) (fun e => D.out j hj e.symm))
  have RG := Lib.hid hM
  clear hM hg
  go_wp2_with fail
  refine (heldRowS_calls F.1.length vg _ 1 (RG.out.sl Row.c_len) (by omega) (by omega) (by omega)).mono ?_
  rintro e w5 ⟨rfl, hb5⟩
  have HB := Lib.hid (ext_trans HB.out hb5)
  have RW := Lib.hid (RW.out.ext hb5)
  have RG := Lib.hid (RG.out.ext hb5)
  clear hb5
  have hh1 : decide ((1 : Int) + 2 * (F.1.length : Int) < 0) = false := by rw [decide_eq_false_iff_not]; omega
  have hh2 : (((1 : Int) + 2 * (F.1.length : Int)) != (1 + 2 * (F.1.length : Int))) = false := by simp
  go_wp2_with fail
  refine (HIC.out _ (HT.out.ext HB.out)).mono ?_
  rintro e w6 ⟨vh, rfl, hO6, hb6⟩
  have RH := Lib.hid (hO6.more (show W.heap.size ≤ _ from HB.out.size))
  have RW := Lib.hid (RW.out.ext hb6)
  have RG := Lib.hid (RG.out.ext hb6)
  have HB := Lib.hid (ext_trans HB.out hb6)
  clear hb6 hO6
  go_wp2_with fail
  refine (eqRowS_calls F.1 F.1 vh vw _ (RH.out.sl Row.c_len) (RW.out.sl Row.c_len)).mono ?_
  rintro e w7 ⟨rfl, hb7⟩
  have HB := Lib.hid (ext_trans HB.out hb7)
  have RG := Lib.hid (RG.out.ext hb7)
  clear hb7
  have hdF : decide (F.1 = F.1) = true := by simp
  rw [hdF]
  clear hdF
  go_wp2_with fail
  refine (heldRowS_calls F.1.length vg _ 1 (RG.out.sl Row.c_len) (by omega) (by omega) (by omega)).mono ?_
  rintro e w8 ⟨rfl, hb8⟩
  have HB := Lib.hid (ext_trans HB.out hb8)
  clear hb8
  go_wp2_with fail
  go_ret
  exact ⟨rfl, HB.out⟩
end Go.Proofs.YthlcmiediedcfaaDoor
