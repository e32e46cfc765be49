/-
The walk of FnExactRowsText: for all rows it answers true, where the library's table of powers of ten stands in memory.
-/
import Derived.Test.YthlcmiediedcfaaDoorTX2
import Derived.Test.YthlcmiediedcfaaDoorLaw
set_option linter.unusedVariables false
set_option linter.unusedSimpArgs false
set_option maxRecDepth 100000
namespace Go.Proofs.YthlcmiediedcfaaDoor
open Go.RowKit
theorem law_FnExactRowsText (w : World) (ht : TabP w) (xs : List Row) (v : Value) (hs : Sl w w.heap.size Row.c 2 v xs) (hx : ∀ x ∈ xs, x.ok) :
    Calls Tryd.prog 3 #[v] w fun e w' => e = .returned (.bool true) ∧ Below w.heap.size w w' := by
  have HT := Lib.hid ht
  clear ht
  go_enter Tryd.func3, Tryd.ntmps3
  go_wp2_with fail
  refine (szRowS_calls xs v _ _ (by omega) (by omega) hs).mono ?_
  rintro e w1 ⟨rfl, rfl⟩
  by_cases hl : (1048576 : Int) < xs.length
  · rw [if_pos hl]
    go_wp2_with fail
    go_ret
    exact ⟨rfl, Below.refl _ _⟩
  · rw [if_neg hl]
    have hn : xs.length ≤ 1048576 := by omega
    go_wp2_with fail
    refine (toRowS_calls xs v _ hs hn).mono ?_
    rintro e w1 ⟨v1, rfl, hO1, hb1⟩
    go_wp2_with fail
    refine (specRowsText_calls xs hx v1 _ (hO1.sl Row.c_len)).mono ?_
    rintro e w2 ⟨rfl, hb2⟩
    have hb2' := ext_trans hb1 hb2
    generalize hT : rowsT xs = T
    go_wp2_with fail
    refine (toRowS_calls xs v _ (hs.ext hb2') hn).mono ?_
    rintro e w3 ⟨v2, rfl, hO2, hb3⟩
    have hb3' := ext_trans hb2' hb3
    go_wp2_with fail
    refine (implRowsText_calls xs hx v2 _ (HT.out.ext hb3') (hO2.sl Row.c_len)).mono ?_
    rintro e w4 ⟨rfl, hb4⟩
    have hb4' := ext_trans hb3' hb4
    rw [hT]
    clear hT
    go_wp2_with fail
    refine (toRowS_calls xs v _ (hs.ext hb4') hn).mono ?_
    rintro e w5 ⟨v4, rfl, hO4, hb5⟩
    have hb5' := ext_trans hb4' hb5
    go_wp2_with fail
    refine (eqRowS_calls xs xs v2 v4 _ (((hO2.sl Row.c_len).ext hb4).ext hb5) (hO4.sl Row.c_len)).mono ?_
    rintro e w6 ⟨rfl, hb6⟩
    have hd : decide (xs = xs) = true := by simp
    rw [hd]
    go_wp2_with fail
    go_ret
    exact ⟨rfl, ext_trans hb5' hb6⟩
end Go.Proofs.YthlcmiediedcfaaDoor
