/-
The laws on plans, walked: each answers true. Conditions: numbers are of their kinds, slices can be read.
-/
import Derived.Test.YtkkkgpeilpfddaaG5
set_option linter.unusedVariables false
set_option linter.unusedSimpArgs false
set_option maxRecDepth 100000
namespace Go.Proofs.Ytkkkgpeilpfddaa
open Go.RowKit
set_option maxHeartbeats 1000000 in
theorem law_FnExactPlanDays (w : World) (rows : List Row) (v : Value) (hs : Sl w w.heap.size Row.c 2 v rows) (hr : ∀ x ∈ rows, x.ok) (gangs : List Gang) (u : Value) (ht : Sl w w.heap.size Gang.c 5 u gangs) (hg : ∀ x ∈ gangs, x.ok)
    (plan : List Int) (z : Value) (hz : Sl w w.heap.size i64c 1 z plan) (hp : ∀ q ∈ plan, -9223372036854775808 ≤ q ∧ q ≤ 9223372036854775807) :
    Calls Try.prog 4 #[v, u, z] w fun e w' => e = .returned (.bool true) ∧ Below w.heap.size w w' := by
  have HS := Lib.hid hs
  have HT := Lib.hid ht
  have HZ := Lib.hid hz
  have HP := Lib.hid hp
  have HG := Lib.hid hg
  have HR := Lib.hid hr
  obtain ⟨A3, cap3, rfl, hl3, hm3, _⟩ := hz.i64
  clear hs ht hz hp hg hr
  by_cases hq : (1048576 : Int) < plan.length
  · go_enter Try.func4, Try.ntmps4
    go_wp2_with fail
    go_ret
    exact ⟨rfl, Below.refl _ _⟩
  have hn3 : plan.length ≤ 1048576 := by omega
  go_enter Try.func4, Try.ntmps4
  go_wp2_with fail
  refine (szRowS_calls rows v _ _ (by omega) (by omega) HS.out).mono ?_
  rintro e w1 ⟨rfl, rfl⟩
  by_cases hl : (1048576 : Int) < rows.length
  · rw [if_pos hl]
    go_wp2_with fail
    go_ret
    exact ⟨rfl, Below.refl _ _⟩
  rw [if_neg hl]
  have hn1 : rows.length ≤ 1048576 := by omega
  go_wp2_with fail
  refine (szGangS_calls gangs u _ _ (by omega) (by omega) HT.out).mono ?_
  rintro e w1 ⟨rfl, rfl⟩
  by_cases hl2 : (1048576 - (rows.length : Int)) < gangs.length
  · rw [if_pos hl2]
    go_wp2_with fail
    go_ret
    exact ⟨rfl, Below.refl _ _⟩
  rw [if_neg hl2]
  have hn2 : gangs.length ≤ 1048576 := by omega
  go_wp2_with fail
  refine (toRowS_calls rows v _ HS.out hn1).mono ?_
  rintro e w1 ⟨v1, rfl, hO1, b1⟩
  go_wp2_with fail
  refine (toGangS_calls gangs u _ (HT.out.ext b1) hn2).mono ?_
  rintro e w2 ⟨v2, rfl, hO2, b2⟩
  have c2 := ext_trans b1 b2
  have hO1 := hO1.ext b2
  clear b1 b2
  go_wp2_with fail
  refine (toInt64S_calls plan _ _ (HZ.out.ext c2) hn3).mono ?_
  rintro e w3 ⟨v3, rfl, hO3, b3⟩
  have c3 := ext_trans c2 b3
  have hO1 := hO1.ext b3
  have hO2 := hO2.ext b3
  clear c2 b3
  go_wp2_with fail
  refine (specPlanDays_calls rows HR.out gangs HG.out plan HP.out _ _ _ _ (hO1.sl Row.c_len) (hO2.sl Gang.c_len) (hO3.sl i64c_len)).mono ?_
  rintro e w4 ⟨rfl, b4⟩
  have c4 := ext_trans c3 b4
  clear c3 b4 hO1 hO2 hO3
  go_wp2_with fail
  refine (toRowS_calls rows v _ (HS.out.ext c4) hn1).mono ?_
  rintro e w5 ⟨v5, rfl, hO5, b5⟩
  have c5 := ext_trans c4 b5
  clear c4 b5
  go_wp2_with fail
  refine (toGangS_calls gangs u _ (HT.out.ext c5) hn2).mono ?_
  rintro e w6 ⟨v6, rfl, hO6, b6⟩
  have c6 := ext_trans c5 b6
  have hO5 := hO5.ext b6
  clear c5 b6
  go_wp2_with fail
  refine (toInt64S_calls plan _ _ (HZ.out.ext c6) hn3).mono ?_
  rintro e w7 ⟨v7, rfl, hO7, b7⟩
  have c7 := ext_trans c6 b7
  have hO5 := hO5.ext b7
  have hO6 := hO6.ext b7
  clear c6 b7
  go_wp2_with fail
  refine (implPlanDays_calls rows HR.out gangs HG.out plan HP.out _ _ _ _ (hO5.sl Row.c_len) (hO6.sl Gang.c_len) (hO7.sl i64c_len)).mono ?_
  rintro e w8 ⟨rfl, b8⟩
  have c8 := ext_trans c7 b8
  have hO5 := hO5.ext b8
  have hO6 := hO6.ext b8
  have hO7 := hO7.ext b8
  clear c7 b8
  go_wp2_with fail
  refine (toRowS_calls rows v _ (HS.out.ext c8) hn1).mono ?_
  rintro e w9 ⟨v9, rfl, hO9, b9⟩
  have c9 := ext_trans c8 b9
  have hO5 := hO5.ext b9
  have hO6 := hO6.ext b9
  have hO7 := hO7.ext b9
  clear c8 b9
  go_wp2_with fail
  refine (eqRowS_calls rows rows _ _ _ (hO5.sl Row.c_len) (hO9.sl Row.c_len)).mono ?_
  rintro e w10 ⟨rfl, b10⟩
  have c10 := ext_trans c9 b10
  have hO6 := hO6.ext b10
  have hO7 := hO7.ext b10
  clear c9 b10 hO5 hO9
  have hd : decide (rows = rows) = true := by simp
  rw [hd]
  clear hd
  go_wp2_with fail
  refine (toGangS_calls gangs u _ (HT.out.ext c10) hn2).mono ?_
  rintro e w11 ⟨v11, rfl, hO11, b11⟩
  have c11 := ext_trans c10 b11
  have hO6 := hO6.ext b11
  have hO7 := hO7.ext b11
  clear c10 b11
  go_wp2_with fail
  refine (eqGangS_calls gangs gangs _ _ _ (hO6.sl Gang.c_len) (hO11.sl Gang.c_len)).mono ?_
  rintro e w12 ⟨rfl, b12⟩
  have c12 := ext_trans c11 b12
  have hO7 := hO7.ext b12
  clear c11 b12 hO6 hO11
  have hd : decide (gangs = gangs) = true := by simp
  rw [hd]
  clear hd
  go_wp2_with fail
  refine (toInt64S_calls plan _ _ (HZ.out.ext c12) hn3).mono ?_
  rintro e w13 ⟨v13, rfl, hO13, b13⟩
  have c13 := ext_trans c12 b13
  have hO7 := hO7.ext b13
  clear c12 b13
  go_wp2_with fail
  refine (eqInt64S_calls plan plan _ _ _ (hO7.sl i64c_len) (hO13.sl i64c_len)).mono ?_
  rintro e w14 ⟨rfl, b14⟩
  have c14 := ext_trans c13 b14
  have hd : decide (plan = plan) = true := by simp
  rw [hd]
  go_wp2_with fail
  go_ret
  exact ⟨rfl, c14⟩
set_option maxHeartbeats 1000000 in
theorem law_FnExactPlanCost (w : World) (rows : List Row) (v : Value) (hs : Sl w w.heap.size Row.c 2 v rows) (hr : ∀ x ∈ rows, x.ok) (gangs : List Gang) (u : Value) (ht : Sl w w.heap.size Gang.c 5 u gangs) (hg : ∀ x ∈ gangs, x.ok)
    (plan : List Int) (z : Value) (hz : Sl w w.heap.size i64c 1 z plan) (hp : ∀ q ∈ plan, -9223372036854775808 ≤ q ∧ q ≤ 9223372036854775807) :
    Calls Try.prog 3 #[v, u, z] w fun e w' => e = .returned (.bool true) ∧ Below w.heap.size w w' := by
  have HS := Lib.hid hs
  have HT := Lib.hid ht
  have HZ := Lib.hid hz
  have HP := Lib.hid hp
  have HG := Lib.hid hg
  have HR := Lib.hid hr
  obtain ⟨A3, cap3, rfl, hl3, hm3, _⟩ := hz.i64
  clear hs ht hz hp hg hr
  by_cases hq : (1048576 : Int) < plan.length
  · go_enter Try.func3, Try.ntmps3
    go_wp2_with fail
    go_ret
    exact ⟨rfl, Below.refl _ _⟩
  have hn3 : plan.length ≤ 1048576 := by omega
  go_enter Try.func3, Try.ntmps3
  go_wp2_with fail
  refine (szRowS_calls rows v _ _ (by omega) (by omega) HS.out).mono ?_
  rintro e w1 ⟨rfl, rfl⟩
  by_cases hl : (1048576 : Int) < rows.length
  · rw [if_pos hl]
    go_wp2_with fail
    go_ret
    exact ⟨rfl, Below.refl _ _⟩
  rw [if_neg hl]
  have hn1 : rows.length ≤ 1048576 := by omega
  go_wp2_with fail
  refine (szGangS_calls gangs u _ _ (by omega) (by omega) HT.out).mono ?_
  rintro e w1 ⟨rfl, rfl⟩
  by_cases hl2 : (1048576 - (rows.length : Int)) < gangs.length
  · rw [if_pos hl2]
    go_wp2_with fail
    go_ret
    exact ⟨rfl, Below.refl _ _⟩
  rw [if_neg hl2]
  have hn2 : gangs.length ≤ 1048576 := by omega
  go_wp2_with fail
  refine (toRowS_calls rows v _ HS.out hn1).mono ?_
  rintro e w1 ⟨v1, rfl, hO1, b1⟩
  go_wp2_with fail
  refine (toGangS_calls gangs u _ (HT.out.ext b1) hn2).mono ?_
  rintro e w2 ⟨v2, rfl, hO2, b2⟩
  have c2 := ext_trans b1 b2
  have hO1 := hO1.ext b2
  clear b1 b2
  go_wp2_with fail
  refine (toInt64S_calls plan _ _ (HZ.out.ext c2) hn3).mono ?_
  rintro e w3 ⟨v3, rfl, hO3, b3⟩
  have c3 := ext_trans c2 b3
  have hO1 := hO1.ext b3
  have hO2 := hO2.ext b3
  clear c2 b3
  go_wp2_with fail
  refine (specPlanCost_calls rows HR.out gangs HG.out plan HP.out _ _ _ _ (hO1.sl Row.c_len) (hO2.sl Gang.c_len) (hO3.sl i64c_len)).mono ?_
  rintro e w4 ⟨rfl, b4⟩
  have c4 := ext_trans c3 b4
  clear c3 b4 hO1 hO2 hO3
  go_wp2_with fail
  refine (toRowS_calls rows v _ (HS.out.ext c4) hn1).mono ?_
  rintro e w5 ⟨v5, rfl, hO5, b5⟩
  have c5 := ext_trans c4 b5
  clear c4 b5
  go_wp2_with fail
  refine (toGangS_calls gangs u _ (HT.out.ext c5) hn2).mono ?_
  rintro e w6 ⟨v6, rfl, hO6, b6⟩
  have c6 := ext_trans c5 b6
  have hO5 := hO5.ext b6
  clear c5 b6
  go_wp2_with fail
  refine (toInt64S_calls plan _ _ (HZ.out.ext c6) hn3).mono ?_
  rintro e w7 ⟨v7, rfl, hO7, b7⟩
  have c7 := ext_trans c6 b7
  have hO5 := hO5.ext b7
  have hO6 := hO6.ext b7
  clear c6 b7
  go_wp2_with fail
  refine (implPlanCost_calls rows HR.out gangs HG.out plan HP.out _ _ _ _ (hO5.sl Row.c_len) (hO6.sl Gang.c_len) (hO7.sl i64c_len)).mono ?_
  rintro e w8 ⟨rfl, b8⟩
  have c8 := ext_trans c7 b8
  have hO5 := hO5.ext b8
  have hO6 := hO6.ext b8
  have hO7 := hO7.ext b8
  clear c7 b8
  go_wp2_with fail
  refine (toRowS_calls rows v _ (HS.out.ext c8) hn1).mono ?_
  rintro e w9 ⟨v9, rfl, hO9, b9⟩
  have c9 := ext_trans c8 b9
  have hO5 := hO5.ext b9
  have hO6 := hO6.ext b9
  have hO7 := hO7.ext b9
  clear c8 b9
  go_wp2_with fail
  refine (eqRowS_calls rows rows _ _ _ (hO5.sl Row.c_len) (hO9.sl Row.c_len)).mono ?_
  rintro e w10 ⟨rfl, b10⟩
  have c10 := ext_trans c9 b10
  have hO6 := hO6.ext b10
  have hO7 := hO7.ext b10
  clear c9 b10 hO5 hO9
  have hd : decide (rows = rows) = true := by simp
  rw [hd]
  clear hd
  go_wp2_with fail
  refine (toGangS_calls gangs u _ (HT.out.ext c10) hn2).mono ?_
  rintro e w11 ⟨v11, rfl, hO11, b11⟩
  have c11 := ext_trans c10 b11
  have hO6 := hO6.ext b11
  have hO7 := hO7.ext b11
  clear c10 b11
  go_wp2_with fail
  refine (eqGangS_calls gangs gangs _ _ _ (hO6.sl Gang.c_len) (hO11.sl Gang.c_len)).mono ?_
  rintro e w12 ⟨rfl, b12⟩
  have c12 := ext_trans c11 b12
  have hO7 := hO7.ext b12
  clear c11 b12 hO6 hO11
  have hd : decide (gangs = gangs) = true := by simp
  rw [hd]
  clear hd
  go_wp2_with fail
  refine (toInt64S_calls plan _ _ (HZ.out.ext c12) hn3).mono ?_
  rintro e w13 ⟨v13, rfl, hO13, b13⟩
  have c13 := ext_trans c12 b13
  have hO7 := hO7.ext b13
  clear c12 b13
  go_wp2_with fail
  refine (eqInt64S_calls plan plan _ _ _ (hO7.sl i64c_len) (hO13.sl i64c_len)).mono ?_
  rintro e w14 ⟨rfl, b14⟩
  have c14 := ext_trans c13 b14
  have hd : decide (plan = plan) = true := by simp
  rw [hd]
  go_wp2_with fail
  go_ret
  exact ⟨rfl, c14⟩
end Go.Proofs.Ytkkkgpeilpfddaa
