/-
The laws on FastestPlan and CheapestPlan, walked: each answers true. Conditions: numbers are of their kinds, slices can be read.
-/
import Derived.Test.YtkkkgpeilpfddaaG17
import Derived.Test.YtkkkgpeilpfddaaG11
import Derived.Test.YtkkkgpeilpfddaaMark
set_option linter.unusedVariables false
set_option linter.unusedSimpArgs false
set_option maxRecDepth 100000
namespace Go.Proofs.Ytkkkgpeilpfddaa
open Go.RowKit
theorem bestOf_len (num : List Int → Option Int) (n : Nat) : ∀ (ps : List (List Int)) (s : List Int × Int), (∀ p ∈ ps, p.length ≤ n) → s.1.length ≤ n → (bestOf num ps s).1.length ≤ n
  | [], s, _, h => h
  | p :: ps, s, hp, h => by
    rw [bestOf]
    refine bestOf_len num n ps _ (fun q hq => hp q (List.mem_cons_of_mem _ hq)) ?_
    have := hp p (by simp)
    split
    · split
      · exact this
      · exact h
    · exact h
theorem bestPlan_len (num : List Int → Option Int) (rows : List Row) (gangs : List Gang) (ha : asked rows gangs = 0) : (bestPlan num rows gangs).1.length ≤ 6 := by
  unfold bestPlan
  split
  · simp
  · refine bestOf_len num 6 _ _ (fun p hp => ?_) (by simp)
    have := Fine.all ha hp
    have h1 := this.hlen
    have h2 := this.h6
    omega
theorem fastest_len (rows : List Row) (gangs : List Gang) : (fastest rows gangs).1.length ≤ 6 := by
  unfold fastest
  split
  · exact bestPlan_len _ _ _ (by assumption)
  · simp
theorem cheapest_len (rows : List Row) (gangs : List Gang) (days : Int) : (cheapest rows gangs days).1.length ≤ 6 := by
  unfold cheapest
  split
  · refine bestPlan_len _ _ _ ?_
    rename_i h
    unfold cheapCode at h
    split at h
    · assumption
    · exact h
  · simp
theorem Own.oth {α : Type} {w w' : World} {B E sz : Nat} {c : α → List Value} {v : Value} {xs : List α} {vb : Option Nat} (h : Own w B E c sz v xs) (hG : w.grownBy w' vb) (hne : ∀ k, vb = some k → ∀ j, v.ownBlock = some j → j ≠ k) : Own w' B E c sz v xs :=
  h.keep fun k hk => hG.block k (h.lt k hk) (fun he => hne k he.symm k hk rfl)
set_option maxHeartbeats 2000000 in
theorem law_FnExactFastestPlan (w : World) (rows : List Row) (v : Value) (hs : Sl w w.heap.size Row.c 2 v rows) (hr : ∀ x ∈ rows, x.ok) (gangs : List Gang) (u : Value) (ht : Sl w w.heap.size Gang.c 5 u gangs) (hg : ∀ x ∈ gangs, x.ok)  :
    Calls Try.prog 5 #[v, u] w fun e w' => e = .returned (.bool true) ∧ Below w.heap.size w w' := by
  have HS := Lib.hid hs
  have HT := Lib.hid ht
  have HSC := Lib.hid (show ∀ z1 z2 W, Sl W W.heap.size Row.c 2 z1 rows → Sl W W.heap.size Gang.c 5 z2 gangs → Calls Try.prog 20 #[z1, z2] W (RetSl W (fastest rows gangs)) from fun z1 z2 W h1 h2 => specFastestPlan_calls rows hr gangs hg z1 z2 W h1 h2)
  have HIC := Lib.hid (show ∀ z1 z2 W, Sl W W.heap.size Row.c 2 z1 rows → Sl W W.heap.size Gang.c 5 z2 gangs → Calls Try.prog 21 #[z1, z2] W (RetOw W (fastest rows gangs)) from fun z1 z2 W h1 h2 => implFastestPlan_calls rows hr gangs hg z1 z2 W h1 h2)
  have HL := Lib.hid (fastest_len rows gangs)
  generalize fastest rows gangs = F at HSC HIC HL
  clear hs ht hg hr
  go_enter Try.func5, Try.ntmps5
  go_wp2_with fail
  refine (szRowS_calls rows v _ _ (by omega) (by omega) HS.out).mono ?_
  rintro e w1 ⟨rfl, rfl⟩
  by_cases hl : (1048576 : Int) < rows.length
  · rw [if_pos hl]
    go_wp2_with fail
    go_ret
    exact ⟨rfl, Below.refl _ _⟩
  rw [if_neg hl]
  have hn1 : rows.length ≤ 1048576 := by omega
  go_wp2_with fail
  refine (szGangS_calls gangs u _ _ (by omega) (by omega) HT.out).mono ?_
  rintro e w1 ⟨rfl, rfl⟩
  by_cases hl2 : (1048576 - (rows.length : Int)) < gangs.length
  · rw [if_pos hl2]
    go_wp2_with fail
    go_ret
    exact ⟨rfl, Below.refl _ _⟩
  rw [if_neg hl2]
  have hn2 : gangs.length ≤ 1048576 := by omega
  go_wp2_with fail
  refine (toRowS_calls rows v _ HS.out hn1).mono ?_
  rintro e w1 ⟨v1, rfl, hO1, b1⟩
  go_wp2_with fail
  refine (toGangS_calls gangs u _ (HT.out.ext b1) hn2).mono ?_
  rintro e w2 ⟨v2, rfl, hO2, b2⟩
  have c2 := ext_trans b1 b2
  have hO1 := hO1.ext b2
  clear b1 b2
  go_wp2_with fail
  refine (HSC.out _ _ _ (hO1.sl Row.c_len) (hO2.sl Gang.c_len)).mono ?_
  rintro e w4 ⟨s4, rfl, hs4, b4⟩
  have c4 := ext_trans c2 b4
  have hs4 := Lib.hid hs4
  clear c2 b4 hO1 hO2
  go_wp2_with fail
  refine (toRowS_calls rows v _ (HS.out.ext c4) hn1).mono ?_
  rintro e w5 ⟨v5, rfl, hO5, b5⟩
  have c5 := ext_trans c4 b5
  have hs5 := Lib.hid (hs4.out.keep b5)
  have B5' := Lib.hid (show w.heap.size ≤ w4.heap.size from c4.size)
  have Z5 := Lib.hid b5.size
  have hO5 := Lib.hid hO5
  generalize hB4 : w4.heap.size = B4 at *
  clear c4 b5 hs4 hB4
  have T5 := Lib.hid (show ∀ k, v5.ownBlock = some k → k < w5.heap.size from fun k hk => hO5.out.lt k hk)
  go_wp2_with fail
  refine (toGangS_calls gangs u _ (HT.out.ext c5) hn2).mono ?_
  rintro e w6 ⟨v6, rfl, hO6, b6⟩
  have c6 := ext_trans c5 b6
  have hO5 := Lib.hid (hO5.out.ext b6)
  have hs6 := Lib.hid (hs5.out.keep (b6.mono Z5.out))
  have T6 := Lib.hid (show ∀ k, v6.ownBlock = some k → k < w6.heap.size from fun k hk => hO6.lt k hk)
  have hO6 := Lib.hid hO6
  have Z56 := Lib.hid b6.size
  generalize hB5 : w5.heap.size = B5 at *
  clear b6 hs5 hB5 c5
  go_wp2_with fail
  refine (HIC.out _ _ _ (hO5.out.sl Row.c_len) (hO6.out.sl Gang.c_len)).mono ?_
  rintro e w7 ⟨v7, rfl, hO7, b7⟩
  have c7 := ext_trans c6 b7
  have hO5 := Lib.hid (hO5.out.ext b7)
  have hO6 := Lib.hid (hO6.out.ext b7)
  have hs7 := Lib.hid (hs6.out.keep (b7.mono (Nat.le_trans Z5.out Z56.out)))
  have hO7 := Lib.hid hO7
  have Z7 := Lib.hid b7.size
  generalize hB6 : w6.heap.size = B6 at *
  have ZZ := Lib.hid (show B4 ≤ B5 ∧ B5 ≤ B6 from ⟨Z5.out, Z56.out⟩)
  clear b7 hs6 hB6 c6
  go_wp2_with fail
  refine (eqInt64S_calls F.1 F.1 v7 s4 _ (hO7.out.sl i64c_len) (hs7.out.more (by have := ZZ.out; have := Z7.out; omega))).mono ?_
  rintro e w8 ⟨rfl, b8⟩
  have c8 := ext_trans c7 b8
  have hO5 := Lib.hid (hO5.out.ext b8)
  have hO6 := Lib.hid (hO6.out.ext b8)
  have hO7 := Lib.hid (hO7.out.ext b8)
  have hs8 := Lib.hid (hs7.out.keep (b8.mono (by have := ZZ.out; have := Z7.out; omega)))
  have Z8 := Lib.hid (Nat.le_trans Z7.out b8.size)
  have hd : decide (F.1 = F.1) = true := by simp
  rw [hd]
  clear b8 hs7 c7
  go_wp2_with fail
  refine (toRowS_calls rows v _ (HS.out.ext c8) hn1).mono ?_
  rintro e w9 ⟨v9, rfl, hO9, b9⟩
  have c9 := ext_trans c8 b9
  have hO5 := Lib.hid (hO5.out.ext b9)
  have hO6 := Lib.hid (hO6.out.ext b9)
  have hO7 := Lib.hid (hO7.out.ext b9)
  have hs9 := Lib.hid (hs8.out.keep (b9.mono (by have := ZZ.out; have := Z8.out; omega)))
  have Z9 := Lib.hid (Nat.le_trans Z8.out b9.size)
  clear c8 b9 hs8
  go_wp2_with fail
  refine (eqRowS_calls rows rows _ _ _ (hO5.out.sl Row.c_len) (hO9.sl Row.c_len)).mono ?_
  rintro e w10 ⟨rfl, b10⟩
  have c10 := ext_trans c9 b10
  have hO5 := Lib.hid (hO5.out.ext b10)
  have hO6 := Lib.hid (hO6.out.ext b10)
  have hO7 := Lib.hid (hO7.out.ext b10)
  have hs10 := Lib.hid (hs9.out.keep (b10.mono (by have := ZZ.out; have := Z9.out; omega)))
  have Z10 := Lib.hid (Nat.le_trans Z9.out b10.size)
  clear c9 b10 hO9 hs9
  rw [show decide (rows = rows) = true from by simp]
  go_wp2_with fail
  refine (toGangS_calls gangs u _ (HT.out.ext c10) hn2).mono ?_
  rintro e w11 ⟨v11, rfl, hO11, b11⟩
  have c11 := ext_trans c10 b11
  have hO5 := Lib.hid (hO5.out.ext b11)
  have hO6 := Lib.hid (hO6.out.ext b11)
  have hO7 := Lib.hid (hO7.out.ext b11)
  have hs11 := Lib.hid (hs10.out.keep (b11.mono (by have := ZZ.out; have := Z10.out; omega)))
  have Z11 := Lib.hid (Nat.le_trans Z10.out b11.size)
  clear c10 b11 hs10
  go_wp2_with fail
  refine (eqGangS_calls gangs gangs _ _ _ (hO6.out.sl Gang.c_len) (hO11.sl Gang.c_len)).mono ?_
  rintro e w12 ⟨rfl, b12⟩
  have c12 := ext_trans c11 b12
  have hO5 := Lib.hid (hO5.out.ext b12)
  have hO6 := Lib.hid (hO6.out.ext b12)
  have hO7 := Lib.hid (hO7.out.ext b12)
  have hs12 := Lib.hid (hs11.out.keep (b12.mono (by have := ZZ.out; have := Z11.out; omega)))
  have Z12 := Lib.hid (Nat.le_trans Z11.out b12.size)
  clear c11 b12 hO11 hs11
  rw [show decide (gangs = gangs) = true from by simp]
  go_wp2_with fail
  refine (markRowS_calls rows v5 _ B4 (by have := ZZ.out; have := Z12.out; omega) hO5.out 1 (by omega) (by omega) hn1).mono ?_
  rintro e w13 ⟨rfl, -, b13, g13⟩
  have c13 := c12.trans (b13.mono B5'.out)
  have hs13 := Lib.hid (hs12.out.keep b13)
  have hO6 := Lib.hid (hO6.out.oth g13 (fun k hk j hj => by have := T5.out k hk; have := hO6.out.base j hj; omega))
  have hO7 := Lib.hid (hO7.out.oth g13 (fun k hk j hj => by have := T5.out k hk; have := hO7.out.base j hj; have := ZZ.out; omega))
  have Z13 := Lib.hid (Nat.le_trans Z12.out b13.size)
  have k13 : (1 : Int) + 2 * rows.length ≤ 10000000 := by omega
  have k13' : (0 : Int) ≤ 1 + 2 * rows.length := by omega
  clear c12 b13 g13 hs12 hO5
  go_wp2_with fail
  refine (markGangS_calls gangs v6 _ B5 (by have := ZZ.out; have := Z13.out; omega) hO6.out (1 + 2 * rows.length) k13' k13 hn2).mono ?_
  rintro e w14 ⟨rfl, -, b14, g14⟩
  have c14 := c13.trans (b14.mono (by have := ZZ.out; have := B5'.out; omega))
  have hs14 := Lib.hid (hs13.out.keep (b14.mono ZZ.out.1))
  have hO7 := Lib.hid (hO7.out.oth g14 (fun k hk j hj => by have := T6.out k hk; have := hO7.out.base j hj; have := ZZ.out; omega))
  have Z14 := Lib.hid (Nat.le_trans Z13.out b14.size)
  have k14 : decide ((1 : Int) + 2 * rows.length + 5 * gangs.length < 0) = false := by rw [decide_eq_false_iff_not]; omega
  clear c13 b14 g14 hs13 hO6
  go_wp2_with fail
  refine (eqInt64S_calls F.1 F.1 v7 s4 _ (hO7.out.sl i64c_len) (hs14.out.more (by have := ZZ.out; have := Z14.out; omega))).mono ?_
  rintro e w15 ⟨rfl, b15⟩
  have c15 := ext_trans c14 b15
  have hO7 := Lib.hid (hO7.out.ext b15)
  have hs15 := Lib.hid (hs14.out.keep (b15.mono (by have := ZZ.out; have := Z14.out; omega)))
  have Z15 := Lib.hid (Nat.le_trans Z14.out b15.size)
  have hd : decide (F.1 = F.1) = true := by simp
  rw [hd]
  clear b15 hs14 c14
  go_wp2_with fail
  refine (markInt64S_calls F.1 v7 _ B6 Z15.out hO7.out 1 (by omega) (by omega) (by have := HL.out; omega)).mono ?_
  rintro e w16 ⟨rfl, hO8, b16⟩
  have c16 := c15.trans (b16.mono (by have := ZZ.out; have := B5'.out; omega))
  have hs16 := Lib.hid (hs15.out.keep (b16.mono (by have := ZZ.out; omega)))
  have Z16 := Lib.hid (Nat.le_trans Z15.out b16.size)
  have hO8 := Lib.hid hO8
  clear b16 hs15 c15 hO7
  have hmm : (1 : Int) + F.1.length = ((F.1.length + 1 : Nat) : Int) := by omega
  go_wp2_with fail
  refine (heldInt64S_calls F.1.length v7 _ 1 (hO8.out.sl i64c_len) (by omega) (by omega) (by have := HL.out; omega)).mono ?_
  rintro e w17 ⟨rfl, b17⟩
  have c17 := ext_trans c16 b17
  have hs17 := Lib.hid (hs16.out.keep (b17.mono (by have := ZZ.out; have := Z16.out; omega)))
  have hO8 := Lib.hid (hO8.out.ext b17)
  have Z17 := Lib.hid (Nat.le_trans Z16.out b17.size)
  have hl1 : decide ((1 : Int) + F.1.length < 0) = false := by rw [decide_eq_false_iff_not]; omega
  have hl2 : ((1 : Int) + F.1.length != 1 + F.1.length) = false := by simp
  clear b17 hs16 c16
  go_wp2_with fail
  refine (toRowS_calls rows v _ (HS.out.ext c17) hn1).mono ?_
  rintro e w18 ⟨v18, rfl, hO18, b18⟩
  have c18 := ext_trans c17 b18
  have hs18 := Lib.hid (hs17.out.keep (b18.mono (by have := ZZ.out; have := Z17.out; omega)))
  have hO8 := Lib.hid (hO8.out.ext b18)
  have Z18 := Lib.hid (Nat.le_trans Z17.out b18.size)
  clear b18 hs17 c17
  go_wp2_with fail
  refine (toGangS_calls gangs u _ (HT.out.ext c18) hn2).mono ?_
  rintro e w19 ⟨v19, rfl, hO19, b19⟩
  have c19 := ext_trans c18 b19
  have hs19 := Lib.hid (hs18.out.keep (b19.mono (by have := ZZ.out; have := Z18.out; omega)))
  have hO8 := Lib.hid (hO8.out.ext b19)
  have hO18 := hO18.ext b19
  have Z19 := Lib.hid (Nat.le_trans Z18.out b19.size)
  clear b19 hs18 c18
  go_wp2_with fail
  refine (HIC.out _ _ _ (hO18.sl Row.c_len) (hO19.sl Gang.c_len)).mono ?_
  rintro e w20 ⟨v20, rfl, hO20, b20⟩
  have c20 := ext_trans c19 b20
  have hs20 := Lib.hid (hs19.out.keep (b20.mono (by have := ZZ.out; have := Z19.out; omega)))
  have hO8 := Lib.hid (hO8.out.ext b20)
  have Z20 := Lib.hid (Nat.le_trans Z19.out b20.size)
  have hO20 := Lib.hid hO20
  clear b20 hs19 c19 hO18 hO19
  go_wp2_with fail
  refine (eqInt64S_calls F.1 F.1 v20 s4 _ (hO20.out.sl i64c_len) (hs20.out.more (by have := ZZ.out; have := Z20.out; omega))).mono ?_
  rintro e w21 ⟨rfl, b21⟩
  have c21 := ext_trans c20 b21
  have hO8 := Lib.hid (hO8.out.ext b21)
  have hd : decide (F.1 = F.1) = true := by simp
  rw [hd]
  clear b21 hs20 c20 hO20
  go_wp2_with fail
  refine (heldInt64S_calls F.1.length v7 _ 1 (hO8.out.sl i64c_len) (by omega) (by omega) (by have := HL.out; omega)).mono ?_
  rintro e w22 ⟨rfl, b22⟩
  have c22 := ext_trans c21 b22
  go_wp2_with fail
  go_ret
  exact ⟨rfl, c22⟩
set_option maxHeartbeats 2000000 in
theorem law_FnExactCheapestPlan (w : World) (rows : List Row) (v : Value) (hs : Sl w w.heap.size Row.c 2 v rows) (hr : ∀ x ∈ rows, x.ok) (gangs : List Gang) (u : Value) (ht : Sl w w.heap.size Gang.c 5 u gangs) (hg : ∀ x ∈ gangs, x.ok) (days : Int) (_h0 : -9223372036854775808 ≤ days) (_h1 : days ≤ 9223372036854775807) :
    Calls Try.prog 6 #[v, u, .int .i64 days] w fun e w' => e = .returned (.bool true) ∧ Below w.heap.size w w' := by
  have HS := Lib.hid hs
  have HT := Lib.hid ht
  have HSC := Lib.hid (show ∀ z1 z2 W, Sl W W.heap.size Row.c 2 z1 rows → Sl W W.heap.size Gang.c 5 z2 gangs → Calls Try.prog 26 #[z1, z2, .int .i64 days] W (RetSl W (cheapest rows gangs days)) from fun z1 z2 W h1 h2 => specCheapestPlan_calls rows hr gangs hg days z1 z2 W h1 h2)
  have HIC := Lib.hid (show ∀ z1 z2 W, Sl W W.heap.size Row.c 2 z1 rows → Sl W W.heap.size Gang.c 5 z2 gangs → Calls Try.prog 27 #[z1, z2, .int .i64 days] W (RetOw W (cheapest rows gangs days)) from fun z1 z2 W h1 h2 => implCheapestPlan_calls rows hr gangs hg days z1 z2 W h1 h2)
  have HL := Lib.hid (cheapest_len rows gangs days)
  generalize cheapest rows gangs days = F at HSC HIC HL
  clear hs ht hg hr
  go_enter Try.func6, Try.ntmps6
  go_wp2_with fail
  refine (szRowS_calls rows v _ _ (by omega) (by omega) HS.out).mono ?_
  rintro e w1 ⟨rfl, rfl⟩
  by_cases hl : (1048576 : Int) < rows.length
  · rw [if_pos hl]
    go_wp2_with fail
    go_ret
    exact ⟨rfl, Below.refl _ _⟩
  rw [if_neg hl]
  have hn1 : rows.length ≤ 1048576 := by omega
  go_wp2_with fail
  refine (szGangS_calls gangs u _ _ (by omega) (by omega) HT.out).mono ?_
  rintro e w1 ⟨rfl, rfl⟩
  by_cases hl2 : (1048576 - (rows.length : Int)) < gangs.length
  · rw [if_pos hl2]
    go_wp2_with fail
    go_ret
    exact ⟨rfl, Below.refl _ _⟩
  rw [if_neg hl2]
  have hn2 : gangs.length ≤ 1048576 := by omega
  go_wp2_with fail
  refine (toRowS_calls rows v _ HS.out hn1).mono ?_
  rintro e w1 ⟨v1, rfl, hO1, b1⟩
  go_wp2_with fail
  refine (toGangS_calls gangs u _ (HT.out.ext b1) hn2).mono ?_
  rintro e w2 ⟨v2, rfl, hO2, b2⟩
  have c2 := ext_trans b1 b2
  have hO1 := hO1.ext b2
  clear b1 b2
  go_wp2_with fail
  refine (HSC.out _ _ _ (hO1.sl Row.c_len) (hO2.sl Gang.c_len)).mono ?_
  rintro e w4 ⟨s4, rfl, hs4, b4⟩
  have c4 := ext_trans c2 b4
  have hs4 := Lib.hid hs4
  clear c2 b4 hO1 hO2
  go_wp2_with fail
  refine (toRowS_calls rows v _ (HS.out.ext c4) hn1).mono ?_
  rintro e w5 ⟨v5, rfl, hO5, b5⟩
  have c5 := ext_trans c4 b5
  have hs5 := Lib.hid (hs4.out.keep b5)
  have B5' := Lib.hid (show w.heap.size ≤ w4.heap.size from c4.size)
  have Z5 := Lib.hid b5.size
  have hO5 := Lib.hid hO5
  generalize hB4 : w4.heap.size = B4 at *
  clear c4 b5 hs4 hB4
  have T5 := Lib.hid (show ∀ k, v5.ownBlock = some k → k < w5.heap.size from fun k hk => hO5.out.lt k hk)
  go_wp2_with fail
  refine (toGangS_calls gangs u _ (HT.out.ext c5) hn2).mono ?_
  rintro e w6 ⟨v6, rfl, hO6, b6⟩
  have c6 := ext_trans c5 b6
  have hO5 := Lib.hid (hO5.out.ext b6)
  have hs6 := Lib.hid (hs5.out.keep (b6.mono Z5.out))
  have T6 := Lib.hid (show ∀ k, v6.ownBlock = some k → k < w6.heap.size from fun k hk => hO6.lt k hk)
  have hO6 := Lib.hid hO6
  have Z56 := Lib.hid b6.size
  generalize hB5 : w5.heap.size = B5 at *
  clear b6 hs5 hB5 c5
  go_wp2_with fail
  refine (HIC.out _ _ _ (hO5.out.sl Row.c_len) (hO6.out.sl Gang.c_len)).mono ?_
  rintro e w7 ⟨v7, rfl, hO7, b7⟩
  have c7 := ext_trans c6 b7
  have hO5 := Lib.hid (hO5.out.ext b7)
  have hO6 := Lib.hid (hO6.out.ext b7)
  have hs7 := Lib.hid (hs6.out.keep (b7.mono (Nat.le_trans Z5.out Z56.out)))
  have hO7 := Lib.hid hO7
  have Z7 := Lib.hid b7.size
  generalize hB6 : w6.heap.size = B6 at *
  have ZZ := Lib.hid (show B4 ≤ B5 ∧ B5 ≤ B6 from ⟨Z5.out, Z56.out⟩)
  clear b7 hs6 hB6 c6
  go_wp2_with fail
  refine (eqInt64S_calls F.1 F.1 v7 s4 _ (hO7.out.sl i64c_len) (hs7.out.more (by have := ZZ.out; have := Z7.out; omega))).mono ?_
  rintro e w8 ⟨rfl, b8⟩
  have c8 := ext_trans c7 b8
  have hO5 := Lib.hid (hO5.out.ext b8)
  have hO6 := Lib.hid (hO6.out.ext b8)
  have hO7 := Lib.hid (hO7.out.ext b8)
  have hs8 := Lib.hid (hs7.out.keep (b8.mono (by have := ZZ.out; have := Z7.out; omega)))
  have Z8 := Lib.hid (Nat.le_trans Z7.out b8.size)
  have hd : decide (F.1 = F.1) = true := by simp
  rw [hd]
  clear b8 hs7 c7
  go_wp2_with fail
  refine (toRowS_calls rows v _ (HS.out.ext c8) hn1).mono ?_
  rintro e w9 ⟨v9, rfl, hO9, b9⟩
  have c9 := ext_trans c8 b9
  have hO5 := Lib.hid (hO5.out.ext b9)
  have hO6 := Lib.hid (hO6.out.ext b9)
  have hO7 := Lib.hid (hO7.out.ext b9)
  have hs9 := Lib.hid (hs8.out.keep (b9.mono (by have := ZZ.out; have := Z8.out; omega)))
  have Z9 := Lib.hid (Nat.le_trans Z8.out b9.size)
  clear c8 b9 hs8
  go_wp2_with fail
  refine (eqRowS_calls rows rows _ _ _ (hO5.out.sl Row.c_len) (hO9.sl Row.c_len)).mono ?_
  rintro e w10 ⟨rfl, b10⟩
  have c10 := ext_trans c9 b10
  have hO5 := Lib.hid (hO5.out.ext b10)
  have hO6 := Lib.hid (hO6.out.ext b10)
  have hO7 := Lib.hid (hO7.out.ext b10)
  have hs10 := Lib.hid (hs9.out.keep (b10.mono (by have := ZZ.out; have := Z9.out; omega)))
  have Z10 := Lib.hid (Nat.le_trans Z9.out b10.size)
  clear c9 b10 hO9 hs9
  rw [show decide (rows = rows) = true from by simp]
  go_wp2_with fail
  refine (toGangS_calls gangs u _ (HT.out.ext c10) hn2).mono ?_
  rintro e w11 ⟨v11, rfl, hO11, b11⟩
  have c11 := ext_trans c10 b11
  have hO5 := Lib.hid (hO5.out.ext b11)
  have hO6 := Lib.hid (hO6.out.ext b11)
  have hO7 := Lib.hid (hO7.out.ext b11)
  have hs11 := Lib.hid (hs10.out.keep (b11.mono (by have := ZZ.out; have := Z10.out; omega)))
  have Z11 := Lib.hid (Nat.le_trans Z10.out b11.size)
  clear c10 b11 hs10
  go_wp2_with fail
  refine (eqGangS_calls gangs gangs _ _ _ (hO6.out.sl Gang.c_len) (hO11.sl Gang.c_len)).mono ?_
  rintro e w12 ⟨rfl, b12⟩
  have c12 := ext_trans c11 b12
  have hO5 := Lib.hid (hO5.out.ext b12)
  have hO6 := Lib.hid (hO6.out.ext b12)
  have hO7 := Lib.hid (hO7.out.ext b12)
  have hs12 := Lib.hid (hs11.out.keep (b12.mono (by have := ZZ.out; have := Z11.out; omega)))
  have Z12 := Lib.hid (Nat.le_trans Z11.out b12.size)
  clear c11 b12 hO11 hs11
  rw [show decide (gangs = gangs) = true from by simp]
  go_wp2_with fail
  refine (markRowS_calls rows v5 _ B4 (by have := ZZ.out; have := Z12.out; omega) hO5.out 1 (by omega) (by omega) hn1).mono ?_
  rintro e w13 ⟨rfl, -, b13, g13⟩
  have c13 := c12.trans (b13.mono B5'.out)
  have hs13 := Lib.hid (hs12.out.keep b13)
  have hO6 := Lib.hid (hO6.out.oth g13 (fun k hk j hj => by have := T5.out k hk; have := hO6.out.base j hj; omega))
  have hO7 := Lib.hid (hO7.out.oth g13 (fun k hk j hj => by have := T5.out k hk; have := hO7.out.base j hj; have := ZZ.out; omega))
  have Z13 := Lib.hid (Nat.le_trans Z12.out b13.size)
  have k13 : (1 : Int) + 2 * rows.length ≤ 10000000 := by omega
  have k13' : (0 : Int) ≤ 1 + 2 * rows.length := by omega
  clear c12 b13 g13 hs12 hO5
  go_wp2_with fail
  refine (markGangS_calls gangs v6 _ B5 (by have := ZZ.out; have := Z13.out; omega) hO6.out (1 + 2 * rows.length) k13' k13 hn2).mono ?_
  rintro e w14 ⟨rfl, -, b14, g14⟩
  have c14 := c13.trans (b14.mono (by have := ZZ.out; have := B5'.out; omega))
  have hs14 := Lib.hid (hs13.out.keep (b14.mono ZZ.out.1))
  have hO7 := Lib.hid (hO7.out.oth g14 (fun k hk j hj => by have := T6.out k hk; have := hO7.out.base j hj; have := ZZ.out; omega))
  have Z14 := Lib.hid (Nat.le_trans Z13.out b14.size)
  have k14 : decide ((1 : Int) + 2 * rows.length + 5 * gangs.length < 0) = false := by rw [decide_eq_false_iff_not]; omega
  clear c13 b14 g14 hs13 hO6
  go_wp2_with fail
  refine (eqInt64S_calls F.1 F.1 v7 s4 _ (hO7.out.sl i64c_len) (hs14.out.more (by have := ZZ.out; have := Z14.out; omega))).mono ?_
  rintro e w15 ⟨rfl, b15⟩
  have c15 := ext_trans c14 b15
  have hO7 := Lib.hid (hO7.out.ext b15)
  have hs15 := Lib.hid (hs14.out.keep (b15.mono (by have := ZZ.out; have := Z14.out; omega)))
  have Z15 := Lib.hid (Nat.le_trans Z14.out b15.size)
  have hd : decide (F.1 = F.1) = true := by simp
  rw [hd]
  clear b15 hs14 c14
  go_wp2_with fail
  refine (markInt64S_calls F.1 v7 _ B6 Z15.out hO7.out 1 (by omega) (by omega) (by have := HL.out; omega)).mono ?_
  rintro e w16 ⟨rfl, hO8, b16⟩
  have c16 := c15.trans (b16.mono (by have := ZZ.out; have := B5'.out; omega))
  have hs16 := Lib.hid (hs15.out.keep (b16.mono (by have := ZZ.out; omega)))
  have Z16 := Lib.hid (Nat.le_trans Z15.out b16.size)
  have hO8 := Lib.hid hO8
  clear b16 hs15 c15 hO7
  have hmm : (1 : Int) + F.1.length = ((F.1.length + 1 : Nat) : Int) := by omega
  go_wp2_with fail
  refine (heldInt64S_calls F.1.length v7 _ 1 (hO8.out.sl i64c_len) (by omega) (by omega) (by have := HL.out; omega)).mono ?_
  rintro e w17 ⟨rfl, b17⟩
  have c17 := ext_trans c16 b17
  have hs17 := Lib.hid (hs16.out.keep (b17.mono (by have := ZZ.out; have := Z16.out; omega)))
  have hO8 := Lib.hid (hO8.out.ext b17)
  have Z17 := Lib.hid (Nat.le_trans Z16.out b17.size)
  have hl1 : decide ((1 : Int) + F.1.length < 0) = false := by rw [decide_eq_false_iff_not]; omega
  have hl2 : ((1 : Int) + F.1.length != 1 + F.1.length) = false := by simp
  clear b17 hs16 c16
  go_wp2_with fail
  refine (toRowS_calls rows v _ (HS.out.ext c17) hn1).mono ?_
  rintro e w18 ⟨v18, rfl, hO18, b18⟩
  have c18 := ext_trans c17 b18
  have hs18 := Lib.hid (hs17.out.keep (b18.mono (by have := ZZ.out; have := Z17.out; omega)))
  have hO8 := Lib.hid (hO8.out.ext b18)
  have Z18 := Lib.hid (Nat.le_trans Z17.out b18.size)
  clear b18 hs17 c17
  go_wp2_with fail
  refine (toGangS_calls gangs u _ (HT.out.ext c18) hn2).mono ?_
  rintro e w19 ⟨v19, rfl, hO19, b19⟩
  have c19 := ext_trans c18 b19
  have hs19 := Lib.hid (hs18.out.keep (b19.mono (by have := ZZ.out; have := Z18.out; omega)))
  have hO8 := Lib.hid (hO8.out.ext b19)
  have hO18 := hO18.ext b19
  have Z19 := Lib.hid (Nat.le_trans Z18.out b19.size)
  clear b19 hs18 c18
  go_wp2_with fail
  refine (HIC.out _ _ _ (hO18.sl Row.c_len) (hO19.sl Gang.c_len)).mono ?_
  rintro e w20 ⟨v20, rfl, hO20, b20⟩
  have c20 := ext_trans c19 b20
  have hs20 := Lib.hid (hs19.out.keep (b20.mono (by have := ZZ.out; have := Z19.out; omega)))
  have hO8 := Lib.hid (hO8.out.ext b20)
  have Z20 := Lib.hid (Nat.le_trans Z19.out b20.size)
  have hO20 := Lib.hid hO20
  clear b20 hs19 c19 hO18 hO19
  go_wp2_with fail
  refine (eqInt64S_calls F.1 F.1 v20 s4 _ (hO20.out.sl i64c_len) (hs20.out.more (by have := ZZ.out; have := Z20.out; omega))).mono ?_
  rintro e w21 ⟨rfl, b21⟩
  have c21 := ext_trans c20 b21
  have hO8 := Lib.hid (hO8.out.ext b21)
  have hd : decide (F.1 = F.1) = true := by simp
  rw [hd]
  clear b21 hs20 c20 hO20
  go_wp2_with fail
  refine (heldInt64S_calls F.1.length v7 _ 1 (hO8.out.sl i64c_len) (by omega) (by omega) (by have := HL.out; omega)).mono ?_
  rintro e w22 ⟨rfl, b22⟩
  have c22 := ext_trans c21 b22
  go_wp2_with fail
  go_ret
  exact ⟨rfl, c22⟩
end Go.Proofs.Ytkkkgpeilpfddaa
