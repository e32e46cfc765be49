/-
The walk of FnMortar: for all bytes it answers true. No condition but that its arguments can be read.
-/
import Derived.Test.YtgifakacnneleaaG3
import Derived.Test.YtgifakacnneleaaG6
import Derived.Test.YtgifakacnneleaaMO1
import Derived.Test.YtgifakacnneleaaMTL
import Derived.Test.YtgifakacnneleaaOpn
set_option linter.unusedVariables false
set_option linter.unusedSimpArgs false
set_option maxRecDepth 100000
namespace Go.Proofs.Ytgifakacnneleaa
open Go.RowKit
theorem bag_facts (x : Int) (h0 : 0 ≤ x) (h1 : x ≤ 10000) : 0 ≤ bagOf x 9 ∧ bagOf x 9 ≤ 15000 ∧ x ≤ bagOf x 9 * 9 ∧ (bagOf x 9 - 1) * 9 < x := by
  have := bagOf_bounds x 9 h0 h1 (by omega) (by omega)
  refine ⟨this.1, this.2, ?_, ?_⟩ <;> (unfold bagOf at *; omega)
theorem prod_bound (n x : Int) (hn : 0 ≤ n ∧ n ≤ 256) (h0 : 0 ≤ x) (h1 : x ≤ 7) : 0 ≤ n * x ∧ n * x ≤ 2000 := by
  refine ⟨Int.mul_nonneg hn.1 h0, ?_⟩
  have : n * x ≤ 256 * 7 := Int.mul_le_mul hn.2 h1 h0 (by omega)
  omega
theorem eqMix_self (F : Mix) (w : World) : (Op.equalIn 10000 24 (.agg #[.int .i16 F.x, .int .i16 F.y, .int .i16 F.z]) (.agg #[.int .i16 F.x, .int .i16 F.y, .int .i16 F.z])).run Try.prog w = .ok true w := by
  obtain ⟨i, hi⟩ : ∃ i, Try.prog.info? 22 = some i := Option.isSome_iff_exists.1 (by kernel_rfl)
  rw [run_equalIn_array w 9999 _ _ Try.underlying24 hi]
  have hc : Try.prog.cellsOf 22 = 1 := by kernel_rfl
  have hu := Try.underlying22
  rw [hc]
  simp only [List.range, List.range.loop, Op.eqItems]
  go_simp
theorem round_facts {v lo re g : Int} (hp : (v = lo ∨ v = lo + 1) ∧ (re = 0 → v = lo)) (hg : 0 ≤ g ∧ g ≤ 15000 ∧ v ≤ g * 9 ∧ (g - 1) * 9 < v) (hv0 : 0 ≤ v) (hv1 : v ≤ 10000) :
    decide (v < lo) = false ∧ decide (lo + 1 < v) = false ∧ decide (g * 9 < v) = false ∧ decide (v ≤ (g - 1) * 9) = false ∧ (-1 ≤ lo ∧ lo ≤ 10000) ∧ (0 ≤ v ∧ v ≤ 10000) ∧ (0 ≤ g ∧ g ≤ 15000) ∧ (((re == 0) = true ∧ (v != lo) = false) ∨ (re == 0) = false) := by
  refine ⟨decide_eq_false (by omega), decide_eq_false (by omega), decide_eq_false (by omega), decide_eq_false (by omega), by omega, by omega, by omega, ?_⟩
  by_cases h : re = 0
  · exact .inl ⟨by simp [h], by simp [hp.2 h]⟩
  · exact .inr (by simp [h])
set_option maxHeartbeats 40000000 in
theorem law_FnMortar (W : World) (q0 : List Int) (v0 : Value) (s0 : Sl W W.heap.size u8c 1 v0 q0) (k0 : ∀ q ∈ q0, 0 ≤ q ∧ q ≤ 255) (q1 : List Int) (v1 : Value) (s1 : Sl W W.heap.size u8c 1 v1 q1) (k1 : ∀ q ∈ q1, 0 ≤ q ∧ q ≤ 255) :
    Calls Try.prog 7 #[v0, v1] W fun e w' => e = .returned (.bool true) ∧ Below W.heap.size W w' := by
  obtain ⟨A0, cap0, rfl, -, -, -⟩ := s0.u8
  obtain ⟨A1, cap1, rfl, -, -, -⟩ := s1.u8
  have Q0 := Lib.hid (⟨s0, k0⟩ : Bys W W.heap.size _ q0)
  have Q1 := Lib.hid (⟨s1, k1⟩ : Bys W W.heap.size _ q1)
  have qL := Lib.hid (a2Long_calls _ _ q0 q1 _ _ W s0 s1)
  clear s0 s1 k0 k1
  go_enter Try.func7, Try.ntmps7
  go_wp2_with fail
  refine qL.out.mono ?_
  rintro e w' ⟨rfl, rfl⟩
  clear qL
  cases hL : (decide (3000 < q0.length) || decide (3000 < q1.length))
  case true =>
    go_wp2_with fail
    go_ret
    exact ⟨rfl, Below.refl _ _⟩
  clear hL
  go_wp2_with fail
  refine (a2Mix_calls _ q0 W Q0.out).mono ?_
  rintro e w1 ⟨m, rfl, hx, hy, hz, hs, hb⟩
  have hv := Lib.hid (show vMixS m = true from by simp [vMixS, inB]; omega)
  have hmo := Lib.hid (show m.ok from ⟨by omega, by omega, by omega, by omega, by omega, by omega⟩)
  unfold Mix.v
  have HB := Lib.hid hb
  clear hb
  have KM := Lib.hid (Bk.new w1 24 #[.int .i16 m.x, .int .i16 m.y, .int .i16 m.z] w1.heap.size rfl)
  replace HB := Lib.hid (HB.out.alloc HB.out.size (.cells #[.int .i16 m.x, .int .i16 m.y, .int .i16 m.z] 24))
  skip
  go_upto_region 4 with (fail)
  generalize w1.alloc (.cells #[.int .i16 m.x, .int .i16 m.y, .int .i16 m.z] 24) = uM at *
  go_wp2_with fail
  have Q1b := Lib.hid (⟨Q1.out.sl.ext HB.out, Q1.out.ok⟩ : Bys uM uM.heap.size _ q1)
  refine (a2Stock_calls _ q1 uM Q1b.out).mono ?_
  rintro e w2 ⟨s, rfl, sx, sy, sz, hb⟩
  clear Q1b
  have hvs := Lib.hid (show vStock s = true from by simp [vStock, inB]; omega)
  have hso := Lib.hid (show s.ok from ⟨by omega, by omega, by omega, by omega, by omega, by omega⟩)
  unfold Mix.v
  replace HB := Lib.hid (ext_trans HB.out hb)
  replace KM := Lib.hid (KM.out.ext hb)
  clear hb
  have KS := Lib.hid (Bk.new w2 24 #[.int .i16 s.x, .int .i16 s.y, .int .i16 s.z] w2.heap.size rfl)
  replace HB := Lib.hid (HB.out.alloc HB.out.size (.cells #[.int .i16 s.x, .int .i16 s.y, .int .i16 s.z] 24))
  replace KM := Lib.hid (KM.out.alloc (.cells #[.int .i16 s.x, .int .i16 s.y, .int .i16 s.z] 24))
  skip
  go_upto_region 5 with (fail)
  generalize w2.alloc (.cells #[.int .i16 s.x, .int .i16 s.y, .int .i16 s.z] 24) = uS at *
  go_wp2_with fail
  have Q1b := Lib.hid (⟨Q1.out.sl.ext HB.out, Q1.out.ok⟩ : Bys uS uS.heap.size _ q1)
  refine (a2At_calls _ q1 _ uS Q1b.out 0 256 (by omega) (by omega) (by omega)).mono ?_
  rintro e w3 ⟨n, hn, rfl, rfl⟩
  clear Q1b
  have hmf := Lib.hid (show mixFor m (n : Int) = (forA m n, 0) from by rw [mixFor, if_pos hv.out, if_pos (inB_true.2 (by omega))])
  have hpt := Lib.hid (forA_parts m hv.out n (by omega))
  have hnn := Lib.hid (forA_nonneg m hv.out n (by omega))
  have hms := Lib.hid (show mostFrom m s = (mostA m s, 0) from by rw [mostFrom, if_pos hv.out, if_pos hvs.out])
  have hmost := Lib.hid (mostA_facts m s hv.out ⟨sx, sy, sz⟩)
  have hbg := Lib.hid (Bagged.make (bag := 9) hv.out (n := n) (by omega) (by omega) (by omega) (by omega))
  have hbf := Lib.hid (show bagsFor m (n : Int) 9 = (bagL (forA m n) 9, (bagL (forA m n) 9).sum, 0) from by rw [bagsFor, hmf.out, if_pos rfl, if_pos (inB_true.2 (by omega))])
  have hmG := Lib.hid (show mixFor m (mostA m s) = (forA m (mostA m s), 0) from by rw [mixFor, if_pos hv.out, if_pos (inB_true.2 (by have := hmost.out; omega))])
  have hmH := Lib.hid (show mixFor m (mostA m s + 1) = (forA m (mostA m s + 1), 0) from by rw [mixFor, if_pos hv.out, if_pos (inB_true.2 (by have := hmost.out; omega))])
  obtain ⟨F, hF⟩ : ∃ F, forA m n = F := ⟨_, rfl⟩
  obtain ⟨K, hK⟩ : ∃ K, mostA m s = K := ⟨_, rfl⟩
  rw [hF] at hmf hpt hnn hbg hbf
  rw [hK] at hms hmost hmG hmH
  obtain ⟨G, hG⟩ : ∃ G, forA m K = G := ⟨_, rfl⟩
  obtain ⟨H, hH⟩ : ∃ H, forA m (K + 1) = H := ⟨_, rfl⟩
  rw [hG] at hmG hmost
  rw [hH] at hmH hmost
  have hK2 := Lib.hid hK
  clear hF hK hG hH
  have cM0 : uS.cell? ⟨w1.heap.size, 0, none⟩ = some (.int .i16 m.x) := KM.out.cell 0 _ rfl
  have cM1 : uS.cell? ⟨w1.heap.size, 1, none⟩ = some (.int .i16 m.y) := KM.out.cell 1 _ rfl
  have cM2 : uS.cell? ⟨w1.heap.size, 2, none⟩ = some (.int .i16 m.z) := KM.out.cell 2 _ rfl
  go_wp2_with fail
  have q := Lib.hid (implMixFor_calls m hmo.out n uS)
  rw [hmf.out] at q
  unfold Mix.v at q
  refine q.out.mono ?_
  rintro e w4 ⟨rfl, hb⟩
  clear q
  clear cM0 cM1 cM2
  replace HB := Lib.hid (ext_trans HB.out hb)
  replace KM := Lib.hid (KM.out.ext hb)
  replace KS := Lib.hid (KS.out.ext hb)
  clear hb
  have KN := Lib.hid (Bk.new w4 24 #[.int .i16 F.x, .int .i16 F.y, .int .i16 F.z] w4.heap.size rfl)
  replace HB := Lib.hid (HB.out.alloc HB.out.size (.cells #[.int .i16 F.x, .int .i16 F.y, .int .i16 F.z] 24))
  replace KM := Lib.hid (KM.out.alloc (.cells #[.int .i16 F.x, .int .i16 F.y, .int .i16 F.z] 24))
  replace KS := Lib.hid (KS.out.alloc (.cells #[.int .i16 F.x, .int .i16 F.y, .int .i16 F.z] 24))
  skip
  go_upto_region 7 with (fail)
  generalize w4.alloc (.cells #[.int .i16 F.x, .int .i16 F.y, .int .i16 F.z] 24) = uN at *
  have cM0 : uN.cell? ⟨w1.heap.size, 0, none⟩ = some (.int .i16 m.x) := KM.out.cell 0 _ rfl
  have cM1 : uN.cell? ⟨w1.heap.size, 1, none⟩ = some (.int .i16 m.y) := KM.out.cell 1 _ rfl
  have cM2 : uN.cell? ⟨w1.heap.size, 2, none⟩ = some (.int .i16 m.z) := KM.out.cell 2 _ rfl
  go_wp2_with fail
  have q := Lib.hid (specMixFor_calls m hmo.out n uN)
  rw [hmf.out] at q
  unfold Mix.v at q
  refine q.out.mono ?_
  rintro e w5 ⟨rfl, hb⟩
  clear q
  clear cM0 cM1 cM2
  replace HB := Lib.hid (ext_trans HB.out hb)
  replace KM := Lib.hid (KM.out.ext hb)
  replace KS := Lib.hid (KS.out.ext hb)
  replace KN := Lib.hid (KN.out.ext hb)
  clear hb
  have KD := Lib.hid (Bk.new w5 24 #[.int .i16 F.x, .int .i16 F.y, .int .i16 F.z] w5.heap.size rfl)
  replace HB := Lib.hid (HB.out.alloc HB.out.size (.cells #[.int .i16 F.x, .int .i16 F.y, .int .i16 F.z] 24))
  replace KM := Lib.hid (KM.out.alloc (.cells #[.int .i16 F.x, .int .i16 F.y, .int .i16 F.z] 24))
  replace KS := Lib.hid (KS.out.alloc (.cells #[.int .i16 F.x, .int .i16 F.y, .int .i16 F.z] 24))
  replace KN := Lib.hid (KN.out.alloc (.cells #[.int .i16 F.x, .int .i16 F.y, .int .i16 F.z] 24))
  skip
  go_upto_region 8 with (fail)
  generalize w5.alloc (.cells #[.int .i16 F.x, .int .i16 F.y, .int .i16 F.z] 24) = uD at *
  have cM0 : uD.cell? ⟨w1.heap.size, 0, none⟩ = some (.int .i16 m.x) := KM.out.cell 0 _ rfl
  have cM1 : uD.cell? ⟨w1.heap.size, 1, none⟩ = some (.int .i16 m.y) := KM.out.cell 1 _ rfl
  have cM2 : uD.cell? ⟨w1.heap.size, 2, none⟩ = some (.int .i16 m.z) := KM.out.cell 2 _ rfl
  have cS0 : uD.cell? ⟨w2.heap.size, 0, none⟩ = some (.int .i16 s.x) := KS.out.cell 0 _ rfl
  have cS1 : uD.cell? ⟨w2.heap.size, 1, none⟩ = some (.int .i16 s.y) := KS.out.cell 1 _ rfl
  have cS2 : uD.cell? ⟨w2.heap.size, 2, none⟩ = some (.int .i16 s.z) := KS.out.cell 2 _ rfl
  go_wp2_with fail
  have q := Lib.hid (implMostFrom_calls m hmo.out s hso.out uD)
  rw [hms.out] at q
  unfold Mix.v at q
  refine q.out.mono ?_
  rintro e w6 ⟨rfl, hb⟩
  clear q
  clear cM0 cM1 cM2 cS0 cS1 cS2
  replace HB := Lib.hid (ext_trans HB.out hb)
  replace KM := Lib.hid (KM.out.ext hb)
  replace KS := Lib.hid (KS.out.ext hb)
  replace KN := Lib.hid (KN.out.ext hb)
  replace KD := Lib.hid (KD.out.ext hb)
  clear hb
  have cM0 : w6.cell? ⟨w1.heap.size, 0, none⟩ = some (.int .i16 m.x) := KM.out.cell 0 _ rfl
  have cM1 : w6.cell? ⟨w1.heap.size, 1, none⟩ = some (.int .i16 m.y) := KM.out.cell 1 _ rfl
  have cM2 : w6.cell? ⟨w1.heap.size, 2, none⟩ = some (.int .i16 m.z) := KM.out.cell 2 _ rfl
  have cS0 : w6.cell? ⟨w2.heap.size, 0, none⟩ = some (.int .i16 s.x) := KS.out.cell 0 _ rfl
  have cS1 : w6.cell? ⟨w2.heap.size, 1, none⟩ = some (.int .i16 s.y) := KS.out.cell 1 _ rfl
  have cS2 : w6.cell? ⟨w2.heap.size, 2, none⟩ = some (.int .i16 s.z) := KS.out.cell 2 _ rfl
  go_wp2_with fail
  have q := Lib.hid (specMostFrom_calls m hmo.out s hso.out w6)
  rw [hms.out] at q
  unfold Mix.v at q
  refine q.out.mono ?_
  rintro e w7 ⟨rfl, hb⟩
  clear q
  clear cM0 cM1 cM2 cS0 cS1 cS2
  replace HB := Lib.hid (ext_trans HB.out hb)
  replace KM := Lib.hid (KM.out.ext hb)
  replace KS := Lib.hid (KS.out.ext hb)
  replace KN := Lib.hid (KN.out.ext hb)
  replace KD := Lib.hid (KD.out.ext hb)
  clear hb
  have cM0 : w7.cell? ⟨w1.heap.size, 0, none⟩ = some (.int .i16 m.x) := KM.out.cell 0 _ rfl
  have cM1 : w7.cell? ⟨w1.heap.size, 1, none⟩ = some (.int .i16 m.y) := KM.out.cell 1 _ rfl
  have cM2 : w7.cell? ⟨w1.heap.size, 2, none⟩ = some (.int .i16 m.z) := KM.out.cell 2 _ rfl
  go_wp2_with fail
  have q := Lib.hid (implBagsFor_calls m hmo.out n 9 w7)
  rw [hbf.out] at q
  unfold Mix.v at q
  refine q.out.mono ?_
  rintro e w8 ⟨x, rfl, hO, hb⟩
  clear q
  have Ox := Lib.hid hO
  clear hO
  clear cM0 cM1 cM2
  replace HB := Lib.hid (ext_trans HB.out hb)
  replace KM := Lib.hid (KM.out.ext hb)
  replace KS := Lib.hid (KS.out.ext hb)
  replace KN := Lib.hid (KN.out.ext hb)
  replace KD := Lib.hid (KD.out.ext hb)
  clear hb
  have cM0 : w8.cell? ⟨w1.heap.size, 0, none⟩ = some (.int .i16 m.x) := KM.out.cell 0 _ rfl
  have cM1 : w8.cell? ⟨w1.heap.size, 1, none⟩ = some (.int .i16 m.y) := KM.out.cell 1 _ rfl
  have cM2 : w8.cell? ⟨w1.heap.size, 2, none⟩ = some (.int .i16 m.z) := KM.out.cell 2 _ rfl
  go_wp2_with fail
  have q := Lib.hid (specBagsFor_calls m hmo.out n 9 w8)
  rw [hbf.out] at q
  unfold Mix.v at q
  refine q.out.mono ?_
  rintro e w9 ⟨y, rfl, hO, hb⟩
  clear q
  have Oy := Lib.hid hO
  clear hO
  clear cM0 cM1 cM2
  replace HB := Lib.hid (ext_trans HB.out hb)
  replace KM := Lib.hid (KM.out.ext hb)
  replace KS := Lib.hid (KS.out.ext hb)
  replace KN := Lib.hid (KN.out.ext hb)
  replace KD := Lib.hid (KD.out.ext hb)
  replace Ox := Lib.hid (Ox.out.ext hb)
  clear hb
  obtain ⟨Ax, cx, rfl, -, -, -⟩ := (Ox.out.sl i64c_len).i64
  obtain ⟨Ay, cy, rfl, -, -, hcy⟩ := (Oy.out.sl i64c_len).i64
  rw [show (bagL F 9).length = 3 from rfl] at *
  have cM0 : w9.cell? ⟨w1.heap.size, 0, none⟩ = some (.int .i16 m.x) := KM.out.cell 0 _ rfl
  have cM1 : w9.cell? ⟨w1.heap.size, 1, none⟩ = some (.int .i16 m.y) := KM.out.cell 1 _ rfl
  have cM2 : w9.cell? ⟨w1.heap.size, 2, none⟩ = some (.int .i16 m.z) := KM.out.cell 2 _ rfl
  have cN0 : w9.cell? ⟨w4.heap.size, 0, none⟩ = some (.int .i16 F.x) := KN.out.cell 0 _ rfl
  have cN1 : w9.cell? ⟨w4.heap.size, 1, none⟩ = some (.int .i16 F.y) := KN.out.cell 1 _ rfl
  have cN2 : w9.cell? ⟨w4.heap.size, 2, none⟩ = some (.int .i16 F.z) := KN.out.cell 2 _ rfl
  have cD0 : w9.cell? ⟨w5.heap.size, 0, none⟩ = some (.int .i16 F.x) := KD.out.cell 0 _ rfl
  have cD1 : w9.cell? ⟨w5.heap.size, 1, none⟩ = some (.int .i16 F.y) := KD.out.cell 1 _ rfl
  have cD2 : w9.cell? ⟨w5.heap.size, 2, none⟩ = some (.int .i16 F.z) := KD.out.cell 2 _ rfl
  have mpos : 1 ≤ m.x + m.y + m.z := hs
  have hfs := hpt.out.2.2.2
  have hfn := hnn.out
  have fsum : (F.x + F.y + F.z != (n : Int)) = false := by rw [hfs]; simp
  have hfx := (hbg.out.x0)
  have hfy := (hbg.out.y0)
  have hfz := (hbg.out.z0)
  clear hfs
  have heqF : ∀ w, (Op.equalIn 10000 24 (.agg #[.int .i16 F.x, .int .i16 F.y, .int .i16 F.z]) (.agg #[.int .i16 F.x, .int .i16 F.y, .int .i16 F.z])).run Try.prog w = .ok true w := fun w => eqMix_self F w
  go_wp2_with fail
  have q := Lib.hid (implValidMix_calls m hmo.out w9)
  rw [show vMixI m = true from (vMix_eq m).trans hv.out] at q
  unfold Mix.v at q
  refine q.out.mono ?_
  rintro e w10 ⟨rfl, hb⟩
  clear q
  clear cM0 cM1 cM2 cN0 cN1 cN2 cD0 cD1 cD2
  replace HB := Lib.hid (ext_trans HB.out hb)
  replace KM := Lib.hid (KM.out.ext hb)
  replace KS := Lib.hid (KS.out.ext hb)
  replace KN := Lib.hid (KN.out.ext hb)
  replace KD := Lib.hid (KD.out.ext hb)
  replace Ox := Lib.hid (Ox.out.ext hb)
  replace Oy := Lib.hid (Oy.out.ext hb)
  clear hb
  have cM0 : w10.cell? ⟨w1.heap.size, 0, none⟩ = some (.int .i16 m.x) := KM.out.cell 0 _ rfl
  have cM1 : w10.cell? ⟨w1.heap.size, 1, none⟩ = some (.int .i16 m.y) := KM.out.cell 1 _ rfl
  have cM2 : w10.cell? ⟨w1.heap.size, 2, none⟩ = some (.int .i16 m.z) := KM.out.cell 2 _ rfl
  have cN0 : w10.cell? ⟨w4.heap.size, 0, none⟩ = some (.int .i16 F.x) := KN.out.cell 0 _ rfl
  have cN1 : w10.cell? ⟨w4.heap.size, 1, none⟩ = some (.int .i16 F.y) := KN.out.cell 1 _ rfl
  have cN2 : w10.cell? ⟨w4.heap.size, 2, none⟩ = some (.int .i16 F.z) := KN.out.cell 2 _ rfl
  have cD0 : w10.cell? ⟨w5.heap.size, 0, none⟩ = some (.int .i16 F.x) := KD.out.cell 0 _ rfl
  have cD1 : w10.cell? ⟨w5.heap.size, 1, none⟩ = some (.int .i16 F.y) := KD.out.cell 1 _ rfl
  have cD2 : w10.cell? ⟨w5.heap.size, 2, none⟩ = some (.int .i16 F.z) := KD.out.cell 2 _ rfl
  go_wp2_with fail
  have q := Lib.hid (a2Same_calls _ _ _ _ _ w10 (Ox.out.sl i64c_len) (Oy.out.sl i64c_len))
  refine q.out.mono ?_
  rintro e w11 ⟨rfl, md, rfl⟩
  clear q hcy
  have hb : Below w10.heap.size w10 (w10.drewN md) := ext_drewN (Below.refl _ _) md
  clear cM0 cM1 cM2 cN0 cN1 cN2 cD0 cD1 cD2
  replace HB := Lib.hid (ext_trans HB.out hb)
  replace KM := Lib.hid (KM.out.ext hb)
  replace KS := Lib.hid (KS.out.ext hb)
  replace KN := Lib.hid (KN.out.ext hb)
  replace KD := Lib.hid (KD.out.ext hb)
  replace Ox := Lib.hid (Ox.out.ext hb)
  replace Oy := Lib.hid (Oy.out.ext hb)
  clear hb
  generalize w10.drewN md = w11 at *
  have cM0 : w11.cell? ⟨w1.heap.size, 0, none⟩ = some (.int .i16 m.x) := KM.out.cell 0 _ rfl
  have cM1 : w11.cell? ⟨w1.heap.size, 1, none⟩ = some (.int .i16 m.y) := KM.out.cell 1 _ rfl
  have cM2 : w11.cell? ⟨w1.heap.size, 2, none⟩ = some (.int .i16 m.z) := KM.out.cell 2 _ rfl
  have cN0 : w11.cell? ⟨w4.heap.size, 0, none⟩ = some (.int .i16 F.x) := KN.out.cell 0 _ rfl
  have cN1 : w11.cell? ⟨w4.heap.size, 1, none⟩ = some (.int .i16 F.y) := KN.out.cell 1 _ rfl
  have cN2 : w11.cell? ⟨w4.heap.size, 2, none⟩ = some (.int .i16 F.z) := KN.out.cell 2 _ rfl
  have cD0 : w11.cell? ⟨w5.heap.size, 0, none⟩ = some (.int .i16 F.x) := KD.out.cell 0 _ rfl
  have cD1 : w11.cell? ⟨w5.heap.size, 1, none⟩ = some (.int .i16 F.y) := KD.out.cell 1 _ rfl
  have cD2 : w11.cell? ⟨w5.heap.size, 2, none⟩ = some (.int .i16 F.z) := KD.out.cell 2 _ rfl
  obtain ⟨Ay2, cy2, hv2, -, -, hcy⟩ := (Oy.out.sl i64c_len).i64
  obtain ⟨rfl, rfl⟩ : Ay = Ay2 ∧ cy = cy2 := by injection hv2 with e1 e2 e3; exact ⟨e1, e3⟩
  clear hv2
  obtain ⟨by_, oy, rfl, -, y0⟩ := hcy 0 (show 0 < 3 from by omega)
  obtain ⟨by2, oy2, hbe, -, y1⟩ := hcy 1 (show 1 < 3 from by omega)
  obtain ⟨by3, oy3, hbe2, -, y2⟩ := hcy 2 (show 2 < 3 from by omega)
  obtain ⟨rfl, rfl⟩ : by_ = by2 ∧ oy = oy2 := by injection hbe with e; injection e with e1 e2; exact ⟨e1, e2⟩
  obtain ⟨rfl, rfl⟩ : by_ = by3 ∧ oy = oy3 := by injection hbe2 with e; injection e with e1 e2; exact ⟨e1, e2⟩
  clear hbe hbe2 hcy
  have hg0 := bag_facts F.x (by omega) (by omega)
  have hg1 := bag_facts F.y (by omega) (by omega)
  have hg2 := bag_facts F.z (by omega) (by omega)
  replace y0 : w11.cell? ⟨by_, oy, none⟩ = some (.int .i64 (bagOf F.x 9)) := y0
  replace y1 : w11.cell? ⟨by_, oy + 1, none⟩ = some (.int .i64 (bagOf F.y 9)) := y1
  replace y2 : w11.cell? ⟨by_, oy + 2, none⟩ = some (.int .i64 (bagOf F.z 9)) := y2
  have hsum9 : (bagL F 9).sum = bagOf F.x 9 + bagOf F.y 9 + bagOf F.z 9 := by simp [bagL]; omega
  rw [hsum9]
  have hp0 := hpt.out.1
  have hp1 := hpt.out.2.1
  have hp2 := hpt.out.2.2.1
  unfold partOk at hp0 hp1 hp2
  rw [show m.sum = m.x + m.y + m.z from rfl] at hp0 hp1 hp2
  have en0 := prod_bound n m.x (by omega) (by omega) (by omega)
  have en1 := prod_bound n m.y (by omega) (by omega) (by omega)
  have en2 := prod_bound n m.z (by omega) (by omega) (by omega)
  generalize bagOf F.x 9 = g0 at *
  generalize bagOf F.y 9 = g1 at *
  generalize bagOf F.z 9 = g2 at *
  obtain ⟨lo0, hlo0⟩ : ∃ q, (n : Int) * m.x / (m.x + m.y + m.z) = q := ⟨_, rfl⟩
  obtain ⟨lo1, hlo1⟩ : ∃ q, (n : Int) * m.y / (m.x + m.y + m.z) = q := ⟨_, rfl⟩
  obtain ⟨lo2, hlo2⟩ : ∃ q, (n : Int) * m.z / (m.x + m.y + m.z) = q := ⟨_, rfl⟩
  obtain ⟨re0, hre0⟩ : ∃ q, (n : Int) * m.x % (m.x + m.y + m.z) = q := ⟨_, rfl⟩
  obtain ⟨re1, hre1⟩ : ∃ q, (n : Int) * m.y % (m.x + m.y + m.z) = q := ⟨_, rfl⟩
  obtain ⟨re2, hre2⟩ : ∃ q, (n : Int) * m.z % (m.x + m.y + m.z) = q := ⟨_, rfl⟩
  rw [hlo0, hre0] at hp0
  rw [hlo1, hre1] at hp1
  rw [hlo2, hre2] at hp2
  clear heqF
  go_wp2_with fail
  clear fsum mpos
  replace hp0 := Lib.hid (round_facts hp0 hg0 hfn.1 hfx.2)
  replace hp1 := Lib.hid (round_facts hp1 hg1 hfn.2.1 hfy.2)
  replace hp2 := Lib.hid (round_facts hp2 hg2 hfn.2.2 hfz.2)
  have hS := Lib.hid (show (1 : Int) ≤ m.x + m.y + m.z ∧ m.x + m.y + m.z ≤ 21 from by omega)
  have hg012 := Lib.hid (show (0 ≤ g0 ∧ g0 ≤ 15000) ∧ (0 ≤ g1 ∧ g1 ≤ 15000) ∧ (0 ≤ g2 ∧ g2 ≤ 15000) from by omega)
  replace en0 := Lib.hid en0
  replace en1 := Lib.hid en1
  replace en2 := Lib.hid en2
  replace hx := Lib.hid hx
  replace hy := Lib.hid hy
  replace hz := Lib.hid hz
  replace sx := Lib.hid sx
  replace sy := Lib.hid sy
  replace sz := Lib.hid sz
  replace hs := Lib.hid hs
  replace hn := Lib.hid hn
  clear hsum9 hfn hfx hfy hfz hg0 hg1 hg2
  go_loop [23, 24] (fun sm i => (i = .int .i64 0 ∧ sm = .int .i64 0) ∨ (i = .int .i64 1 ∧ sm = .int .i64 g0) ∨ (i = .int .i64 2 ∧ sm = .int .i64 (g0 + g1)) ∨ (i = .int .i64 3 ∧ sm = .int .i64 (g0 + g1 + g2))) (fun _ i => 3 - (intOf i).toNat)
  case atStart => exact .inl ⟨rfl, rfl⟩
  case round =>
    rcases hrel with ⟨rfl, rfl⟩ | ⟨rfl, rfl⟩ | ⟨rfl, rfl⟩ | ⟨rfl, rfl⟩
    · obtain ⟨f0, f1⟩ := hS.out
      obtain ⟨x0, x1⟩ := hx.out
      obtain ⟨e0, e1⟩ := en0.out
      obtain ⟨⟨a0, a1⟩, ⟨b0, b1⟩, ⟨c0, c1⟩⟩ := hg012.out
      obtain ⟨d1, d2, d5, d6, r0, r1, r2, hcase⟩ := hp0.out
      clear hlo1 hlo2 hre1 hre2 cD1 cM1 y1 cD2 cM2 y2
      rcases hcase with ⟨hrb, hne⟩ | hrb
      · as_aux_lemma =>
          go_wp2_with fail
          go_round
          case rel => first | exact .inr (.inl ⟨rfl, rfl⟩) | exact ⟨_, _, _, .inr (.inl ⟨rfl, rfl⟩), rfl, rfl, rfl⟩
          case measure => simp [intOf]
      · as_aux_lemma =>
          go_wp2_with fail
          go_round
          case rel => first | exact .inr (.inl ⟨rfl, rfl⟩) | exact ⟨_, _, _, .inr (.inl ⟨rfl, rfl⟩), rfl, rfl, rfl⟩
          case measure => simp [intOf]
    · obtain ⟨f0, f1⟩ := hS.out
      obtain ⟨x0, x1⟩ := hy.out
      obtain ⟨e0, e1⟩ := en1.out
      obtain ⟨⟨a0, a1⟩, ⟨b0, b1⟩, ⟨c0, c1⟩⟩ := hg012.out
      obtain ⟨d1, d2, d5, d6, r0, r1, r2, hcase⟩ := hp1.out
      clear hlo0 hlo2 hre0 hre2 cD0 cM0 y0 cD2 cM2 y2
      rcases hcase with ⟨hrb, hne⟩ | hrb
      · as_aux_lemma =>
          go_wp2_with fail
          go_round
          case rel => first | exact .inr (.inr (.inl ⟨rfl, rfl⟩)) | exact ⟨_, _, _, .inr (.inr (.inl ⟨rfl, rfl⟩)), rfl, rfl, rfl⟩
          case measure => simp [intOf]
      · as_aux_lemma =>
          go_wp2_with fail
          go_round
          case rel => first | exact .inr (.inr (.inl ⟨rfl, rfl⟩)) | exact ⟨_, _, _, .inr (.inr (.inl ⟨rfl, rfl⟩)), rfl, rfl, rfl⟩
          case measure => simp [intOf]
    · obtain ⟨f0, f1⟩ := hS.out
      obtain ⟨x0, x1⟩ := hz.out
      obtain ⟨e0, e1⟩ := en2.out
      obtain ⟨⟨a0, a1⟩, ⟨b0, b1⟩, ⟨c0, c1⟩⟩ := hg012.out
      obtain ⟨d1, d2, d5, d6, r0, r1, r2, hcase⟩ := hp2.out
      clear hlo0 hlo1 hre0 hre1 cD0 cM0 y0 cD1 cM1 y1
      rcases hcase with ⟨hrb, hne⟩ | hrb
      · as_aux_lemma =>
          go_wp2_with fail
          go_round
          case rel => first | exact .inr (.inr (.inr ⟨rfl, rfl⟩)) | exact ⟨_, _, _, .inr (.inr (.inr ⟨rfl, rfl⟩)), rfl, rfl, rfl⟩
          case measure => simp [intOf]
      · as_aux_lemma =>
          go_wp2_with fail
          go_round
          case rel => first | exact .inr (.inr (.inr ⟨rfl, rfl⟩)) | exact ⟨_, _, _, .inr (.inr (.inr ⟨rfl, rfl⟩)), rfl, rfl, rfl⟩
          case measure => simp [intOf]
    · clear hlo0 hlo1 hlo2 hre0 hre1 hre2 hp0 hp1 hp2 en0 en1 en2 y0 y1 y2 cM0 cM1 cM2 cN0 cN1 cN2 cD0 cD1 cD2 hg012 hS
      as_aux_lemma =>
        have cM0 : w11.cell? ⟨w1.heap.size, 0, none⟩ = some (.int .i16 m.x) := KM.out.cell 0 _ rfl
        have cM1 : w11.cell? ⟨w1.heap.size, 1, none⟩ = some (.int .i16 m.y) := KM.out.cell 1 _ rfl
        have cM2 : w11.cell? ⟨w1.heap.size, 2, none⟩ = some (.int .i16 m.z) := KM.out.cell 2 _ rfl
        go_wp2_with fail
        have q := Lib.hid (implMixFor_calls m hmo.out K w11)
        rw [hmG.out] at q
        unfold Mix.v at q
        refine q.out.mono ?_
        rintro e w12 ⟨rfl, hb⟩
        clear q
        clear cM0 cM1 cM2
        replace HB := Lib.hid (ext_trans HB.out hb)
        replace KM := Lib.hid (KM.out.ext hb)
        replace KS := Lib.hid (KS.out.ext hb)
        replace KN := Lib.hid (KN.out.ext hb)
        replace KD := Lib.hid (KD.out.ext hb)
        replace Ox := Lib.hid (Ox.out.ext hb)
        replace Oy := Lib.hid (Oy.out.ext hb)
        clear hb
        have KE := Lib.hid (Bk.new w12 24 #[.int .i16 G.x, .int .i16 G.y, .int .i16 G.z] w12.heap.size rfl)
        replace HB := Lib.hid (HB.out.alloc HB.out.size (.cells #[.int .i16 G.x, .int .i16 G.y, .int .i16 G.z] 24))
        replace KM := Lib.hid (KM.out.alloc (.cells #[.int .i16 G.x, .int .i16 G.y, .int .i16 G.z] 24))
        replace KS := Lib.hid (KS.out.alloc (.cells #[.int .i16 G.x, .int .i16 G.y, .int .i16 G.z] 24))
        replace KN := Lib.hid (KN.out.alloc (.cells #[.int .i16 G.x, .int .i16 G.y, .int .i16 G.z] 24))
        replace KD := Lib.hid (KD.out.alloc (.cells #[.int .i16 G.x, .int .i16 G.y, .int .i16 G.z] 24))
        replace Ox := Lib.hid (Ox.out.alloc (.cells #[.int .i16 G.x, .int .i16 G.y, .int .i16 G.z] 24))
        replace Oy := Lib.hid (Oy.out.alloc (.cells #[.int .i16 G.x, .int .i16 G.y, .int .i16 G.z] 24))
        skip
        go_upto_region 27 with (fail)
        generalize w12.alloc (.cells #[.int .i16 G.x, .int .i16 G.y, .int .i16 G.z] 24) = uE at *
        have cM0 : uE.cell? ⟨w1.heap.size, 0, none⟩ = some (.int .i16 m.x) := KM.out.cell 0 _ rfl
        have cM1 : uE.cell? ⟨w1.heap.size, 1, none⟩ = some (.int .i16 m.y) := KM.out.cell 1 _ rfl
        have cM2 : uE.cell? ⟨w1.heap.size, 2, none⟩ = some (.int .i16 m.z) := KM.out.cell 2 _ rfl
        have hKb := hmost.out
        have hKc : 0 ≤ K ∧ K ≤ 297 := ⟨hKb.1, hKb.2.1⟩
        have hKw : wrap64 (K + 1) = K + 1 := wr64 (by omega) (by omega)
        clear hKb
        go_wp2_with fail
        have q := Lib.hid (implMixFor_calls m hmo.out (K + 1) uE)
        rw [hmH.out] at q
        unfold Mix.v at q
        refine q.out.mono ?_
        rintro e w13 ⟨rfl, hb⟩
        clear q
        clear cM0 cM1 cM2
        replace HB := Lib.hid (ext_trans HB.out hb)
        replace KM := Lib.hid (KM.out.ext hb)
        replace KS := Lib.hid (KS.out.ext hb)
        replace KN := Lib.hid (KN.out.ext hb)
        replace KD := Lib.hid (KD.out.ext hb)
        replace KE := Lib.hid (KE.out.ext hb)
        replace Ox := Lib.hid (Ox.out.ext hb)
        replace Oy := Lib.hid (Oy.out.ext hb)
        clear hb
        have KT := Lib.hid (Bk.new w13 24 #[.int .i16 H.x, .int .i16 H.y, .int .i16 H.z] w13.heap.size rfl)
        replace HB := Lib.hid (HB.out.alloc HB.out.size (.cells #[.int .i16 H.x, .int .i16 H.y, .int .i16 H.z] 24))
        replace KM := Lib.hid (KM.out.alloc (.cells #[.int .i16 H.x, .int .i16 H.y, .int .i16 H.z] 24))
        replace KS := Lib.hid (KS.out.alloc (.cells #[.int .i16 H.x, .int .i16 H.y, .int .i16 H.z] 24))
        replace KN := Lib.hid (KN.out.alloc (.cells #[.int .i16 H.x, .int .i16 H.y, .int .i16 H.z] 24))
        replace KD := Lib.hid (KD.out.alloc (.cells #[.int .i16 H.x, .int .i16 H.y, .int .i16 H.z] 24))
        replace KE := Lib.hid (KE.out.alloc (.cells #[.int .i16 H.x, .int .i16 H.y, .int .i16 H.z] 24))
        replace Ox := Lib.hid (Ox.out.alloc (.cells #[.int .i16 H.x, .int .i16 H.y, .int .i16 H.z] 24))
        replace Oy := Lib.hid (Oy.out.alloc (.cells #[.int .i16 H.x, .int .i16 H.y, .int .i16 H.z] 24))
        skip
        go_upto_region 28 with (fail)
        generalize w13.alloc (.cells #[.int .i16 H.x, .int .i16 H.y, .int .i16 H.z] 24) = uT at *
        have cS0 : uT.cell? ⟨w2.heap.size, 0, none⟩ = some (.int .i16 s.x) := KS.out.cell 0 _ rfl
        have cS1 : uT.cell? ⟨w2.heap.size, 1, none⟩ = some (.int .i16 s.y) := KS.out.cell 1 _ rfl
        have cS2 : uT.cell? ⟨w2.heap.size, 2, none⟩ = some (.int .i16 s.z) := KS.out.cell 2 _ rfl
        have cE0 : uT.cell? ⟨w12.heap.size, 0, none⟩ = some (.int .i16 G.x) := KE.out.cell 0 _ rfl
        have cE1 : uT.cell? ⟨w12.heap.size, 1, none⟩ = some (.int .i16 G.y) := KE.out.cell 1 _ rfl
        have cE2 : uT.cell? ⟨w12.heap.size, 2, none⟩ = some (.int .i16 G.z) := KE.out.cell 2 _ rfl
        have cT0 : uT.cell? ⟨w13.heap.size, 0, none⟩ = some (.int .i16 H.x) := KT.out.cell 0 _ rfl
        have cT1 : uT.cell? ⟨w13.heap.size, 1, none⟩ = some (.int .i16 H.y) := KT.out.cell 1 _ rfl
        have cT2 : uT.cell? ⟨w13.heap.size, 2, none⟩ = some (.int .i16 H.z) := KT.out.cell 2 _ rfl
        have hfG := hmost.out.2.2.1
        have hfH := hmost.out.2.2.2
        simp only [fits, Bool.and_eq_true, decide_eq_true_eq, Bool.and_eq_false_iff, decide_eq_false_iff_not] at hfG hfH
        obtain ⟨⟨hg1, hg2⟩, hg3⟩ := hfG
        have bg1 : decide (s.x < G.x) = false := decide_eq_false (by omega)
        have bg2 : decide (s.y < G.y) = false := decide_eq_false (by omega)
        have bg3 : decide (s.z < G.z) = false := decide_eq_false (by omega)
        clear hg1 hg2 hg3
        go_cut [310] (fun c wx => c = .bool false ∧ wx = uT)
        case first =>
          by_cases h1 : H.x ≤ s.x
          · have bh1 : decide (H.x ≤ s.x) = true := decide_eq_true h1
            by_cases h2 : H.y ≤ s.y
            · have bh2 : decide (H.y ≤ s.y) = true := decide_eq_true h2
              have bh3 : decide (H.z ≤ s.z) = false := decide_eq_false (by omega)
              clear hfH h1 h2
              as_aux_lemma =>
                go_wp2_with fail
                go_meet
                exact ⟨rfl, rfl⟩
            · have bh2 : decide (H.y ≤ s.y) = false := decide_eq_false h2
              clear hfH h1 h2
              as_aux_lemma =>
                go_wp2_with fail
                go_meet
                exact ⟨rfl, rfl⟩
          · have bh1 : decide (H.x ≤ s.x) = false := decide_eq_false h1
            clear hfH h1
            as_aux_lemma =>
              go_wp2_with fail
              go_meet
              exact ⟨rfl, rfl⟩
        obtain ⟨rfl, rfl⟩ := hcut
        clear hfH bg1 bg2 bg3
        clear cS0 cS1 cS2 cE0 cE1 cE2 cT0 cT1 cT2
        go_upto_region 30 with (fail)
        exact tailM30 W _ q0 q1 A0 A1 cap0 cap1 m s w1.heap.size w2.heap.size K Q0 Q1 HB hmo hso hv hvs KM KS hK2 (Lib.hid ⟨sx.out, sy.out, sz.out⟩) _ _ _ _ _ _ _ _ _ _ _ _ _ _ _ _ _ _ _ _ _ _ _ _ _ _ _ _ _ _ _ _ _ _ _ _ _ _ _ _ _ _ _ _ _ _ _ _ _ _ _ _ _ _ _ _ _ _ _ _ _ _ _ _ _ _ _ _ _ _ _ _ _ _ _ _ _ _ _ _ _ _ _ _ _ _ _ _ _ _ _ _ _ _ _ _ _ _ _ _ _ _ _ _ _ _ _ _ _ _ _ _ _ _ _ _ _ _ _ _ _ _ _ _ _ _ _ _ _ _ _ _ _ _ _ _ _ _ _ _ _ _ _ _ _ _ _ _ _ _ _ _ _ _ _ _ _ _ _ _ _ _ _ _ _ _ _ _ _ _ _ _ _ _ _ _ _ _ _ _ _ _ _ _ _ _ _ _ _ _ _ _ _ _ _ _ _ _ _ _ _ _ _ _ _ _ _ _ _ _ _ _ _ _ _ _ _ _ _ _ _ _ _ _ _ _ _ _ _ _ _ _ _ _ _ _ _ _ _ _ _ _ _ _ _ _ _ _ _ _ _ _ _ _ _ _ _ _ _ _ _ _ _ _ _ _ _ _ _ _ _ _ _ _ _ _ _ _ _ _ _ _ _ _ _ _ _ _ _ _ _ _ _ _ _ _ _ _ _ _ _ _ _ _ _ _ _ _ _ _ _ _ _ _ _ _ _ _ _ _ _ _ _ _ _ _ _ _ _ _ _ _ _ _ _ _ _ _ _ _ _ _ _ _ _ _ _ _ _ _ _ _ _ _ _ _ _ _ _ _ _ _ _ _ _ _ _ _ _ _ _ _ _ _ _ _ _ _ _ _ _ _ _ _ _ _ _ _ _ _ _ _ _ _ _ _ _ _ _ _ _ _ _ _ _ _ _ _ _ _ _ _ _ _ _ _ _ _ _ _ _ _ _ _ _ _ _ _ _ _ _ _ _ _ _ _ (by assumption)
end Go.Proofs.Ytgifakacnneleaa
