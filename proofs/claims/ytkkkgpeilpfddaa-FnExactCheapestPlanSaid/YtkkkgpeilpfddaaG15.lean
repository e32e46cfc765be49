/-
bestPlan's recursion over closures. Conditions: rows and gangs are asked rightly; the boxes stand.
-/
import Derived.Test.YtkkkgpeilpfddaaG14
set_option linter.unusedVariables false
set_option linter.unusedSimpArgs false
set_option maxRecDepth 100000
namespace Go.Proofs.Ytkkkgpeilpfddaa
open Go.RowKit
theorem clonePV_calls {D p q : Nat} (xs : List Int) (v : Value) (w : World) (hv : PV D p q w v xs) (hn : xs.length ≤ 1000000) :
    Calls Try.prog 92 #[v] w fun e w' => ∃ cv, e = .returned cv ∧ Own w' w.heap.size 2 i64c 1 cv xs ∧ (∀ D p q, D ≤ w.heap.size → p < w.heap.size → q < w.heap.size → PV D p q w' cv xs) ∧ Below w.heap.size w w' := by
  rcases hv.out with ⟨rfl, rfl⟩ | ⟨ad, cap, rfl, hs, hl, h1, h2⟩
  · refine (clone_nil w).mono ?_
    rintro e w1 ⟨rfl, rfl⟩
    exact ⟨_, rfl, Own.nil_ _ _ _ _ _, fun _ _ _ _ _ _ => PV.nil_ _ _ _ _, Below.refl _ _⟩
  · refine (clone_calls xs ad cap w (hs.sl i64c_len) hn).mono ?_
    rintro e w1 ⟨g, c, rfl, hO, hb⟩
    exact ⟨_, rfl, hO, fun _ _ _ hD hp hq => PV.own hO hD hp hq, hb⟩
def numOf (numb : Int → Int → Int × Bool) (rows : List Row) (gangs : List Gang) (p : List Int) : Option Int :=
  if (numb (sumN rows gangs p p.length).1 (sumN rows gangs p p.length).2.1).2 = true then some (numb (sumN rows gangs p p.length).1 (sumN rows gangs p p.length).2.1).1 else none
theorem numOf_fast (rows : List Row) (gangs : List Gang) : numOf (fun d _ => (d, true)) rows gangs = numFast rows gangs := rfl
theorem numOf_cheap (rows : List Row) (gangs : List Gang) (days : Int) : numOf (fun d c => (c, decide (d ≤ days))) rows gangs = numCheap rows gangs days := by
  funext p
  simp [numOf, numCheap]
theorem bestOf_one (numb : Int → Int → Int × Bool) (rows : List Row) (gangs : List Gang) (p : List Int) (s : List Int × Int) : bestOf (numOf numb rows gangs) [p] s =
    if ((numb (sumN rows gangs p p.length).1 (sumN rows gangs p p.length).2.1).2 && (decide (s.2 < 0) || decide ((numb (sumN rows gangs p p.length).1 (sumN rows gangs p p.length).2.1).1 < s.2))) = true then (p, (numb (sumN rows gangs p p.length).1 (sumN rows gangs p p.length).2.1).1) else s := by
  cases h : (numb (sumN rows gangs p p.length).1 (sumN rows gangs p p.length).2.1).2 <;> simp [bestOf, numOf, h]
/-- What the first region of choose reads. -/
abbrev Bx.R1 (x : Bx) (v u nf : Value) (W0 w' : World) : Prop := Below W0.heap.size W0 w' ∧ w'.cell? ⟨x.R, 0, none⟩ = some v ∧ w'.cell? ⟨x.N, 0, none⟩ = some nf ∧ w'.cell? ⟨x.G, 0, none⟩ = some u
theorem Bx.R1.of {x : Bx} {v u nf cf : Value} {W W' : World} {s : List Int × Int} (h : x.S v u nf cf W s) (hb : Below W.heap.size W W') : x.R1 v u nf W W' :=
  ⟨hb, (hb.cell (p := ⟨x.R, 0, none⟩) h.lR).trans h.hR, (hb.cell (p := ⟨x.N, 0, none⟩) h.lN).trans h.hN, (hb.cell (p := ⟨x.G, 0, none⟩) h.lG).trans h.hG⟩
def Bx.lb (x : Bx) : Array Value := #[.pointer (some ⟨x.R, 0, none⟩), .pointer (some ⟨x.N, 0, none⟩), .pointer (some ⟨x.G, 0, none⟩), .pointer (some ⟨x.L, 0, none⟩), .pointer (some ⟨x.B, 0, none⟩), .pointer (some ⟨x.C, 0, none⟩)]
set_option maxHeartbeats 4000000 in
theorem choose_leaf (rows : List Row) (gangs : List Gang) (ha : asked rows gangs = 0) (w0 : World) (v u : Value) (gN : FuncId) (lbN : Array Value) (numb : Int → Int → Int × Bool) (x : Bx) (cf : Value)
    (HS : Sl w0 w0.heap.size Row.c 2 v rows) (HT : Sl w0 w0.heap.size Gang.c 5 u gangs) (HN : Numb gN lbN numb w0) (eN : Enters Try.prog gN)
    (plan : List Int) (pv : Value) (W : World) (s : List Int × Int) (hl : plan.length = rows.length) (hp : ∀ q ∈ plan, 0 ≤ q ∧ q < gangs.length) (hW : Below w0.heap.size w0 W) (hx : x.S v u (.func (.func gN) #[] lbN) cf W s) (hv : PV x.D x.L x.B W pv plan) (hD : x.D ≤ W.heap.size) :
    Calls Try.prog 91 #[pv, .pointer (some ⟨x.R, 0, none⟩), .pointer (some ⟨x.N, 0, none⟩), .pointer (some ⟨x.G, 0, none⟩), .pointer (some ⟨x.L, 0, none⟩), .pointer (some ⟨x.B, 0, none⟩), .pointer (some ⟨x.C, 0, none⟩)] W fun e W' => e = .returned (.tuple #[]) ∧ Kept x.L x.B W W' ∧ x.S v u (.func (.func gN) #[] lbN) cf W' (bestOf (numOf numb rows gangs) (allN rows gangs 0 plan) s) := by
  obtain ⟨h1, h2, h3, h4, h5⟩ := asked_ok ha
  have hF : Fine rows gangs plan := ⟨h1, h2, h3, h5, hl, hp⟩
  have HF := Lib.hid hF
  have HST := Lib.hid (show bestOf (numOf numb rows gangs) (allN rows gangs 0 plan) s = _ from bestOf_one numb rows gangs plan s)
  have hq : ((plan.length : Int) == (rows.length : Int)) = true := by rw [beq_iff_eq]; omega
  have hp6 := Lib.hid (show plan.length ≤ 1000000 from by omega)
  obtain ⟨A, cap, rfl, hl1, hm1, _⟩ := HS.row
  obtain ⟨A2, cap2, rfl, hl2, hm2, _⟩ := HT.gang
  obtain ⟨A3, cap3, rfl, hl3, hm3, _⟩ := hv.sl.i64
  have HX := Lib.hid hx
  have HV := Lib.hid hv
  have HD := Lib.hid hD
  clear hD
  have HW := Lib.hid hW
  have hS := Lib.hid (HS.ext hW)
  have hT := Lib.hid (HT.ext hW)
  have hR1 := Bx.R1.of hx (Below.refl _ _)
  obtain ⟨_, c1, c2, c3⟩ := hR1
  clear hx hv HS HT ha h1 h2 h3 h4 h5 hF hl hp
  go_enter Try.func91, Try.ntmps91
  go_wp2_with fail
  go_region_held3 (x.R1 (.slice A rows.length cap) (.slice A2 gangs.length cap2) (.func (.func gN) #[] lbN) W) (first | assumption | exact Bx.R1.of HX.out ((Below.refl _ _).drew) | exact Bx.R1.of HX.out (ext_trans (And.left (b := _) (by assumption)) (by assumption)) | exact Bx.R1.of HX.out (ext_drewN (And.left (b := _) (by assumption)) _)) (first | (go_at_call 80; refine (reckon_calls rows gangs plan HF.out _ _ _ _ (hS.out.ext (And.left (b := _) (by assumption))) (hT.out.ext (And.left (b := _) (by assumption))) (HV.out.sl.ext (And.left (b := _) (by assumption)))).mono ?_; rintro e w' ⟨rfl, hb⟩) | (rw [eN, Oper.upon_enter]; refine (HN _ (hW.trans (Below.mono (And.left (b := _) (by assumption)) hW.size)) _ _).mono ?_; rintro e w' ⟨rfl, n, rfl⟩))
  have HB1 := Lib.hid (show Below W.heap.size W _ from And.left (b := _) (by assumption))
  have hX1 := HX.out.ext HB1.out
  have hV1 := HV.out.keep (Kept.of HB1.out)
  rename_i hHeld
  clear hHeld c1 c2 c3 hb
  generalize w'.drewN n = w2 at *
  generalize numb (sumN rows gangs plan plan.length).1 (sumN rows gangs plan plan.length).2.1 = nn at *
  obtain ⟨m, ok⟩ := nn
  have k0 := hX1.hL.cell 0 _ rfl
  have HX1 := Lib.hid hX1
  have HV1 := Lib.hid hV1
  clear hX1 hV1
  cases ok
  · have hs2 := Lib.hid (HST.out.trans (if_neg (by simp)))
    clear HST
    go_wp2_with fail
    ((try simp only [Exit.inBlock, Exit.then]); refine bodyPost_ret (results_none rfl _ _ _) rfl ?_)
    exact ⟨rfl, Kept.of HB1.out, by rw [hs2.out]; exact HX1.out⟩
  by_cases hneg : s.2 < 0
  case neg =>
    by_cases hls : m < s.2
    case neg =>
      have hd : decide (s.2 < 0) = false := by rw [decide_eq_false_iff_not]; exact hneg
      have hd2 : decide (m < s.2) = false := by rw [decide_eq_false_iff_not]; exact hls
      have hs2 := Lib.hid (HST.out.trans (if_neg (by rw [hd, hd2]; simp)))
      clear HST hneg hls
      go_wp2_with fail
      ((try simp only [Exit.inBlock, Exit.then]); refine bodyPost_ret (results_none rfl _ _ _) rfl ?_)
      exact ⟨rfl, Kept.of HB1.out, by rw [hs2.out]; exact HX1.out⟩
    have hd : decide (s.2 < 0) = false := by rw [decide_eq_false_iff_not]; exact hneg
    have hd2 : decide (m < s.2) = true := by rw [decide_eq_true_eq]; exact hls
    have hs2 := Lib.hid (HST.out.trans (if_pos (by rw [hd, hd2]; simp)))
    clear HST hneg hls
    go_wp2_with fail
    refine (clonePV_calls plan _ _ HV1.out hp6.out).mono ?_
    rintro e w3 ⟨cv, rfl, hO, hPV, hb3⟩
    obtain ⟨A4, cap4, rfl, -, -, -⟩ := (hO.sl i64c_len).i64
    have hX3 := HX1.out.ext hb3
    obtain ⟨bv, hB3, _⟩ := hX3.hB
    have hP3 := hPV x.D x.L x.B (Nat.le_trans HD.out HB1.out.size) HX1.out.hL.lt (by obtain ⟨bv, h, _⟩ := HX1.out.hB; exact h.lt)
    obtain ⟨hS3, hK3⟩ := hX3.put _ plan m hP3
    have f1 := hB3.cell 0 _ rfl
    have f2 := hB3.frz 0
    have h2 := hX3.hL.oth 0 (.slice A4 plan.length cap4) hX3.dL
    have f3 := h2.cell 0 _ rfl
    have f4 := h2.frz 0
    have hP := Lib.hid hP3
    have HS3 := Lib.hid hS3
    have HK3 := Lib.hid ((Kept.of (p := x.L) (q := x.B) (HB1.out)).trans ((Kept.of hb3).trans hK3))
    clear hX3 hB3 hP3 hS3 hK3 hO hPV h2
    go_wp2_with fail
    ((try simp only [Exit.inBlock, Exit.then]); refine bodyPost_ret (results_none rfl _ _ _) rfl ?_)
    exact ⟨rfl, HK3.out, by rw [hs2.out]; exact HS3.out⟩
  have hd : decide (s.2 < 0) = true := by rw [decide_eq_true_eq]; exact hneg
  have hs2 := Lib.hid (HST.out.trans (if_pos (by rw [hd]; simp)))
  clear HST hneg
  go_wp2_with fail
  refine (clonePV_calls plan _ _ HV1.out hp6.out).mono ?_
  rintro e w3 ⟨cv, rfl, hO, hPV, hb3⟩
  obtain ⟨A4, cap4, rfl, -, -, -⟩ := (hO.sl i64c_len).i64
  have hX3 := HX1.out.ext hb3
  obtain ⟨bv, hB3, _⟩ := hX3.hB
  have hP3 := hPV x.D x.L x.B (Nat.le_trans HD.out HB1.out.size) HX1.out.hL.lt (by obtain ⟨bv, h, _⟩ := HX1.out.hB; exact h.lt)
  obtain ⟨hS3, hK3⟩ := hX3.put _ plan m hP3
  have f1 := hB3.cell 0 _ rfl
  have f2 := hB3.frz 0
  have h2 := hX3.hL.oth 0 (.slice A4 plan.length cap4) hX3.dL
  have f3 := h2.cell 0 _ rfl
  have f4 := h2.frz 0
  have hP := Lib.hid hP3
  have HS3 := Lib.hid hS3
  have HK3 := Lib.hid ((Kept.of (p := x.L) (q := x.B) (HB1.out)).trans ((Kept.of hb3).trans hK3))
  clear hX3 hB3 hP3 hS3 hK3 hO hPV h2
  go_wp2_with fail
  ((try simp only [Exit.inBlock, Exit.then]); refine bodyPost_ret (results_none rfl _ _ _) rfl ?_)
  exact ⟨rfl, HK3.out, by rw [hs2.out]; exact HS3.out⟩
end Go.Proofs.Ytkkkgpeilpfddaa
