/-
Contracts of the functions that reckon a plan's days and cost, over plain lists. Conditions: numbers are of their kinds; slices can be read; plans are right where the program asks it.
-/
import Derived.Test.YtkkkgpeilpfddaaG4
set_option linter.unusedVariables false
set_option linter.unusedSimpArgs false
set_option maxRecDepth 100000
namespace Go.Proofs.Ytkkkgpeilpfddaa
open Go.RowKit

def gAt (gangs : List Gang) (p : Int) : Gang := gangs.getD p.toNat ⟨0, 0, 0, 0, 0⟩
/-- The days, the cost, and the work of the run that is not ended, behind k rows. -/
def sumN (rows : List Row) (gangs : List Gang) (plan : List Int) : Nat → Int × Int × Int
  | 0 => (0, 0, 0)
  | k + 1 =>
    let s := sumN rows gangs plan k
    let wk := s.2.2 + (rows.getD k ⟨0, 0⟩).w
    if k + 1 < plan.length ∧ plan.getD (k + 1) 0 = plan.getD k 0 then (s.1, s.2.1, wk)
    else (s.1 + (daysS (gAt gangs (plan.getD k 0)) wk + (if k + 1 < plan.length then 1 else 0)), s.2.1 + daysS (gAt gangs (plan.getD k 0)) wk * (gAt gangs (plan.getD k 0)).g, 0)
/-- What is asked of rows, gangs and a plan where they are reckoned. -/
structure Fine (rows : List Row) (gangs : List Gang) (plan : List Int) : Prop where
  h6 : rows.length ≤ 6
  hr : ∀ x ∈ rows, vRowB x = true
  hg : ∀ g ∈ gangs, vGangB g = true
  hw : workS rows ≤ 2000
  hlen : plan.length = rows.length
  hp : ∀ q ∈ plan, 0 ≤ q ∧ q < gangs.length
theorem Fine.of {rows : List Row} {gangs : List Gang} {plan : List Int} (ha : asked rows gangs = 0) (hr : rightB rows gangs plan = true) : Fine rows gangs plan := by
  obtain ⟨h1, h2, h3, h4, h5⟩ := asked_ok ha
  simp only [rightB, Bool.and_eq_true, decide_eq_true_eq] at hr
  obtain ⟨hl, hall⟩ := hr
  refine ⟨h1, h2, h3, h5, hl, fun q hq => ?_⟩
  obtain ⟨k, hk, rfl⟩ := List.getElem_of_mem hq
  have hz : (plan[k], rows[k]'(by omega)) ∈ plan.zip rows := by
    have hkz : k < (plan.zip rows).length := by rw [List.length_zip]; omega
    have := List.getElem_mem hkz
    rwa [List.getElem_zip] at this
  have := List.all_eq_true.1 hall _ hz
  simp only [okAt, Bool.and_eq_true] at this
  obtain ⟨i0, i1⟩ := inB_true.1 this.1
  omega
theorem getD_eq {α : Type} (xs : List α) (k : Nat) (d : α) (h : k < xs.length) : xs.getD k d = xs[k] := by simp [List.getD_eq_getElem?_getD, h]
theorem workS_le_take (xs : List Row) (hv : ∀ x ∈ xs, vRowB x = true) (k : Nat) (hk : k ≤ xs.length) : workS (xs.take k) ≤ workS xs := by
  have e : workS xs = workS (xs.take k) + workS (xs.drop k) := by
    unfold workS
    rw [← List.sum_append, ← List.map_append, List.take_append_drop]
  have := (workS_bounds (xs.drop k) (fun x hx => hv x (List.mem_of_mem_drop hx))).1
  omega
theorem Fine.sum {rows : List Row} {gangs : List Gang} {plan : List Int} (h : Fine rows gangs plan) (k : Nat) (hk : k ≤ plan.length) :
    0 ≤ (sumN rows gangs plan k).1 ∧ (sumN rows gangs plan k).1 ≤ 20001 * k ∧ 0 ≤ (sumN rows gangs plan k).2.1 ∧ (sumN rows gangs plan k).2.1 ≤ 20000000 * k ∧ 0 ≤ (sumN rows gangs plan k).2.2 ∧ (sumN rows gangs plan k).2.2 ≤ workS (rows.take k) := by
  induction k with
  | zero => simp [sumN, workS]
  | succ k ih =>
    obtain ⟨a0, a1, b0, b1, c0, c1⟩ := ih (by omega)
    have hkr : k < rows.length := by have := h.hlen; omega
    have hkp : k < plan.length := by omega
    obtain ⟨_, _, w0, w1⟩ := vRow_bounds (h.hr rows[k] (List.getElem_mem hkr))
    have hw := workS_succ rows k hkr
    have hle := workS_le_take rows h.hr (k + 1) (by omega)
    have hww := h.hw
    obtain ⟨q0, q1⟩ := h.hp plan[k] (List.getElem_mem hkp)
    have hgl : plan[k].toNat < gangs.length := by omega
    have hgv := h.hg gangs[plan[k].toNat] (List.getElem_mem hgl)
    have e1 : gAt gangs (plan.getD k 0) = gangs[plan[k].toNat] := by rw [getD_eq _ _ _ hkp, gAt, getD_eq _ _ _ hgl]
    have e2 : rows.getD k ⟨0, 0⟩ = rows[k] := getD_eq _ _ _ hkr
    obtain ⟨_, _, _, _, _, _, _, _, g0, g1⟩ := vGang_bounds hgv
    simp only [sumN, e1, e2]
    generalize sumN rows gangs plan k = s at *
    obtain ⟨d0, d1⟩ := daysS_bounds gangs[plan[k].toNat] (s.2.2 + rows[k].w) hgv (by omega) (by omega)
    generalize daysS gangs[plan[k].toNat] (s.2.2 + rows[k].w) = d at *
    generalize gangs[plan[k].toNat] = g at *
    have m0 : 0 ≤ d * g.g := Int.mul_nonneg d0 g0
    have m1 : d * g.g ≤ 20000 * 1000 := Int.mul_le_mul d1 g1 g0 (by omega)
    split
    · simp only
      omega
    · simp only
      split <;> omega
set_option maxHeartbeats 4000000 in
theorem reckon_calls (rows : List Row) (gangs : List Gang) (plan : List Int) (hf : Fine rows gangs plan) (v u z : Value) (w : World)
    (hs : Sl w w.heap.size Row.c 2 v rows) (ht : Sl w w.heap.size Gang.c 5 u gangs) (hz : Sl w w.heap.size i64c 1 z plan) :
    Calls Try.prog 80 #[v, u, z] w fun e w' => e = .returned (.tuple #[.int .i64 (sumN rows gangs plan plan.length).1, .int .i64 (sumN rows gangs plan plan.length).2.1]) ∧ Below w.heap.size w w' := by
  have HF := Lib.hid hf
  obtain ⟨A, cap, rfl, hl, hm, hcell⟩ := hs.row
  obtain ⟨A2, cap2, rfl, hl2, hm2, hcell2⟩ := ht.gang
  obtain ⟨A3, cap3, rfl, hl3, hm3, hcell3⟩ := hz.i64
  have h6 : plan.length ≤ 6 := by have := hf.h6; have := hf.hlen; omega
  clear hs ht hz hf
  go_enter Try.func80, Try.ntmps80
  go_wp2_with fail
  go_loopw [8, 9, 10, 17] (fun d c q i wr => ∃ k : Nat, k ≤ plan.length ∧ i = .int .i64 k ∧ d = .int .i64 (sumN rows gangs plan k).1 ∧ c = .int .i64 (sumN rows gangs plan k).2.1 ∧ q = .int .i64 (sumN rows gangs plan k).2.2 ∧ Below w.heap.size w wr) (fun _ _ _ i _ => plan.length - (intOf i).toNat)
  case atStart => exact ⟨0, by omega, rfl, rfl, rfl, rfl, Below.refl _ _⟩
  case round =>
    obtain ⟨k, hk, rfl, rfl, rfl, rfl, hb⟩ := hrel
    by_cases hlt : k < plan.length
    · have hkr : k < rows.length := by have := HF.out.hlen; omega
      obtain ⟨b3, o3, rfl, hbb3, k0⟩ := hcell3 k hlt
      obtain ⟨b, o, rfl, hbb, h0, h1⟩ := hcell k hkr
      have k0 := (hb.cell (p := ⟨b3, _, none⟩) hbb3).trans k0
      have h1 := (hb.cell (p := ⟨b, _, none⟩) hbb).trans h1
      clear h0 hcell
      obtain ⟨q0, q1⟩ := HF.out.hp plan[k] (List.getElem_mem hlt)
      have hgl : plan[k].toNat < gangs.length := by omega
      obtain ⟨b2, o2, rfl, hbb2, g0, g1, g2, g3, g4⟩ := hcell2 _ hgl
      have g0 := (hb.cell (p := ⟨b2, _, none⟩) hbb2).trans g0
      have g1 := (hb.cell (p := ⟨b2, _, none⟩) hbb2).trans g1
      have g2 := (hb.cell (p := ⟨b2, _, none⟩) hbb2).trans g2
      have g3 := (hb.cell (p := ⟨b2, _, none⟩) hbb2).trans g3
      have g4 := (hb.cell (p := ⟨b2, _, none⟩) hbb2).trans g4
      clear hcell2
      have hgv := HF.out.hg _ (List.getElem_mem hgl)
      obtain ⟨_, _, _, _, _, _, _, _, w0, w1⟩ := vGang_bounds hgv
      obtain ⟨_, _, r0, r1⟩ := vRow_bounds (HF.out.hr rows[k] (List.getElem_mem hkr))
      obtain ⟨a0, a1, c0, c1, e0, e1⟩ := HF.out.sum k hk
      have e2 : (sumN rows gangs plan k).2.2 + rows[k].w ≤ 2000 := by
        have x1 := workS_succ rows k hkr
        have x2 := workS_le_take rows HF.out.hr (k + 1) (by omega)
        have x3 := HF.out.hw
        omega
      have eg : gAt gangs plan[k] = gangs[plan[k].toNat] := by rw [gAt, getD_eq _ _ _ hgl]
      have hN : sumN rows gangs plan (k + 1) = if k + 1 < plan.length ∧ plan.getD (k + 1) 0 = plan[k] then ((sumN rows gangs plan k).1, (sumN rows gangs plan k).2.1, (sumN rows gangs plan k).2.2 + rows[k].w)
          else ((sumN rows gangs plan k).1 + (daysS gangs[plan[k].toNat] ((sumN rows gangs plan k).2.2 + rows[k].w) + (if k + 1 < plan.length then 1 else 0)), (sumN rows gangs plan k).2.1 + daysS gangs[plan[k].toNat] ((sumN rows gangs plan k).2.2 + rows[k].w) * gangs[plan[k].toNat].g, 0) := by
        simp only [sumN, getD_eq rows k _ hkr, getD_eq plan k _ hlt, eg]
      have HN := Lib.hid hN
      clear hN eg e1
      generalize sumN rows gangs plan k = s at *
      obtain ⟨d0, d1⟩ := daysS_bounds gangs[plan[k].toNat] (s.2.2 + rows[k].w) hgv (by omega) e2
      have m0 : 0 ≤ daysS gangs[plan[k].toNat] (s.2.2 + rows[k].w) * gangs[plan[k].toNat].g := Int.mul_nonneg d0 w0
      have m1 : daysS gangs[plan[k].toNat] (s.2.2 + rows[k].w) * gangs[plan[k].toNat].g ≤ 20000 * 1000 := Int.mul_le_mul d1 w1 w0 (by omega)
      have HGV := Lib.hid hgv
      clear hgv
      by_cases hlast : k + 1 < plan.length
      · obtain ⟨b3', o3', he, hbb3', k1⟩ := hcell3 (k + 1) hlast
        obtain ⟨rfl, rfl⟩ : b3' = b3 ∧ o3' = o3 := by
          injection he with he
          injection he with e1 e2
          exact ⟨e1.symm, e2.symm⟩
        have k1 := (hb.cell (p := ⟨b3', _, none⟩) hbb3').trans k1
        clear hcell3 he
        have hqa : ((k : Int) == (plan.length : Int) - 1) = false := by rw [beq_eq_false_iff_ne]; omega
        by_cases hsame : plan[k + 1] = plan[k]
        · have HN2 := Lib.hid (HN.out.trans (if_pos ⟨hlast, by rw [getD_eq _ _ _ hlast]; exact hsame⟩))
          have hqb : (plan[k + 1] == plan[k]) = true := by simpa using hsame
          clear hsame
          go_wp2_with fail
          go_roundw
          case rel => exact ⟨k + 1, by omega, by go_num, by rw [HN2.out], by rw [HN2.out], by rw [HN2.out], hb⟩
          case measure => simp [intOf]; omega
        · have HN2 := Lib.hid (HN.out.trans ((if_neg (by rw [getD_eq _ _ _ hlast]; exact fun h => hsame h.2)).trans (by rw [if_pos hlast])))
          have hqb : (plan[k + 1] == plan[k]) = false := by simpa using hsame
          clear hsame HN
          go_wp2_with fail
          refine (implDays_calls gangs[plan[k].toNat] HGV.out _ (by omega) e2 _).mono ?_
          rintro e w1 ⟨rfl, hb1⟩
          have hb2 := ext_trans hb hb1
          have hbig := Nat.lt_of_lt_of_le hbb2 hb.size
          have g4' := (hb1.cell (p := ⟨_, _, none⟩) hbig).trans g4
          clear g0 g1 g2 g3 g4 hb1 hb k0 h1
          generalize daysS gangs[plan[k].toNat] (s.2.2 + rows[k].w) = dd at *
          go_wp2_with ((with_reducible refine (bit_calls _ _).mono ?_); rintro e w' ⟨rfl, rfl⟩)
          go_roundw
          case rel => exact ⟨k + 1, by omega, by go_num, by rw [HN2.out], by rw [HN2.out], by rw [HN2.out], hb2⟩
          case measure => simp [intOf]; omega
      · have HN2 := Lib.hid (HN.out.trans ((if_neg (fun h => hlast h.1)).trans (by rw [if_neg hlast])))
        have hqa : ((k : Int) == (plan.length : Int) - 1) = true := by rw [beq_iff_eq]; omega
        clear HN hcell3
        go_wp2_with fail
        refine (implDays_calls gangs[plan[k].toNat] HGV.out _ (by omega) e2 _).mono ?_
        rintro e w1 ⟨rfl, hb1⟩
        have hb2 := ext_trans hb hb1
        have hbig := Nat.lt_of_lt_of_le hbb2 hb.size
        have g4' := (hb1.cell (p := ⟨_, _, none⟩) hbig).trans g4
        clear g0 g1 g2 g3 g4 hb1 hb k0 h1
        generalize daysS gangs[plan[k].toNat] (s.2.2 + rows[k].w) = dd at *
        go_wp2_with ((with_reducible refine (bit_calls _ _).mono ?_); rintro e w' ⟨rfl, rfl⟩)
        go_roundw
        case rel => exact ⟨k + 1, by omega, by go_num, by rw [HN2.out]; simp, by rw [HN2.out], by rw [HN2.out], hb2⟩
        case measure => first | (simp [intOf]; done) | (simp [intOf]; omega)
    · obtain rfl : k = plan.length := by omega
      go_wp2_with fail
      go_ret2
      exact ⟨ret_int2 rfl rfl, hb⟩
theorem sumN_go {rows : List Row} {gangs : List Gang} {plan : List Int} (k : Nat) (h : k + 1 < plan.length ∧ plan.getD (k + 1) 0 = plan.getD k 0) :
    sumN rows gangs plan (k + 1) = ((sumN rows gangs plan k).1, (sumN rows gangs plan k).2.1, (sumN rows gangs plan k).2.2 + (rows.getD k ⟨0, 0⟩).w) := by
  rw [sumN]
  exact if_pos h
theorem sumN_end {rows : List Row} {gangs : List Gang} {plan : List Int} (k : Nat) (h : ¬ (k + 1 < plan.length ∧ plan.getD (k + 1) 0 = plan.getD k 0)) :
    sumN rows gangs plan (k + 1) = ((sumN rows gangs plan k).1 + (daysS (gAt gangs (plan.getD k 0)) ((sumN rows gangs plan k).2.2 + (rows.getD k ⟨0, 0⟩).w) + (if k + 1 < plan.length then 1 else 0)),
      (sumN rows gangs plan k).2.1 + daysS (gAt gangs (plan.getD k 0)) ((sumN rows gangs plan k).2.2 + (rows.getD k ⟨0, 0⟩).w) * (gAt gangs (plan.getD k 0)).g, 0) := by
  rw [sumN]
  exact if_neg h
/-- What the inner loop has behind it: the run from i on, up to j. -/
def InRun (rows : List Row) (gangs : List Gang) (plan : List Int) (i j : Nat) (wk : Int) : Prop :=
  (j = i ∧ wk = 0) ∨ ∃ j0, j = j0 + 1 ∧ i ≤ j0 ∧ plan.getD j0 0 = plan.getD i 0 ∧ (sumN rows gangs plan j0).1 = (sumN rows gangs plan i).1 ∧ (sumN rows gangs plan j0).2.1 = (sumN rows gangs plan i).2.1 ∧ (sumN rows gangs plan j0).2.2 + (rows.getD j0 ⟨0, 0⟩).w = wk
theorem InRun.step {rows : List Row} {gangs : List Gang} {plan : List Int} {i j : Nat} {wk : Int} (h : InRun rows gangs plan i j wk) (h0 : (sumN rows gangs plan i).2.2 = 0) (hj : j < plan.length) (he : plan.getD j 0 = plan.getD i 0) (hi : i ≤ j) :
    InRun rows gangs plan i (j + 1) (wk + (rows.getD j ⟨0, 0⟩).w) := by
  rcases h with ⟨rfl, rfl⟩ | ⟨j0, rfl, h1, h2, h3, h4, h5⟩
  · exact .inr ⟨j, rfl, Nat.le_refl _, rfl, rfl, rfl, by rw [h0]⟩
  · have hs := sumN_go (rows := rows) (gangs := gangs) j0 ⟨hj, he.trans h2.symm⟩
    exact .inr ⟨j0 + 1, rfl, by omega, he, by rw [hs]; exact h3, by rw [hs]; exact h4, by rw [hs]; simp only; rw [h5]⟩
theorem InRun.end_ {rows : List Row} {gangs : List Gang} {plan : List Int} {i j : Nat} {wk : Int} (h : InRun rows gangs plan i j wk) (hi : i < plan.length) (hs : ¬ (j < plan.length ∧ plan.getD j 0 = plan.getD i 0)) :
    i < j ∧ sumN rows gangs plan j = ((sumN rows gangs plan i).1 + (daysS (gAt gangs (plan.getD i 0)) wk + (if j < plan.length then 1 else 0)), (sumN rows gangs plan i).2.1 + daysS (gAt gangs (plan.getD i 0)) wk * (gAt gangs (plan.getD i 0)).g, 0) := by
  rcases h with ⟨rfl, rfl⟩ | ⟨j0, rfl, h1, h2, h3, h4, h5⟩
  · exact absurd ⟨hi, rfl⟩ hs
  · refine ⟨by omega, ?_⟩
    rw [sumN_end j0 (by rw [h2]; exact hs), h2, h3, h4, h5]
theorem InRun.work {rows : List Row} {gangs : List Gang} {plan : List Int} {i j : Nat} {wk : Int} (h : InRun rows gangs plan i j wk) (hf : Fine rows gangs plan) (hj : j ≤ plan.length) : 0 ≤ wk ∧ wk ≤ workS (rows.take j) := by
  rcases h with ⟨rfl, rfl⟩ | ⟨j0, rfl, h1, h2, h3, h4, h5⟩
  · exact ⟨Int.le_refl _, (workS_bounds _ (fun x hx => hf.hr x (List.mem_of_mem_take hx))).1⟩
  · have hjr : j0 < rows.length := by have := hf.hlen; omega
    obtain ⟨_, _, _, _, c0, c1⟩ := hf.sum j0 (by omega)
    obtain ⟨_, _, w0, w1⟩ := vRow_bounds (hf.hr rows[j0] (List.getElem_mem hjr))
    have hw := workS_succ rows j0 hjr
    rw [getD_eq _ _ _ hjr] at h5
    omega
set_option maxHeartbeats 4000000 in
theorem l07Sums_calls (rows : List Row) (gangs : List Gang) (plan : List Int) (hf : Fine rows gangs plan) (v u z : Value) (w : World)
    (hs : Sl w w.heap.size Row.c 2 v rows) (ht : Sl w w.heap.size Gang.c 5 u gangs) (hz : Sl w w.heap.size i64c 1 z plan) :
    Calls Try.prog 45 #[v, u, z] w fun e w' => e = .returned (.tuple #[.int .i64 (sumN rows gangs plan plan.length).1, .int .i64 (sumN rows gangs plan plan.length).2.1]) ∧ Below w.heap.size w w' := by
  have HF := Lib.hid hf
  obtain ⟨A, cap, rfl, hl, hm, hcell⟩ := hs.row
  obtain ⟨A2, cap2, rfl, hl2, hm2, hcell2⟩ := ht.gang
  obtain ⟨A3, cap3, rfl, hl3, hm3, hcell3⟩ := hz.i64
  have h6 : plan.length ≤ 6 := by have := hf.h6; have := hf.hlen; omega
  clear hs ht hz hf
  go_enter Try.func45, Try.ntmps45
  go_wp2_with fail
  go_loopw [8, 9, 10] (fun d c q wr => ∃ (k : Nat) (ds cs : Int), k ≤ plan.length ∧ q = .int .i64 k ∧ d = .int .i64 ds ∧ c = .int .i64 cs ∧ (sumN rows gangs plan k).1 = ds + (if 0 < k ∧ k < plan.length then 1 else 0) ∧ (sumN rows gangs plan k).2.1 = cs ∧ (sumN rows gangs plan k).2.2 = 0 ∧ Below w.heap.size w wr) (fun _ _ q _ => plan.length - (intOf q).toNat)
  case atStart => exact ⟨0, 0, 0, by omega, rfl, rfl, rfl, rfl, rfl, rfl, Below.refl _ _⟩
  case round =>
    obtain ⟨k, ds, cs, hk, rfl, rfl, rfl, hds, hcs, hz0, hb⟩ := hrel
    obtain ⟨wo, rfl⟩ : ∃ wo : World, wo = wr := ⟨_, rfl⟩
    by_cases hlt : k < plan.length
    · obtain ⟨b3, o3, rfl, hbb3, k0⟩ := hcell3 k hlt
      have k0 := (hb.cell (p := ⟨b3, _, none⟩) hbb3).trans k0
      obtain ⟨q0, q1⟩ := HF.out.hp plan[k] (List.getElem_mem hlt)
      have hgl : plan[k].toNat < gangs.length := by omega
      obtain ⟨b2, o2, rfl, hbb2, hat⟩ := hcell2 _ hgl
      have HAT := Lib.hid (Gang.at_ext hat hb hbb2)
      have hgv := HF.out.hg _ (List.getElem_mem hgl)
      obtain ⟨_, _, _, _, _, _, _, _, w0, w1⟩ := vGang_bounds hgv
      obtain ⟨a0, a1, c0, c1, _, _⟩ := HF.out.sum k hk
      have HZ := Lib.hid hz0
      have HK := Lib.hid (getD_eq plan k 0 hlt)
      have HGV := Lib.hid hgv
      have HC := Lib.hid hcs
      have HD := Lib.hid (show (sumN rows gangs plan k).1 = ds + (if 0 < k then 1 else 0) from by rw [hds]; simp [hlt])
      have hd0 : 0 ≤ ds + (if 0 < k then 1 else 0) := by rw [← HD.out]; exact a0
      have hd1 : ds + (if 0 < k then 1 else 0) ≤ 20001 * k := by rw [← HD.out]; exact a1
      have hc0 : 0 ≤ cs := by omega
      have hc1 : cs ≤ 20000000 * k := by omega
      clear hcell2 hat hz0 hgv hds hcs a0 a1 c0 c1
      obtain ⟨D, hD, hD0, hD1, hds0, hds1⟩ : ∃ D : Int, ds + (if 0 < k then 1 else 0) = D ∧ 0 ≤ D ∧ D ≤ 200000 ∧ -1 ≤ ds ∧ ds ≤ 200000 := ⟨_, rfl, hd0, by omega, by split at hd0 <;> omega, by split at hd1 <;> omega⟩
      rw [hD] at HD
      have HDD := Lib.hid hD
      clear hD hd0 hd1
      by_cases hk0 : 0 < k
      all_goals
        have hkq := Lib.hid HDD.out
        go_wp2_with fail
        go_loop [10, 11] (fun j q => ∃ (jj : Nat) (wk : Int), k ≤ jj ∧ jj ≤ plan.length ∧ j = .int .i64 jj ∧ q = .int .i64 wk ∧ InRun rows gangs plan k jj wk) (fun j _ => plan.length - (intOf j).toNat)
        case atStart => exact ⟨k, 0, by omega, by omega, rfl, rfl, .inl ⟨rfl, rfl⟩⟩
        case round =>
          obtain ⟨j, wk, hkj, hj, rfl, rfl, hin⟩ := hrel
          have HIN := Lib.hid hin
          have hpp : plan.length = rows.length := HF.out.hlen
          obtain ⟨x0, x1⟩ := hin.work HF.out hj
          have x2 := workS_le_take rows HF.out.hr j (by omega)
          have x3 := HF.out.hw
          have x4 : wk ≤ 2000 := by omega
          have HPP := Lib.hid hpp
          clear hin x1 x2 x3 hpp
          by_cases hgo : j < plan.length ∧ plan.getD j 0 = plan.getD k 0
          · obtain ⟨hjl, hje⟩ := hgo
            obtain ⟨b3', o3', he, hbb3', k1⟩ := hcell3 j hjl
            obtain ⟨rfl, rfl⟩ : b3' = b3 ∧ o3' = o3 := by
              injection he with he
              injection he with e1 e2
              exact ⟨e1.symm, e2.symm⟩
            have k1 := (hb.cell (p := ⟨b3', _, none⟩) hbb3').trans k1
            have hjr : j < rows.length := by have := HPP.out; omega
            obtain ⟨b, o, rfl, hbb, h0, h1⟩ := hcell j hjr
            have h1 := (hb.cell (p := ⟨b, _, none⟩) hbb).trans h1
            clear h0 hcell hcell3 he
            have HJE := Lib.hid hje
            have hqb : (plan[j] == plan[k]) = true := by
              rw [beq_iff_eq, ← getD_eq plan j 0 hjl, ← getD_eq plan k 0 hlt]; exact hje
            obtain ⟨_, _, r0, r1⟩ := vRow_bounds (HF.out.hr rows[j] (List.getElem_mem hjr))
            have HW := Lib.hid (HIN.out.step HZ.out hjl hje hkj)
            rw [getD_eq rows j _ hjr] at HW
            clear hje
            go_wp2_with fail
            go_round
            case rel => exact ⟨j + 1, wk + rows[j].w, by omega, by omega, by go_num, rfl, HW.out⟩
            case measure => first | (simp [intOf]; done) | (simp [intOf]; omega)
          · obtain ⟨hij, hend⟩ := HIN.out.end_ hlt hgo
            have HE := Lib.hid hend
            have hgo2 := Lib.hid hgo
            clear hend hgo HIN
            obtain ⟨d0, d1⟩ := daysS_bounds gangs[plan[k].toNat] wk HGV.out x0 x4
            have m0 : 0 ≤ daysS gangs[plan[k].toNat] wk * gangs[plan[k].toNat].g := Int.mul_nonneg d0 w0
            have m1 : daysS gangs[plan[k].toNat] wk * gangs[plan[k].toNat].g ≤ 20000 * 1000 := Int.mul_le_mul d1 w1 w0 (by omega)
            have eg : gAt gangs (plan.getD k 0) = gangs[plan[k].toNat] := by rw [HK.out, gAt, getD_eq _ _ _ hgl]
            rw [eg, HD.out, HC.out] at HE
            clear eg
            have hjm := Lib.hid hj
            have FIN : ∀ e w', e = Ending.returned (.int .i64 (daysS gangs[plan[k].toNat] wk)) → (∃ n, w' = w.drewN n) → True := fun _ _ _ _ => trivial
            by_cases hjl : j < plan.length
            · obtain ⟨b3', o3', he, hbb3', k1⟩ := hcell3 j hjl
              obtain ⟨rfl, rfl⟩ : b3' = b3 ∧ o3' = o3 := by
                injection he with he
                injection he with e1 e2
                exact ⟨e1.symm, e2.symm⟩
              have k1 := (hb.cell (p := ⟨b3', _, none⟩) hbb3').trans k1
              have hqb : (plan[j] == plan[k]) = false := by
                rw [beq_eq_false_iff_ne]
                intro h
                exact hgo2.out ⟨hjl, by rw [getD_eq plan j 0 hjl, getD_eq plan k 0 hlt]; exact h⟩
              clear he hcell3
              go_wp2_with fail
              refine (specDays_calls _ _ _ HGV.out wk x0 x4 _ HAT.out).mono ?_
              rintro e w1 ⟨rfl, n, rfl⟩
              obtain ⟨_, _, _, _, g4⟩ := Gang.at_drwN HAT.out n
              generalize daysS gangs[plan[k].toNat] wk = dd at *
              go_wp2_with fail
              go_roundw
              case rel => exact ⟨j, _, _, hjm.out, rfl, rfl, rfl, by rw [HE.out, ← hkq.out]; simp [hjl, hk0, show 0 < j from by omega]; try omega, by rw [HE.out], by rw [HE.out], ext_drewN hb _⟩
              case measure => first | (simp [intOf]; done) | (simp [intOf]; omega)
            · have hjl2 : j = plan.length := by have := hjm.out; omega
              have hjl3 : (decide ((j : Int) < plan.length)) = false := by rw [decide_eq_false_iff_not]; omega
              have HJ2 := Lib.hid hjl2
              clear hcell3 hjl2
              go_wp2_with fail
              refine (specDays_calls _ _ _ HGV.out wk x0 x4 _ HAT.out).mono ?_
              rintro e w1 ⟨rfl, n, rfl⟩
              obtain ⟨_, _, _, _, g4⟩ := Gang.at_drwN HAT.out n
              generalize daysS gangs[plan[k].toNat] wk = dd at *
              go_wp2_with fail
              go_roundw
              case rel => exact ⟨j, _, _, hjm.out, rfl, rfl, rfl, by rw [HE.out, ← hkq.out]; simp [hjl, hk0]; try omega, by rw [HE.out], by rw [HE.out], ext_drewN hb _⟩
              case measure => first | (simp [intOf]; done) | (simp [intOf]; omega)
    · obtain rfl : k = plan.length := by omega
      have hq : ds = (sumN rows gangs plan plan.length).1 := by rw [hds]; simp
      go_wp2_with fail
      go_ret2
      exact ⟨ret_int2 (by first | exact hq | simp [hq]) (by first | exact hcs.symm | simp [hcs]), hb⟩
def planned (rows : List Row) (gangs : List Gang) (plan : List Int) : Int := if asked rows gangs = 0 then (if rightB rows gangs plan = true then 0 else 4) else asked rows gangs
theorem planned_ok {rows : List Row} {gangs : List Gang} {plan : List Int} (h : planned rows gangs plan = 0) : asked rows gangs = 0 ∧ rightB rows gangs plan = true := by
  unfold planned at h
  split at h
  · split at h
    · exact ⟨by assumption, by assumption⟩
    · omega
  · exact absurd h (by assumption)
def planDays (rows : List Row) (gangs : List Gang) (plan : List Int) : Int := if planned rows gangs plan = 0 then (sumN rows gangs plan plan.length).1 else 0
def planCost (rows : List Row) (gangs : List Gang) (plan : List Int) : Int := if planned rows gangs plan = 0 then (sumN rows gangs plan plan.length).2.1 else 0
theorem l07Planned_calls (rows : List Row) (hr : ∀ x ∈ rows, x.ok) (gangs : List Gang) (hg : ∀ x ∈ gangs, x.ok) (plan : List Int) (hp : ∀ q ∈ plan, -9223372036854775808 ≤ q ∧ q ≤ 9223372036854775807) (v u z : Value) (w : World)
    (hs : Sl w w.heap.size Row.c 2 v rows) (ht : Sl w w.heap.size Gang.c 5 u gangs) (hz : Sl w w.heap.size i64c 1 z plan) :
    Calls Try.prog 44 #[v, u, z] w fun e w' => e = .returned (.int .i64 (planned rows gangs plan)) ∧ Below w.heap.size w w' := by
  have HS := Lib.hid hs
  have HT := Lib.hid ht
  have HZ := Lib.hid hz
  have HP := Lib.hid hp
  have HG := Lib.hid hg
  have HR := Lib.hid hr
  clear hs ht hz hp hg hr
  go_enter Try.func44, Try.ntmps44
  go_wp2_with fail
  refine (l07Asked_calls rows HR.out gangs HG.out _ _ _ HS.out HT.out).mono ?_
  rintro e w1 ⟨rfl, rfl⟩
  by_cases hc : asked rows gangs = 0
  · have HC := Lib.hid hc
    have HE := Lib.hid (show planned rows gangs plan = if rightB rows gangs plan = true then 0 else 4 from if_pos hc)
    rw [hc]
    clear hc
    go_wp2_with fail
    refine (l07Right_calls rows gangs plan HP.out _ _ _ _ HS.out HT.out HZ.out).mono ?_
    rintro e w2 ⟨rfl, hb2⟩
    by_cases hq : rightB rows gangs plan = true
    · have HE2 := Lib.hid (HE.out.trans (if_pos hq))
      rw [hq]
      clear hq
      go_wp2_with fail
      go_ret
      exact ⟨by rw [HE2.out]; rfl, hb2⟩
    · have HE2 := Lib.hid (HE.out.trans (if_neg hq))
      rw [Bool.not_eq_true] at hq
      rw [hq]
      clear hq
      go_wp2_with fail
      go_ret
      exact ⟨by rw [HE2.out]; rfl, hb2⟩
  · have HE := Lib.hid (show planned rows gangs plan = asked rows gangs from if_neg hc)
    have hcb : (asked rows gangs == 0) = false := by simpa using hc
    have hcb2 : (asked rows gangs != 0) = true := by simpa using hc
    clear hc
    go_wp2_with fail
    go_ret
    exact ⟨by rw [HE.out]; rfl, Below.refl _ _⟩
theorem specPlanDays_calls (rows : List Row) (hr : ∀ x ∈ rows, x.ok) (gangs : List Gang) (hg : ∀ x ∈ gangs, x.ok) (plan : List Int) (hp : ∀ q ∈ plan, -9223372036854775808 ≤ q ∧ q ≤ 9223372036854775807) (v u z : Value) (w : World)
    (hs : Sl w w.heap.size Row.c 2 v rows) (ht : Sl w w.heap.size Gang.c 5 u gangs) (hz : Sl w w.heap.size i64c 1 z plan) :
    Calls Try.prog 18 #[v, u, z] w fun e w' => e = .returned (.tuple #[.int .i64 (planDays rows gangs plan), .int .i64 (planned rows gangs plan)]) ∧ Below w.heap.size w w' := by
  have HS := Lib.hid hs
  have HT := Lib.hid ht
  have HZ := Lib.hid hz
  have HP := Lib.hid hp
  have HG := Lib.hid hg
  have HR := Lib.hid hr
  clear hs ht hz hp hg hr
  go_enter Try.func18, Try.ntmps18
  go_wp2_with fail
  refine (l07Planned_calls rows HR.out gangs HG.out plan HP.out _ _ _ _ HS.out HT.out HZ.out).mono ?_
  rintro e w1 ⟨rfl, hb1⟩
  by_cases hc : planned rows gangs plan = 0
  · have HC := Lib.hid hc
    obtain ⟨ha, hrb⟩ := planned_ok hc
    have HF := Lib.hid (Fine.of ha hrb)
    have HE := Lib.hid (show planDays rows gangs plan = _ from if_pos hc)
    rw [hc]
    clear hc ha hrb
    go_wp2_with fail
    refine (l07Sums_calls rows gangs plan HF.out _ _ _ _ (HS.out.ext hb1) (HT.out.ext hb1) (HZ.out.ext hb1)).mono ?_
    rintro e w2 ⟨rfl, hb2⟩
    go_wp2_with fail
    go_ret2
    exact ⟨ret_int2 (by rw [HE.out]) (by rw [HC.out]), ext_trans hb1 hb2⟩
  · have HE := Lib.hid (show planDays rows gangs plan = 0 from if_neg hc)
    have hcb : (planned rows gangs plan == 0) = false := by simpa using hc
    have hcb2 : (planned rows gangs plan != 0) = true := by simpa using hc
    clear hc
    go_wp2_with fail
    go_ret2
    exact ⟨ret_int2 (by rw [HE.out]) rfl, hb1⟩
theorem specPlanCost_calls (rows : List Row) (hr : ∀ x ∈ rows, x.ok) (gangs : List Gang) (hg : ∀ x ∈ gangs, x.ok) (plan : List Int) (hp : ∀ q ∈ plan, -9223372036854775808 ≤ q ∧ q ≤ 9223372036854775807) (v u z : Value) (w : World)
    (hs : Sl w w.heap.size Row.c 2 v rows) (ht : Sl w w.heap.size Gang.c 5 u gangs) (hz : Sl w w.heap.size i64c 1 z plan) :
    Calls Try.prog 10 #[v, u, z] w fun e w' => e = .returned (.tuple #[.int .i64 (planCost rows gangs plan), .int .i64 (planned rows gangs plan)]) ∧ Below w.heap.size w w' := by
  have HS := Lib.hid hs
  have HT := Lib.hid ht
  have HZ := Lib.hid hz
  have HP := Lib.hid hp
  have HG := Lib.hid hg
  have HR := Lib.hid hr
  clear hs ht hz hp hg hr
  go_enter Try.func10, Try.ntmps10
  go_wp2_with fail
  refine (l07Planned_calls rows HR.out gangs HG.out plan HP.out _ _ _ _ HS.out HT.out HZ.out).mono ?_
  rintro e w1 ⟨rfl, hb1⟩
  by_cases hc : planned rows gangs plan = 0
  · have HC := Lib.hid hc
    obtain ⟨ha, hrb⟩ := planned_ok hc
    have HF := Lib.hid (Fine.of ha hrb)
    have HE := Lib.hid (show planCost rows gangs plan = _ from if_pos hc)
    rw [hc]
    clear hc ha hrb
    go_wp2_with fail
    refine (l07Sums_calls rows gangs plan HF.out _ _ _ _ (HS.out.ext hb1) (HT.out.ext hb1) (HZ.out.ext hb1)).mono ?_
    rintro e w2 ⟨rfl, hb2⟩
    go_wp2_with fail
    go_ret2
    exact ⟨ret_int2 (by rw [HE.out]) (by rw [HC.out]), ext_trans hb1 hb2⟩
  · have HE := Lib.hid (show planCost rows gangs plan = 0 from if_neg hc)
    have hcb : (planned rows gangs plan == 0) = false := by simpa using hc
    have hcb2 : (planned rows gangs plan != 0) = true := by simpa using hc
    clear hc
    go_wp2_with fail
    go_ret2
    exact ⟨ret_int2 (by rw [HE.out]) rfl, hb1⟩
theorem reckoned_calls (rows : List Row) (hr : ∀ x ∈ rows, x.ok) (gangs : List Gang) (hg : ∀ x ∈ gangs, x.ok) (plan : List Int) (hp : ∀ q ∈ plan, -9223372036854775808 ≤ q ∧ q ≤ 9223372036854775807) (v u z : Value) (w : World)
    (hs : Sl w w.heap.size Row.c 2 v rows) (ht : Sl w w.heap.size Gang.c 5 u gangs) (hz : Sl w w.heap.size i64c 1 z plan) :
    Calls Try.prog 48 #[v, u, z] w fun e w' => e = .returned (.tuple #[.int .i64 (planDays rows gangs plan), .int .i64 (planCost rows gangs plan), .int .i64 (planned rows gangs plan)]) ∧ Below w.heap.size w w' := by
  have HS := Lib.hid hs
  have HT := Lib.hid ht
  have HZ := Lib.hid hz
  have HP := Lib.hid hp
  have HG := Lib.hid hg
  have HR := Lib.hid hr
  clear hs ht hz hp hg hr
  go_enter Try.func48, Try.ntmps48
  go_wp2_with fail
  refine (implCheckPlan_calls rows HR.out gangs HG.out plan HP.out _ _ _ _ HS.out HT.out HZ.out).mono ?_
  rintro e w1 ⟨rfl, hb1⟩
  by_cases hc : asked rows gangs = 0
  · have HC := Lib.hid hc
    have hk : checkPlan rows gangs plan = (rightB rows gangs plan, 0) := if_pos hc
    rw [hk]
    clear hk
    by_cases hq : rightB rows gangs plan = true
    · have hpl : planned rows gangs plan = 0 := by rw [planned, if_pos hc, if_pos hq]
      have HPL := Lib.hid hpl
      have HF := Lib.hid (Fine.of hc hq)
      have HE := Lib.hid (show planDays rows gangs plan = _ from if_pos hpl)
      have HE2 := Lib.hid (show planCost rows gangs plan = _ from if_pos hpl)
      rw [hq]
      clear hq hc hpl
      go_wp2_with fail
      refine (reckon_calls rows gangs plan HF.out _ _ _ _ (HS.out.ext hb1) (HT.out.ext hb1) (HZ.out.ext hb1)).mono ?_
      rintro e w2 ⟨rfl, hb2⟩
      go_wp2_with fail
      go_ret3
      exact ⟨ret_int3 (by rw [HE.out]) (by rw [HE2.out]) (by rw [HPL.out]), ext_trans hb1 hb2⟩
    · have hpl : planned rows gangs plan = 4 := by rw [planned, if_pos hc, if_neg hq]
      have hpn : ¬ planned rows gangs plan = 0 := by omega
      have HPL := Lib.hid hpl
      have HE := Lib.hid (show planDays rows gangs plan = 0 from if_neg hpn)
      have HE2 := Lib.hid (show planCost rows gangs plan = 0 from if_neg hpn)
      rw [Bool.not_eq_true] at hq
      rw [hq]
      clear hq hc hpl hpn
      go_wp2_with fail
      go_ret3
      exact ⟨ret_int3 (by rw [HE.out]) (by rw [HE2.out]) (by rw [HPL.out]), hb1⟩
  · have hk : checkPlan rows gangs plan = (false, asked rows gangs) := if_neg hc
    rw [hk]
    clear hk
    have hpl : planned rows gangs plan = asked rows gangs := by rw [planned, if_neg hc]
    have hpn : ¬ planned rows gangs plan = 0 := by omega
    have HPL := Lib.hid hpl
    have HE := Lib.hid (show planDays rows gangs plan = 0 from if_neg hpn)
    have HE2 := Lib.hid (show planCost rows gangs plan = 0 from if_neg hpn)
    have hcb : (asked rows gangs == 0) = false := by simpa using hc
    have hcb2 : (asked rows gangs != 0) = true := by simpa using hc
    clear hc hpl hpn
    go_wp2_with fail
    go_ret3
    exact ⟨ret_int3 (by rw [HE.out]) (by rw [HE2.out]) (by rw [HPL.out]), hb1⟩
theorem implPlanDays_calls (rows : List Row) (hr : ∀ x ∈ rows, x.ok) (gangs : List Gang) (hg : ∀ x ∈ gangs, x.ok) (plan : List Int) (hp : ∀ q ∈ plan, -9223372036854775808 ≤ q ∧ q ≤ 9223372036854775807) (v u z : Value) (w : World)
    (hs : Sl w w.heap.size Row.c 2 v rows) (ht : Sl w w.heap.size Gang.c 5 u gangs) (hz : Sl w w.heap.size i64c 1 z plan) :
    Calls Try.prog 19 #[v, u, z] w fun e w' => e = .returned (.tuple #[.int .i64 (planDays rows gangs plan), .int .i64 (planned rows gangs plan)]) ∧ Below w.heap.size w w' := by
  have HS := Lib.hid hs
  have HT := Lib.hid ht
  have HZ := Lib.hid hz
  have HP := Lib.hid hp
  have HG := Lib.hid hg
  have HR := Lib.hid hr
  clear hs ht hz hp hg hr
  go_enter Try.func19, Try.ntmps19
  go_wp2_with fail
  refine (reckoned_calls rows HR.out gangs HG.out plan HP.out _ _ _ _ HS.out HT.out HZ.out).mono ?_
  rintro e w1 ⟨rfl, hb1⟩
  go_wp2_with fail
  go_ret2
  exact ⟨ret_int2 rfl rfl, hb1⟩
theorem implPlanCost_calls (rows : List Row) (hr : ∀ x ∈ rows, x.ok) (gangs : List Gang) (hg : ∀ x ∈ gangs, x.ok) (plan : List Int) (hp : ∀ q ∈ plan, -9223372036854775808 ≤ q ∧ q ≤ 9223372036854775807) (v u z : Value) (w : World)
    (hs : Sl w w.heap.size Row.c 2 v rows) (ht : Sl w w.heap.size Gang.c 5 u gangs) (hz : Sl w w.heap.size i64c 1 z plan) :
    Calls Try.prog 14 #[v, u, z] w fun e w' => e = .returned (.tuple #[.int .i64 (planCost rows gangs plan), .int .i64 (planned rows gangs plan)]) ∧ Below w.heap.size w w' := by
  have HS := Lib.hid hs
  have HT := Lib.hid ht
  have HZ := Lib.hid hz
  have HP := Lib.hid hp
  have HG := Lib.hid hg
  have HR := Lib.hid hr
  clear hs ht hz hp hg hr
  go_enter Try.func14, Try.ntmps14
  go_wp2_with fail
  refine (reckoned_calls rows HR.out gangs HG.out plan HP.out _ _ _ _ HS.out HT.out HZ.out).mono ?_
  rintro e w1 ⟨rfl, hb1⟩
  go_wp2_with fail
  go_ret2
  exact ⟨ret_int2 rfl rfl, hb1⟩
end Go.Proofs.Ytkkkgpeilpfddaa
