/-
Contracts of the functions that check rows, gangs and plans, over plain lists. Conditions: numbers are of their kinds; slices can be read.
-/
import Derived.Test.YtkkkgpeilpfddaaG1
set_option linter.unusedVariables false
set_option linter.unusedSimpArgs false
set_option maxRecDepth 100000
namespace Go.Proofs.Ytkkkgpeilpfddaa
open Go.RowKit

def workS (xs : List Row) : Int := (xs.map Row.w).sum
theorem workS_succ (xs : List Row) (k : Nat) (hk : k < xs.length) : workS (xs.take (k + 1)) = workS (xs.take k) + xs[k].w := by
  unfold workS
  rw [List.take_succ_eq_append_getElem hk, List.map_append, List.sum_append]
  simp only [List.map_cons, List.map_nil, List.sum_cons, List.sum_nil, Int.add_zero]
theorem vRow_bounds {x : Row} (h : vRowB x = true) : 0 ≤ x.n ∧ x.n ≤ 9 ∧ 1 ≤ x.w ∧ x.w ≤ 2000 := by
  simp [vRowB, inB] at h
  omega
theorem workS_bounds (xs : List Row) (hv : ∀ x ∈ xs, vRowB x = true) : 0 ≤ workS xs ∧ workS xs ≤ 2000 * xs.length := by
  induction xs with
  | nil => simp [workS]
  | cons a r ih =>
    obtain ⟨h1, h2⟩ := ih (fun x hx => hv x (by simp [hx]))
    obtain ⟨_, _, h3, h4⟩ := vRow_bounds (hv a (by simp))
    have e : workS (a :: r) = a.w + workS r := by simp [workS]
    rw [e]
    simp only [List.length_cons]
    omega
theorem vRows_all {xs : List Row} (h : vRowsB xs = true) : xs.length ≤ 6 ∧ ∀ x ∈ xs, vRowB x = true := by
  simpa [vRowsB] using h
theorem l07Work_calls (xs : List Row) (h6 : xs.length ≤ 6) (hv : ∀ x ∈ xs, vRowB x = true) (v : Value) (w : World) (hs : Sl w w.heap.size Row.c 2 v xs) :
    Calls Try.prog 83 #[v] w fun e w' => e = .returned (.int .i64 (workS xs)) ∧ w = w' := by
  obtain ⟨A, cap, rfl, hl, hm, hcell⟩ := hs.row
  clear hs
  go_enter Try.func83, Try.ntmps83
  go_wp2_with fail
  go_loop [3, 4] (fun s i => ∃ k : Nat, k ≤ xs.length ∧ i = .int .i64 k ∧ s = .int .i64 (workS (xs.take k))) (fun _ i => xs.length - (intOf i).toNat)
  case atStart => exact ⟨0, by omega, rfl, rfl⟩
  case round =>
    obtain ⟨k, hk, rfl, rfl⟩ := hrel
    by_cases hlt : k < xs.length
    · obtain ⟨b, o, rfl, hb, h0, h1⟩ := hcell k hlt
      clear hcell
      obtain ⟨_, _, v0, v1⟩ := vRow_bounds (hv xs[k] (List.getElem_mem hlt))
      obtain ⟨s0, s1⟩ := workS_bounds (xs.take k) (fun x hx => hv x (List.mem_of_mem_take hx))
      have s2 : workS (xs.take k) ≤ 12000 := by
        have := List.length_take_le k xs
        omega
      have hE := Lib.hid (workS_succ xs k hlt)
      clear s1
      generalize workS (xs.take k) = a at hE s0 s2
      go_wp2_with fail
      go_round
      case rel => exact ⟨k + 1, by omega, by go_num, by rw [hE.out]⟩
      case measure => simp [intOf]; omega
    · have hE := Lib.hid (show workS (xs.take k) = workS xs from by rw [List.take_of_length_le (by omega)])
      generalize workS (xs.take k) = a at hE
      go_wp2_with fail
      go_ret
      exact ⟨ret_int hE.out, rfl⟩
theorem workOf_calls (xs : List Row) (h6 : xs.length ≤ 6) (hv : ∀ x ∈ xs, vRowB x = true) (v : Value) (w : World) (hs : Sl w w.heap.size Row.c 2 v xs) :
    Calls Try.prog 90 #[v] w fun e w' => e = .returned (.int .i64 (workS xs)) ∧ Below w.heap.size w w' := by
  obtain ⟨A, cap, rfl, hl, hm, hcell⟩ := hs.row
  clear hs
  go_enter Try.func90, Try.ntmps90
  go_wp2_with fail
  go_loopw [3, 8] (fun s i wr => ∃ k : Nat, k ≤ xs.length ∧ i = .int .i64 k ∧ s = .int .i64 (workS (xs.take k)) ∧ Below w.heap.size w wr) (fun _ i _ => xs.length - (intOf i).toNat)
  case atStart => exact ⟨0, by omega, rfl, rfl, Below.refl _ _⟩
  case round =>
    obtain ⟨k, hk, rfl, rfl, hbw⟩ := hrel
    by_cases hlt : k < xs.length
    · obtain ⟨b, o, rfl, hb, h0, h1⟩ := hcell k hlt
      clear hcell
      have h0 := (hbw.cell (p := ⟨b, _, none⟩) hb).trans h0
      have h1 := (hbw.cell (p := ⟨b, _, none⟩) hb).trans h1
      obtain ⟨_, _, v0, v1⟩ := vRow_bounds (hv xs[k] (List.getElem_mem hlt))
      obtain ⟨s0, s1⟩ := workS_bounds (xs.take k) (fun x hx => hv x (List.mem_of_mem_take hx))
      have s2 : workS (xs.take k) ≤ 12000 := by
        have := List.length_take_le k xs
        omega
      have hE := Lib.hid (workS_succ xs k hlt)
      clear s1
      generalize workS (xs.take k) = a at hE s0 s2
      go_wp2_with fail
      go_roundw
      case rel => exact ⟨k + 1, by omega, by go_num, by rw [hE.out], ext_alloc hbw _⟩
      case measure => simp [intOf]; omega
    · have hE := Lib.hid (show workS (xs.take k) = workS xs from by rw [List.take_of_length_le (by omega)])
      generalize workS (xs.take k) = a at hE
      go_wp2_with fail
      go_ret
      exact ⟨ret_int hE.out, hbw⟩
def asked (rows : List Row) (gangs : List Gang) : Int :=
  if vRowsB rows && gangs.all vGangB then (if 4 < gangs.length then 3 else if 2000 < workS rows then 2 else 0) else 1
theorem asked_ok {rows : List Row} {gangs : List Gang} (h : asked rows gangs = 0) : rows.length ≤ 6 ∧ (∀ x ∈ rows, vRowB x = true) ∧ (∀ g ∈ gangs, vGangB g = true) ∧ gangs.length ≤ 4 ∧ workS rows ≤ 2000 := by
  unfold asked at h
  split at h
  · rename_i h1
    rw [Bool.and_eq_true] at h1
    obtain ⟨h2, h3⟩ := h1
    obtain ⟨h4, h5⟩ := vRows_all h2
    split at h
    · omega
    · split at h
      · omega
      · exact ⟨h4, h5, by simpa using h3, by omega, by omega⟩
  · omega
theorem gangCodeFn (x : Gang) (hx : x.ok) (w : World) : Tells Try.prog 88 #[] Gang.v (fun x => !vGangB x) w x := by
  intro W hW
  unfold Gang.v
  go_enter Try.func88, Try.ntmps88
  go_wp2_with fail
  refine (implValidGang_calls x hx _).mono ?_
  rintro e w1 ⟨rfl, hb1⟩
  go_wp2_with fail
  go_ret
  exact ⟨rfl, ext_of_alloc hb1⟩
theorem gangCode_calls (rows : List Row) (hr : ∀ x ∈ rows, x.ok) (gangs : List Gang) (hg : ∀ x ∈ gangs, x.ok) (v u : Value) (w : World) (hs : Sl w w.heap.size Row.c 2 v rows) (ht : Sl w w.heap.size Gang.c 5 u gangs) :
    Calls Try.prog 53 #[v, u] w fun e w' => e = .returned (.int .i64 (asked rows gangs)) ∧ Below w.heap.size w w' := by
  have HS := Lib.hid hs
  have HT := Lib.hid ht
  have HG := Lib.hid hg
  have HR := Lib.hid hr
  obtain ⟨A, cap, rfl, hl, hm, _⟩ := hs.row
  obtain ⟨A2, cap2, rfl, hl2, hm2, _⟩ := ht.gang
  clear hs ht hg hr
  have eg := Lib.hid (enters_of Try.func88 (by kernel_rfl) rfl)
  cases hV : vRowsB rows
  · have HE := Lib.hid (show asked rows gangs = 1 from by simp [asked, hV])
    have HV := Lib.hid hV
    clear hV
    go_enter Try.func53, Try.ntmps53
    go_wp2_with fail
    refine (implValidRows_calls rows HR.out _ _ HS.out).mono ?_
    rintro e w1 ⟨rfl, hb1⟩
    rw [HV.out]
    go_wp2_with fail
    go_ret
    exact ⟨ret_int HE.out.symm, hb1⟩
  obtain ⟨h6, hall⟩ := vRows_all hV
  have HALL := Lib.hid hall
  clear hall
  cases hQ : gangs.any fun x => !vGangB x
  · have HA := Lib.hid (show gangs.all vGangB = true from by rw [List.all_eq_not_any_not]; simpa using hQ)
    by_cases h4 : 4 < gangs.length
    · have HE := Lib.hid (show asked rows gangs = 3 from by simp [asked, hV, HA.out, h4])
      have HV := Lib.hid hV
      have HQ := Lib.hid hQ
      clear hV hQ
      go_enter Try.func53, Try.ntmps53
      go_wp2_with fail
      refine (implValidRows_calls rows HR.out _ _ HS.out).mono ?_
      rintro e w1 ⟨rfl, hb1⟩
      rw [HV.out]
      go_wp2_with fail
      refine (containsFuncGang gangs _ _ (HT.out.ext hb1) _ _ _ eg.out (fun x h => gangCodeFn x (HG.out x h) _)).mono ?_
      rintro e w2 ⟨rfl, hb2⟩
      rw [HQ.out]
      go_wp2_with fail
      go_ret
      exact ⟨ret_int HE.out.symm, ext_trans hb1 hb2⟩
    · have HE := Lib.hid (show asked rows gangs = if workS rows ≤ 2000 then 0 else 2 from by
        simp only [asked, hV, HA.out, h4, Bool.and_self, if_true, if_false]
        split <;> split <;> omega)
      have HV := Lib.hid hV
      have HQ := Lib.hid hQ
      clear hV hQ
      go_enter Try.func53, Try.ntmps53
      go_wp2_with fail
      refine (implValidRows_calls rows HR.out _ _ HS.out).mono ?_
      rintro e w1 ⟨rfl, hb1⟩
      rw [HV.out]
      go_wp2_with fail
      refine (containsFuncGang gangs _ _ (HT.out.ext hb1) _ _ _ eg.out (fun x h => gangCodeFn x (HG.out x h) _)).mono ?_
      rintro e w2 ⟨rfl, hb2⟩
      rw [HQ.out]
      have hb3 := ext_trans hb1 hb2
      clear hb1 hb2
      go_wp2_with fail
      refine (workOf_calls rows h6 HALL.out _ _ (HS.out.ext hb3)).mono ?_
      rintro e w3 ⟨rfl, hb4⟩
      have hb5 := ext_trans hb3 hb4
      clear hb4
      generalize workS rows = q at HE
      by_cases hq : q ≤ 2000
      all_goals
        go_wp2_with ((with_reducible refine (unless_calls _ _ _).mono ?_); rintro e w' ⟨rfl, rfl⟩)
        go_ret
        exact ⟨ret_int (by rw [HE.out]; simp [hq]), hb5⟩
  · have HE := Lib.hid (show asked rows gangs = 1 from by
      have : gangs.all vGangB = false := by rw [List.all_eq_not_any_not]; simpa using hQ
      simp [asked, this])
    have HV := Lib.hid hV
    have HQ := Lib.hid hQ
    clear hV hQ
    go_enter Try.func53, Try.ntmps53
    go_wp2_with fail
    refine (implValidRows_calls rows HR.out _ _ HS.out).mono ?_
    rintro e w1 ⟨rfl, hb1⟩
    rw [HV.out]
    go_wp2_with fail
    refine (containsFuncGang gangs _ _ (HT.out.ext hb1) _ _ _ eg.out (fun x h => gangCodeFn x (HG.out x h) _)).mono ?_
    rintro e w2 ⟨rfl, hb2⟩
    rw [HQ.out]
    go_wp2_with fail
    go_ret
    exact ⟨ret_int HE.out.symm, ext_trans hb1 hb2⟩
theorem l07Asked_calls (rows : List Row) (hr : ∀ x ∈ rows, x.ok) (gangs : List Gang) (hg : ∀ x ∈ gangs, x.ok) (v u : Value) (w : World) (hs : Sl w w.heap.size Row.c 2 v rows) (ht : Sl w w.heap.size Gang.c 5 u gangs) :
    Calls Try.prog 51 #[v, u] w fun e w' => e = .returned (.int .i64 (asked rows gangs)) ∧ w = w' := by
  have HS := Lib.hid hs
  have HG := Lib.hid hg
  have HR := Lib.hid hr
  obtain ⟨A, cap, rfl, hl, hm, _⟩ := hs.row
  obtain ⟨A2, cap2, rfl, hl2, hm2, hcell⟩ := ht.gang
  clear hs ht hg hr
  go_enter Try.func51, Try.ntmps51
  go_wp2_with fail
  go_loop [5] (fun i => ∃ k : Nat, k ≤ gangs.length ∧ i = .int .i64 k ∧ (gangs.take k).all vGangB = true) (fun i => gangs.length - (intOf i).toNat)
  case atStart => exact ⟨0, by omega, rfl, rfl⟩
  case round =>
    obtain ⟨k, hk, rfl, hall⟩ := hrel
    have HA := Lib.hid hall
    clear hall
    by_cases hlt : k < gangs.length
    · obtain ⟨b, o, rfl, hbb, hat⟩ := hcell k hlt
      have HAT := Lib.hid hat
      clear hat hcell
      have hno := fun (h : vGangB gangs[k] = false) => Lib.hid (show asked rows gangs = 1 from by rw [asked, all_false_at _ gangs k hlt h, Bool.and_false]; rfl)
      have hyes := fun (h : vGangB gangs[k] = true) => Lib.hid (take_all_succ vGangB gangs k hlt HA.out h)
      go_wp2_with fail
      refine (l07Gang_calls _ _ gangs[k] (HG.out _ (List.getElem_mem hlt)) _ HAT.out).mono ?_
      rintro e w1 ⟨rfl, rfl⟩
      cases hv : vGangB gangs[k]
      · have hE := hno hv
        clear hno hyes hv
        go_wp2_with fail
        go_ret
        exact ⟨ret_int hE.out.symm, rfl⟩
      · have hE := hyes hv
        clear hno hyes hv
        go_wp2_with fail
        go_round
        case rel => exact ⟨k + 1, by omega, by go_num, hE.out⟩
        case measure => simp [intOf]; omega
    · have HV := Lib.hid (all_of_take _ gangs k (by omega) HA.out)
      clear HA hk
      go_wp2_with fail
      refine (l07Rows_calls rows HR.out _ _ HS.out).mono ?_
      rintro e w1 ⟨rfl, rfl⟩
      cases hR : vRowsB rows
      · have HE := Lib.hid (show asked rows gangs = 1 from by simp [asked, hR])
        clear hR
        go_wp2_with fail
        go_ret
        exact ⟨ret_int HE.out.symm, rfl⟩
      obtain ⟨h6, hall⟩ := vRows_all hR
      have HALL := Lib.hid hall
      clear hall
      by_cases h4 : 4 < gangs.length
      · have HE := Lib.hid (show asked rows gangs = 3 from by simp [asked, hR, HV.out, h4])
        clear hR
        go_wp2_with fail
        go_ret
        exact ⟨ret_int HE.out.symm, rfl⟩
      · have HE := Lib.hid (show asked rows gangs = if 2000 < workS rows then 2 else 0 from by simp [asked, hR, HV.out, h4])
        clear hR
        go_wp2_with fail
        refine (l07Work_calls rows h6 HALL.out _ _ HS.out).mono ?_
        rintro e w1 ⟨rfl, rfl⟩
        generalize workS rows = q at HE
        by_cases hq : 2000 < q
        all_goals
          go_wp2_with fail
          go_ret
          exact ⟨ret_int (by rw [HE.out]; simp [hq]), rfl⟩
/-- A number of a plan is right for a row. -/
def okAt (gangs : List Gang) (q : Int × Row) : Bool := inB q.1 0 (gangs.length - 1) && decide (q.2.n ≤ (gangs.getD q.1.toNat ⟨0, 0, 0, 0, 0⟩).s)
def rightB (rows : List Row) (gangs : List Gang) (plan : List Int) : Bool := decide (plan.length = rows.length) && (plan.zip rows).all (okAt gangs)
theorem rightB_no_len {rows : List Row} {gangs : List Gang} {plan : List Int} (h : plan.length ≠ rows.length) : rightB rows gangs plan = false := by simp [rightB, h]
theorem rightB_no {rows : List Row} {gangs : List Gang} {plan : List Int} (h : plan.length = rows.length) (k : Nat) (hk : k < plan.length) (h2 : okAt gangs (plan[k], rows[k]'(by omega)) = false) : rightB rows gangs plan = false := by
  have hl : k < (plan.zip rows).length := by rw [List.length_zip]; omega
  rw [rightB, all_false_at _ _ k hl (by rw [List.getElem_zip]; exact h2), Bool.and_false]
theorem rightB_yes {rows : List Row} {gangs : List Gang} {plan : List Int} (h : plan.length = rows.length) (h2 : ((plan.zip rows).take plan.length).all (okAt gangs) = true) : rightB rows gangs plan = true := by
  rw [List.take_of_length_le (by rw [List.length_zip]; omega)] at h2
  simp [rightB, h, h2]
theorem right_succ {rows : List Row} {gangs : List Gang} {plan : List Int} (h : plan.length = rows.length) (k : Nat) (hk : k < plan.length) (h0 : ((plan.zip rows).take k).all (okAt gangs) = true) (h2 : okAt gangs (plan[k], rows[k]'(by omega)) = true) :
    ((plan.zip rows).take (k + 1)).all (okAt gangs) = true := by
  have hl : k < (plan.zip rows).length := by rw [List.length_zip]; omega
  exact take_all_succ _ _ k hl h0 (by rw [List.getElem_zip]; exact h2)
theorem okAt_true {gangs : List Gang} {p : Int} {r : Row} (hi : inB p 0 (gangs.length - 1) = true) (hl : p.toNat < gangs.length) : okAt gangs (p, r) = decide (r.n ≤ gangs[p.toNat].s) := by
  simp [okAt, hi, List.getD_eq_getElem?_getD, hl]
theorem sizeGang_calls (gangs : List Gang) (u : Value) (w : World) (ht : Sl w w.heap.size Gang.c 5 u gangs) :
    Calls Try.prog 105 #[u] w fun e w' => e = .returned (.int .i64 gangs.length) ∧ w = w' := by
  obtain ⟨A2, cap2, rfl, hl2, hm2, hcell⟩ := ht.gang
  go_enter Try.func105, Try.ntmps105
  go_wp2_with fail
  go_ret
  exact ⟨rfl, rfl⟩
set_option maxHeartbeats 1000000 in
theorem isRight_calls (rows : List Row) (gangs : List Gang) (plan : List Int) (hp : ∀ q ∈ plan, -9223372036854775808 ≤ q ∧ q ≤ 9223372036854775807) (v u z : Value) (w : World)
    (hs : Sl w w.heap.size Row.c 2 v rows) (ht : Sl w w.heap.size Gang.c 5 u gangs) (hz : Sl w w.heap.size i64c 1 z plan) :
    Calls Try.prog 100 #[v, u, z] w fun e w' => e = .returned (.bool (rightB rows gangs plan)) ∧ Below w.heap.size w w' := by
  have HT := Lib.hid ht
  obtain ⟨A, cap, rfl, hl, hm, hcell⟩ := hs.row
  obtain ⟨A2, cap2, rfl, hl2, hm2, hcell2⟩ := ht.gang
  obtain ⟨A3, cap3, rfl, hl3, hm3, hcell3⟩ := hz.i64
  clear hs ht hz
  by_cases hlen : plan.length = rows.length
  · have hq : ((plan.length : Int) != (rows.length : Int)) = false := by simp [hlen]
    have HL := Lib.hid hlen
    clear hlen
    go_enter Try.func100, Try.ntmps100
    go_wp2_with fail
    go_loopw [7, 8, 16] (fun _ _ i wr => ∃ k : Nat, k ≤ plan.length ∧ i = .int .i64 k ∧ ((plan.zip rows).take k).all (okAt gangs) = true ∧ Below w.heap.size w wr) (fun _ _ i _ => plan.length - (intOf i).toNat)
    case atStart => exact ⟨0, by omega, rfl, rfl, Below.refl _ _⟩
    case round =>
      obtain ⟨k, hk, rfl, hall, hb⟩ := hrel
      have HA := Lib.hid hall
      clear hall
      by_cases hlt : k < plan.length
      · have hlt2 : k < rows.length := by have := HL.out; omega
        obtain ⟨b3, o3, rfl, hbb3, k0⟩ := hcell3 k hlt
        obtain ⟨b, o, rfl, hbb, h0, h1⟩ := hcell k hlt2
        clear hcell hcell3
        have k0 := (hb.cell (p := ⟨b3, _, none⟩) hbb3).trans k0
        have h0 := (hb.cell (p := ⟨b, _, none⟩) hbb).trans h0
        have HN := Lib.hid (fun (h : okAt gangs (plan[k], rows[k]) = false) => rightB_no (gangs := gangs) HL.out k hlt h)
        have HY := Lib.hid (fun (h : okAt gangs (plan[k], rows[k]) = true) => right_succ (gangs := gangs) HL.out k hlt HA.out h)
        obtain ⟨p0, p1⟩ := hp plan[k] (List.getElem_mem hlt)
        have HTW := Lib.hid (HT.out.ext hb)
        clear h1
        generalize plan[k] = p at *
        generalize rows[k] = r at *
        cases hi : inB p 0 (gangs.length - 1)
        · have hE := Lib.hid (HN.out (by simp [okAt, hi]))
          go_wp2_with fail
          go_quiet (first | (go_at_call 105; exact quiet_same (sizeGang_calls gangs _ _ (HTW.out.ext (ext_drewN (Below.refl _ _) _)))) | (go_at_call 58; exact quiet_same (within_calls _ _ _ _)))
          go_wp2_with fail
          go_ret
          exact ⟨ret_bool hE.out.symm, ext_drewN hb _⟩
        · obtain ⟨i0, i1⟩ := inB_true.1 hi
          have hgl : p.toNat < gangs.length := by omega
          have i2 : p < (gangs.length : Int) := by omega
          obtain ⟨b2, o2, rfl, hbb2, g0, _, _, _, _⟩ := hcell2 p.toNat hgl
          have g0 := (hb.cell (p := ⟨b2, _, none⟩) hbb2).trans g0
          have HO := Lib.hid (okAt_true (r := r) hi hgl)
          clear hcell2
          generalize gangs[p.toNat] = g at *
          by_cases hn : r.n ≤ g.s
          · have hE := Lib.hid (HY.out (by rw [HO.out]; simpa using hn))
            go_wp2_with fail
            go_quiet (first | (go_at_call 105; exact quiet_same (sizeGang_calls gangs _ _ (HTW.out.ext (ext_drewN (Below.refl _ _) _)))) | (go_at_call 58; exact quiet_same (within_calls _ _ _ _)))
            go_wp2_with fail
            go_roundw
            case rel => exact ⟨k + 1, by omega, by go_num, hE.out, ext_drewN hb _⟩
            case measure => simp [intOf]; omega
          · have hE := Lib.hid (HN.out (by rw [HO.out]; simpa using hn))
            go_wp2_with fail
            go_quiet (first | (go_at_call 105; exact quiet_same (sizeGang_calls gangs _ _ (HTW.out.ext (ext_drewN (Below.refl _ _) _)))) | (go_at_call 58; exact quiet_same (within_calls _ _ _ _)))
            go_wp2_with fail
            go_ret
            exact ⟨ret_bool hE.out.symm, ext_drewN hb _⟩
      · have hE := Lib.hid (rightB_yes (gangs := gangs) HL.out (by have : k = plan.length := by omega
                                                                   rw [← this]; exact HA.out))
        go_wp2_with fail
        go_ret
        exact ⟨ret_bool hE.out.symm, hb⟩
  · have hq : ((plan.length : Int) != (rows.length : Int)) = true := by rw [bne_iff_ne]; omega
    have hE := Lib.hid (rightB_no_len (gangs := gangs) hlen)
    clear hlen
    go_enter Try.func100, Try.ntmps100
    go_wp2_with fail
    go_ret
    exact ⟨ret_bool hE.out.symm, Below.refl _ _⟩
theorem Gang.at_drwN {w : World} {b o : Nat} {m : Gang} (h : Gang.at_ w b o m) (n : Nat) : Gang.at_ (w.drewN n) b o m := h
theorem Row.at_drwN {w : World} {b o : Nat} {m : Row} (h : Row.at_ w b o m) (n : Nat) : Row.at_ (w.drewN n) b o m := h
theorem l07May_b (b o b2 o2 : Nat) (x : Gang) (r : Row) (q : Bool) (hq : decide (r.n ≤ x.s) = q) (w : World) (hat : Gang.at_ w b o x) (hat2 : Row.at_ w b2 o2 r) :
    Calls Try.prog 85 #[.pointer (some ⟨b, o, none⟩), .pointer (some ⟨b2, o2, none⟩)] w fun e w' => e = .returned (.bool q) ∧ ∃ n, w' = w.drewN n := by
  subst hq
  exact l07May_calls b o b2 o2 x r w hat hat2
set_option maxHeartbeats 1000000 in
theorem l07Right_calls (rows : List Row) (gangs : List Gang) (plan : List Int) (hp : ∀ q ∈ plan, -9223372036854775808 ≤ q ∧ q ≤ 9223372036854775807) (v u z : Value) (w : World)
    (hs : Sl w w.heap.size Row.c 2 v rows) (ht : Sl w w.heap.size Gang.c 5 u gangs) (hz : Sl w w.heap.size i64c 1 z plan) :
    Calls Try.prog 77 #[v, u, z] w fun e w' => e = .returned (.bool (rightB rows gangs plan)) ∧ Below w.heap.size w w' := by
  obtain ⟨A, cap, rfl, hl, hm, hcell⟩ := hs.row
  obtain ⟨A2, cap2, rfl, hl2, hm2, hcell2⟩ := ht.gang
  obtain ⟨A3, cap3, rfl, hl3, hm3, hcell3⟩ := hz.i64
  clear hs ht hz
  by_cases hlen : plan.length = rows.length
  · have hq : ((plan.length : Int) != (rows.length : Int)) = false := by simp [hlen]
    have HL := Lib.hid hlen
    clear hlen
    go_enter Try.func77, Try.ntmps77
    go_wp2_with fail
    go_loopw [7] (fun i wr => ∃ k : Nat, k ≤ plan.length ∧ i = .int .i64 k ∧ ((plan.zip rows).take k).all (okAt gangs) = true ∧ Below w.heap.size w wr) (fun i _ => plan.length - (intOf i).toNat)
    case atStart => exact ⟨0, by omega, rfl, rfl, Below.refl _ _⟩
    case round =>
      obtain ⟨k, hk, rfl, hall, hb⟩ := hrel
      have HA := Lib.hid hall
      clear hall
      by_cases hlt : k < plan.length
      · have hlt2 : k < rows.length := by have := HL.out; omega
        obtain ⟨b3, o3, rfl, hbb3, k0⟩ := hcell3 k hlt
        obtain ⟨b, o, rfl, hbb, h0, h1⟩ := hcell k hlt2
        clear hcell hcell3
        have k0 := (hb.cell (p := ⟨b3, _, none⟩) hbb3).trans k0
        have h0 := (hb.cell (p := ⟨b, _, none⟩) hbb).trans h0
        have h1 := (hb.cell (p := ⟨b, _, none⟩) hbb).trans h1
        have HN := Lib.hid (fun (h : okAt gangs (plan[k], rows[k]) = false) => rightB_no (gangs := gangs) HL.out k hlt h)
        have HY := Lib.hid (fun (h : okAt gangs (plan[k], rows[k]) = true) => right_succ (gangs := gangs) HL.out k hlt HA.out h)
        obtain ⟨p0, p1⟩ := hp plan[k] (List.getElem_mem hlt)
        generalize plan[k] = p at *
        generalize rows[k] = r at *
        have HRA := Lib.hid (show Row.at_ _ b (o + k * 2) r from ⟨h0, h1⟩)
        clear h0 h1
        have hwr : IntKind.i64.wrap ((gangs.length : Int) - 1) = (gangs.length : Int) - 1 := by rw [IntKind.wrap_i64]; omega
        cases hi : inB p 0 (gangs.length - 1)
        · have hE := Lib.hid (HN.out (by simp [okAt, hi]))
          go_wp2_with fail
          go_quiet (first | (go_at_call 56; exact quiet_same (in_calls _ _ _ _)))
          go_wp2_with fail
          go_ret
          exact ⟨ret_bool hE.out.symm, ext_drewN hb _⟩
        · obtain ⟨i0, i1⟩ := inB_true.1 hi
          have hgl : p.toNat < gangs.length := by omega
          have i2 : p < (gangs.length : Int) := by omega
          obtain ⟨b2, o2, rfl, hbb2, hat⟩ := hcell2 p.toNat hgl
          have HAT := Lib.hid (Gang.at_ext hat hb hbb2)
          have HO := Lib.hid (okAt_true (r := r) hi hgl)
          clear hcell2 hat
          generalize gangs[p.toNat] = g at *
          cases hn : decide (r.n ≤ g.s)
          · have hE := Lib.hid (HN.out (by rw [HO.out]; exact hn))
            have HN2 := Lib.hid hn
            clear hn
            go_wp2_with fail
            go_quiet (first | (go_at_call 56; exact quiet_same (in_calls _ _ _ _)) | (go_at_call 85; exact Calls.quiet_of (l07May_b _ _ _ _ g r _ HN2.out _ (Gang.at_drwN HAT.out _) (Row.at_drwN HRA.out _))))
            go_wp2_with fail
            go_ret
            exact ⟨ret_bool hE.out.symm, ext_drewN hb _⟩
          · have hE := Lib.hid (HY.out (by rw [HO.out]; exact hn))
            have HN2 := Lib.hid hn
            clear hn
            go_wp2_with fail
            go_quiet (first | (go_at_call 56; exact quiet_same (in_calls _ _ _ _)) | (go_at_call 85; exact Calls.quiet_of (l07May_b _ _ _ _ g r _ HN2.out _ (Gang.at_drwN HAT.out _) (Row.at_drwN HRA.out _))))
            go_wp2_with fail
            go_roundw
            case rel => exact ⟨k + 1, by omega, by go_num, hE.out, ext_drewN hb _⟩
            case measure => simp [intOf]; omega
      · have hE := Lib.hid (rightB_yes (gangs := gangs) HL.out (by have : k = plan.length := by omega
                                                                   rw [← this]; exact HA.out))
        go_wp2_with fail
        go_ret
        exact ⟨ret_bool hE.out.symm, hb⟩
  · have hq : ((plan.length : Int) != (rows.length : Int)) = true := by rw [bne_iff_ne]; omega
    have hE := Lib.hid (rightB_no_len (gangs := gangs) hlen)
    clear hlen
    go_enter Try.func77, Try.ntmps77
    go_wp2_with fail
    go_ret
    exact ⟨ret_bool hE.out.symm, Below.refl _ _⟩
def checkPlan (rows : List Row) (gangs : List Gang) (plan : List Int) : Bool × Int := if asked rows gangs = 0 then (rightB rows gangs plan, 0) else (false, asked rows gangs)
theorem implCheckPlan_calls (rows : List Row) (hr : ∀ x ∈ rows, x.ok) (gangs : List Gang) (hg : ∀ x ∈ gangs, x.ok) (plan : List Int) (hp : ∀ q ∈ plan, -9223372036854775808 ≤ q ∧ q ≤ 9223372036854775807) (v u z : Value) (w : World)
    (hs : Sl w w.heap.size Row.c 2 v rows) (ht : Sl w w.heap.size Gang.c 5 u gangs) (hz : Sl w w.heap.size i64c 1 z plan) :
    Calls Try.prog 79 #[v, u, z] w fun e w' => e = .returned (.tuple #[.bool (checkPlan rows gangs plan).1, .int .i64 (checkPlan rows gangs plan).2]) ∧ Below w.heap.size w w' := by
  have HS := Lib.hid hs
  have HT := Lib.hid ht
  have HZ := Lib.hid hz
  have HP := Lib.hid hp
  have HG := Lib.hid hg
  have HR := Lib.hid hr
  clear hs ht hz hp hg hr
  by_cases hc : asked rows gangs = 0
  · have HE := Lib.hid (show checkPlan rows gangs plan = (rightB rows gangs plan, 0) from if_pos hc)
    have HC := Lib.hid hc
    clear hc
    go_enter Try.func79, Try.ntmps79
    go_wp2_with fail
    refine (gangCode_calls rows HR.out gangs HG.out _ _ _ HS.out HT.out).mono ?_
    rintro e w1 ⟨rfl, hb1⟩
    have hb1' := hb1
    rw [HC.out]
    go_wp2_with fail
    refine (isRight_calls rows gangs plan HP.out _ _ _ _ (HS.out.ext hb1') (HT.out.ext hb1') (HZ.out.ext hb1')).mono ?_
    rintro e w2 ⟨rfl, hb2⟩
    go_wp2_with fail
    go_ret2
    exact ⟨ret_bool_int (by rw [HE.out]) (by rw [HE.out]), ext_trans hb1' hb2⟩
  · have HE := Lib.hid (show checkPlan rows gangs plan = (false, asked rows gangs) from if_neg hc)
    have hq : (asked rows gangs != 0) = true := by simpa using hc
    clear hc
    generalize hA : asked rows gangs = q at HE hq
    have HA := Lib.hid hA
    clear hA
    go_enter Try.func79, Try.ntmps79
    go_wp2_with fail
    refine (gangCode_calls rows HR.out gangs HG.out _ _ _ HS.out HT.out).mono ?_
    rintro e w1 ⟨rfl, hb1⟩
    have hb1' := hb1
    rw [HA.out]
    go_wp2_with fail
    go_ret2
    exact ⟨ret_bool_int (by rw [HE.out]) (by rw [HE.out]), hb1'⟩
end Go.Proofs.Ytkkkgpeilpfddaa
