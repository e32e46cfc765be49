/-
bestPlan's recursion over closures, the inner part; bestPlan itself. Conditions: rows and gangs are asked rightly; the boxes stand.
-/
import Derived.Test.YtkkkgpeilpfddaaG15
set_option linter.unusedVariables false
set_option linter.unusedSimpArgs false
set_option maxRecDepth 100000
namespace Go.Proofs.Ytkkkgpeilpfddaa
open Go.RowKit
theorem step_push_i64 {ops : Array Oper} {o : Oper} {a : Act} {K : Act → World → Prop} {Q : Exit → Act → World → Prop} {E : Prop} {W : World} (hgd : o.guard = none) (s x : Operand)
    (ho : o.op = .call { callee := .builtin .append, args := #[s, x], argTypes := #[24, 24] }) (B : Nat) (xs : List Int) (v : Value) (hs : a.eval s = v)
    (hown : Own W B 2 i64c 1 v xs) (ad : Addr) (n : Int) (hx : a.eval x = .slice (some ad) 1 1) (hc : W.cell? ad = some (.int .i64 n)) (hn : xs.length ≤ 1000000) (hB : B ≤ W.heap.size) (ys : List Int) (hy : ys = xs ++ [n])
    (h : ∀ g cap w', Own w' B 2 i64c 1 (.slice (some ⟨g, 0, none⟩) ys.length cap) ys → W.grownBy w' v.ownBlock → K (a.put o.dst (.slice (some ⟨g, 0, none⟩) ys.length cap)) w') :
    if Region.wanted o (yielded ops a.tmps) = true then Oper.wp Try.prog o a W K Q else E := by
  subst hy
  obtain ⟨i, hi, hz⟩ := Option.map_eq_some_iff.1 (show (Try.prog.info? 2).map (fun i => (i.zero, i.size, i.bytes)) = some (some (.int .i64 0), 1, 8) from by kernel_rfl)
  simp only [Prod.mk.injEq] at hz
  obtain ⟨hz0, hz1, hz2⟩ := hz
  refine step_append_lies W hgd s x 24 ho B 2 i (.int .i64 0) 1 8 Try.underlying24 hi hz0 hz1 hz2 rfl (by omega) v xs.length _ hs hown.out ad 1 1 [.int .i64 n] hx rfl ?_ ?_ (by omega) (by unfold maxLen; omega) (by omega) hB _ rfl ?_
  · intro j u hj
    match j with
    | 0 => simp at hj; subst hj; simpa [Addr.add] using hc
    | j + 1 => simp at hj
  · intro u hu
    simp at hu
    subst hu
    rfl
  · intro g cap w' ho' hg _ _
    have e : (xs ++ [n]).length = xs.length + 1 := by simp
    have := h g cap w' ⟨by rw [e]; simpa [i64c] using ho'⟩ hg
    rw [e] at this
    exact this
abbrev Bx.R8 (x : Bx) (cf : Value) (B : Nat) (W0 w' : World) : Prop := Below B W0 w' ∧ w'.cell? ⟨x.C, 0, none⟩ = some cf
theorem Bx.R8.of {x : Bx} {v u nf cf : Value} {W W' : World} {s : List Int × Int} {B : Nat} (h : x.S v u nf cf W s) (hB : B ≤ W.heap.size) (hb : Below W.heap.size W W') : x.R8 cf B W W' :=
  ⟨hb.mono hB, (hb.cell (p := ⟨x.C, 0, none⟩) h.lC).trans h.hC⟩
theorem first_pv {D p q : Nat} {W W' : World} {v : Value} {xs : List Int} (h : PV D p q W v xs) (hb : Below W.heap.size W W') : PV D p q W' v xs := h.keep (Kept.of hb)
set_option maxHeartbeats 8000000 in
theorem choose_calls (rows : List Row) (gangs : List Gang) (ha : asked rows gangs = 0) (w0 : World) (v u : Value) (gN : FuncId) (lbN : Array Value) (numb : Int → Int → Int × Bool) (x : Bx) (lb : Array Value) (hlb : lb = x.lb) (hx0 : w0.heap.size ≤ x.L ∧ w0.heap.size ≤ x.B ∧ x.D ≤ w0.heap.size)
    (HS : Sl w0 w0.heap.size Row.c 2 v rows) (HT : Sl w0 w0.heap.size Gang.c 5 u gangs) (HN : Numb gN lbN numb w0) (eN : Enters Try.prog gN) :
    ∀ (r : Nat) (plan : List Int) (pv : Value) (W : World) (s : List Int × Int), plan.length + r = rows.length → (∀ q ∈ plan, 0 ≤ q ∧ q < gangs.length) → Below w0.heap.size w0 W →
    x.S v u (.func (.func gN) #[] lbN) (.func (.func 91) #[] lb) W s → PV x.D x.L x.B W pv plan →
    Calls Try.prog 91 (#[pv] ++ lb) W fun e W' => e = .returned (.tuple #[]) ∧ Kept x.L x.B W W' ∧ x.S v u (.func (.func gN) #[] lbN) (.func (.func 91) #[] lb) W' (bestOf (numOf numb rows gangs) (allN rows gangs r plan) s) := by
  intro r
  induction r with
  | zero =>
    intro plan pv W s hr hp hW hx hv
    have := choose_leaf rows gangs ha w0 v u gN lbN numb x _ HS HT HN eN plan pv W s (by omega) hp hW hx hv (Nat.le_trans hx0.2.2 hW.size)
    rw [hlb] at this ⊢
    exact this
  | succ r ih =>
    intro plan pv W s hr hp hW hx hv
    have eC := Lib.hid (enters_of Try.func91 (by kernel_rfl) rfl)
    obtain ⟨h1, h2, h3, h4, h5⟩ := asked_ok ha
    have hq : ((plan.length : Int) == (rows.length : Int)) = false := by rw [beq_eq_false_iff_ne]; omega
    have hrl : plan.length < rows.length := by omega
    have hrl2 : (plan.length : Int) < (rows.length : Int) := by omega
    have hp6 := Lib.hid (show plan.length ≤ 1000000 from by omega)
    obtain ⟨A, cap, rfl, hl1, hm1, hcell⟩ := HS.row
    obtain ⟨A2, cap2, rfl, hl2, hm2, hcell2⟩ := HT.gang
    obtain ⟨A3, cap3, rfl, hl3, hm3, -⟩ := hv.sl.i64
    have HX := Lib.hid hx
    have HV := Lib.hid hv
    have HW := Lib.hid hW
    have HP := Lib.hid hp
    have HR := Lib.hid hr
    have HX0 := Lib.hid hx0
    have HLB := Lib.hid hlb
    have LL := Lib.hid hx.hL.lt
    have LB := Lib.hid (show x.B < W.heap.size from by obtain ⟨bv, h, _⟩ := hx.hB; exact h.lt)
    have c1 := hx.hR
    have c3 := hx.hG
    have HIH := Lib.hid ih
    clear hx hv HS HT ha h1 h2 h3 h5 hp ih hx0
    have hlb' : (#[Value.slice A3 plan.length cap3] ++ lb) = #[.slice A3 plan.length cap3, .pointer (some ⟨x.R, 0, none⟩), .pointer (some ⟨x.N, 0, none⟩), .pointer (some ⟨x.G, 0, none⟩), .pointer (some ⟨x.L, 0, none⟩), .pointer (some ⟨x.B, 0, none⟩), .pointer (some ⟨x.C, 0, none⟩)] := by rw [hlb]; rfl
    rw [hlb']
    clear hlb' hlb hr
    go_enter Try.func91, Try.ntmps91
    go_wp2_with fail
    go_loopw [43] (fun i wr => ∃ k : Nat, k ≤ gangs.length ∧ i = .int .i64 k ∧ Kept x.L x.B W wr ∧ x.S (.slice A rows.length cap) (.slice A2 gangs.length cap2) (.func (.func gN) #[] lbN) (.func (.func 91) #[] lb) wr (bestOf (numOf numb rows gangs) (allTo rows gangs r plan k) s)) (fun i _ => gangs.length - (intOf i).toNat)
    case atStart => exact ⟨0, by omega, rfl, Kept.refl _ _ _, by simpa [allTo, bestOf] using HX.out⟩
    case round =>
      obtain ⟨k, hk, rfl, hK, hS⟩ := hrel
      obtain ⟨wo, rfl⟩ : ∃ wo : World, wo = wr := ⟨_, rfl⟩
      have HK := Lib.hid hK
      have HSS := Lib.hid hS
      by_cases hlt : k < gangs.length
      · obtain ⟨b2, o2, rfl, hbb2, hat⟩ := hcell2 k hlt
        obtain ⟨b, o, rfl, hbb, h0, -⟩ := hcell plan.length hrl
        have hbW := Lib.hid (hW.trans (hK.below hW.size HX0.out.1 HX0.out.2.1))
        obtain ⟨g0, g1, g2, g3, g4⟩ := Gang.at_ext hat hbW.out hbb2
        have r0 := (hbW.out.cell (p := ⟨b, _, none⟩) hbb).trans h0
        have c1 := hS.hR
        have hS0 := hS
        clear hcell hcell2 hat h0 hS hK
        obtain ⟨q, hq9⟩ : ∃ q, okRow gangs[k] rows[plan.length] = q := ⟨_, rfl⟩
        have hok := Lib.hid (show okRow (gangs.getD k ⟨0, 0, 0, 0, 0⟩) (rows.getD plan.length ⟨0, 0⟩) = q from by rw [getD_eq _ _ _ hlt, getD_eq _ _ _ hrl]; exact hq9)
        have hd : decide (rows[plan.length].n ≤ gangs[k].s) = q := hq9
        clear hq9
        have lR := hS0.lR
        have lb0 : b < wo.heap.size := Nat.lt_of_lt_of_le hbb hbW.out.size
        have hbA := Lib.hid ((Below.refl wo.heap.size wo).alloc (Nat.le_refl _) (.cells #[.int .i8 gangs[k].s, .int .i8 gangs[k].p, .int .i8 gangs[k].k, .int .i8 gangs[k].r, .int .i16 gangs[k].g] 69))
        have l0 : (0 : Int) ≤ (plan.length : Int) := by omega
        clear hS0
        cases q
        · have hst := Lib.hid (allTo_no rows gangs r plan k hok.out)
          go_wp2_with fail
          go_quiet (fail)
          go_wp2_with fail
          go_roundw
          case rel => exact ⟨k + 1, by omega, by go_num, HK.out.trans (Kept.of (ext_drewN hbA.out _)), by rw [hst.out]; exact HSS.out.ext (ext_drewN hbA.out _)⟩
          case measure => first | (simp [intOf]; done) | (simp [intOf]; omega)
        · have hst := Lib.hid (allTo_yes rows gangs r plan k hok.out)
          go_wp2_with fail
          go_quiet (fail)
          go_wp2_with fail
          have hA7 := Lib.hid (ext_drewN hbA.out nq)
          generalize (wo.alloc (.cells #[.int .i8 gangs[k].s, .int .i8 gangs[k].p, .int .i8 gangs[k].k, .int .i8 gangs[k].r, .int .i16 gangs[k].g] 69)).drewN nq = W7 at *
          have HX7 := Lib.hid (HSS.out.ext hA7.out)
          have HV7 := Lib.hid ((HV.out.keep HK.out).keep (Kept.of hA7.out))
          have hW7 := Lib.hid (hbW.out.trans (hA7.out.mono hbW.out.size))
          have hC7 := HX7.out.hC
          have hpm := Lib.hid (show ∀ q ∈ plan ++ [(k : Int)], 0 ≤ q ∧ q < gangs.length from by
            intro q hq
            rw [List.mem_append] at hq
            rcases hq with h | h
            · exact HP.out q h
            · simp at h; omega)
          have hpl := Lib.hid (show (plan ++ [(k : Int)]).length + r = rows.length from by have := HR.out; rw [List.length_append]; simp; omega)
          obtain ⟨next, hnx⟩ : ∃ x : List Int, x = plan ++ [(k : Int)] := ⟨_, rfl⟩
          rw [← hnx] at hpm hpl hst
          have hNX := Lib.hid hnx
          clear hnx
          have LL7 := Lib.hid (show x.L < W7.heap.size from HX7.out.hL.lt)
          have LB7 := Lib.hid (show x.B < W7.heap.size from by obtain ⟨bv, h, _⟩ := HX7.out.hB; exact h.lt)
          clear g0 g1 g2 g3 g4 r0 c1 c3 hbA lR lb0
          go_region_held3 (x.R8 (.func (.func 91) #[] lb) w0.heap.size W7)
            (first | assumption | exact Bx.R8.of HX7.out hW7.out.size ((Below.refl _ _).drew) | exact Bx.R8.of HX7.out hW7.out.size (by assumption) | exact Bx.R8.of HX7.out hW7.out.size (ext_trans ((Below.refl _ _).drew) (by assumption)) | exact Bx.R8.of HX7.out hW7.out.size (ext_alloc ((Below.refl _ _).drew) _) | exact Bx.R8.of HX7.out hW7.out.size (ext_trans (ext_alloc ((Below.refl _ _).drew) _) (by assumption)) | exact Bx.R8.of HX7.out hW7.out.size (ext_alloc (ext_trans ((Below.refl _ _).drew) (by assumption)) _))
            (first
              | (go_at_call 92; refine (clonePV_calls plan _ _ (first_pv HV7.out (by first | exact (Below.refl _ _).drew | exact ext_alloc ((Below.refl _ _).drew) _)) hp6.out).mono ?_; rintro e w' ⟨cv, rfl, hO, -, hb⟩)
              | (refine step_push_i64 rfl _ _ rfl W7.heap.size plan _ rfl (by first | exact Own.more hO (by simp) | exact Own.more (Own.alloc hO _) (by simp)) ⟨_, 0, none⟩ (k : Int) rfl (by first | exact (Bk.new _ _ _ _ rfl).cell 0 _ rfl | exact (hb.cell (p := ⟨_, 0, none⟩) (by simp)).trans ((Bk.new _ _ _ _ rfl).cell 0 _ rfl)) hp6.out (by first | exact hb.size | exact Nat.le_trans hb.size (by simp) | exact Nat.le_trans (by simp) hb.size) next hNX.out ?_; intro g9 cap9 w9 hO9 hG9; have hB9 : Below W7.heap.size W7 w9 := (by first | exact Below.grown (ext_alloc (ext_trans ((Below.refl _ _).drew) hb) _) hG9 (Nat.le_trans hb.size (by simp)) (fun j hj => Nat.le_trans (by simp) (hO.base j hj)) | exact Below.grown (ext_trans (ext_alloc ((Below.refl _ _).drew) _) hb) hG9 (Nat.le_trans (by simp) hb.size) (fun j hj => Nat.le_trans (by simp) (hO.base j hj))))
              | (go_at_call 91; refine (HIH.out next _ _ _ hpl.out hpm.out (hW7.out.trans (hB9.mono hW7.out.size)) (HX7.out.ext hB9) (PV.own hO9 (Nat.le_trans HX0.out.2.2 hW7.out.size) LL7.out LB7.out)).mono ?_; rintro e w4 ⟨rfl, hK4, hX4⟩; have hS4 : x.R8 (.func (.func 91) #[] lb) w0.heap.size W7 w4 := ⟨(hB9.mono hW7.out.size).trans (hK4.below (Nat.le_trans hW7.out.size hB9.size) HX0.out.1 HX0.out.2.1), hX4.hC⟩))
          all_goals
            go_wp2_with fail
            go_roundw
            case rel => exact ⟨k + 1, by omega, by go_num, ((HK.out.trans (Kept.of hA7.out)).trans (Kept.of hB9)).trans hK4, by rw [hst.out, bestOf_append]; exact hX4⟩
            case measure => first | (simp [intOf]; done) | (simp [intOf]; omega)
      · obtain rfl : k = gangs.length := by omega
        go_wp2_with fail
        ((try simp only [Exit.inBlock, Exit.then]); refine bodyPost_end (results_none rfl _ _ _) rfl ?_)
        exact ⟨rfl, HK.out, HSS.out⟩
end Go.Proofs.Ytkkkgpeilpfddaa
