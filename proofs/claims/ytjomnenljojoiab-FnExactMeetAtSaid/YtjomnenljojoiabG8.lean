/-
Contracts of MeetAt of the program. Conditions: numbers are of their kinds; slices can be read.
-/
import Derived.Test.YtjomnenljojoiabG7
set_option linter.unusedVariables false
set_option linter.unusedSimpArgs false
set_option maxRecDepth 100000
namespace Go.Proofs.Ytjomnenljojoiab
open Go.RowKit
theorem mayAllFn (g : Gang) (b : Nat) (w : World) (hb : b < w.heap.size) (hc : w.cell? ⟨b, 0, none⟩ = some (.int .i8 g.s)) (x : Row) : Tells Try.prog 80 #[.pointer (some ⟨b, 0, none⟩)] Row.v (fun r => !mayB g r) w x := by
  intro W hW
  have c0 := (hW.cell (p := ⟨b, 0, none⟩) hb).trans hc
  have hbW := Nat.lt_of_lt_of_le hb hW.size
  have hn := Lib.hid (show (!mayB g x) = decide (g.s < x.n) from by
    unfold mayB
    by_cases h : x.n ≤ g.s
    · simp [h]
    · simp [h]; omega)
  unfold Row.v
  go_enter Try.func80, Try.ntmps80
  go_wp2_with fail
  go_ret
  exact ⟨ret_bool hn.out.symm, (Below.refl _ _).alloc (Nat.le_refl _) _⟩
theorem any_may (g : Gang) (xs : List Row) : (!xs.any (fun r => !mayB g r)) = mayAllB g xs := by
  unfold mayAllB
  induction xs with
  | nil => rfl
  | cons x xs ih => simp [List.any_cons, List.all_cons, ← ih]
theorem mayAll_calls (g : Gang) (xs : List Row) (v : Value) (w : World) (hs : Sl w w.heap.size Row.c 2 v xs) :
    Calls Try.prog 59 #[g.v, v] w fun e w' => e = .returned (.bool (mayAllB g xs)) ∧ Below w.heap.size w w' := by
  have hs0 := Lib.hid (hs.alloc (.cells #[.int .i8 g.s, .int .i8 g.p, .int .i8 g.k, .int .i8 g.r, .int .i16 g.g] 55))
  have hc := Lib.hid (Gang.at_alloc w g 55).1
  have hb0 := Lib.hid ((Below.refl w.heap.size w).alloc (Nat.le_refl _) (.cells #[.int .i8 g.s, .int .i8 g.p, .int .i8 g.k, .int .i8 g.r, .int .i16 g.g] 55))
  have eg := Lib.hid (enters_of Try.func80 (by kernel_rfl) rfl)
  have hsz := Lib.hid (show w.heap.size < (w.alloc (.cells #[.int .i8 g.s, .int .i8 g.p, .int .i8 g.k, .int .i8 g.r, .int .i16 g.g] 55)).heap.size from by simp)
  have ha := Lib.hid (any_may g xs)
  unfold Gang.v
  go_enter Try.func59, Try.ntmps59
  go_wp2_with fail
  refine (containsFuncRow xs v _ hs0.out _ _ _ eg.out (fun x _ => mayAllFn g w.heap.size _ hsz.out hc.out x)).mono ?_
  rintro e w1 ⟨rfl, hb1⟩
  go_wp2_with fail
  go_ret
  exact ⟨ret_bool ha.out, ext_trans hb0.out hb1⟩
abbrev MeetS (W0 : World) (c d : Nat) (a b : Gang) (w' : World) : Prop :=
  Below W0.heap.size W0 w' ∧ w'.cell? ⟨c, 0, none⟩ = some (.int .i8 a.s) ∧ w'.cell? ⟨c, 1, none⟩ = some (.int .i8 a.p) ∧ w'.cell? ⟨c, 2, none⟩ = some (.int .i8 a.k) ∧ w'.cell? ⟨c, 3, none⟩ = some (.int .i8 a.r) ∧ w'.cell? ⟨c, 4, none⟩ = some (.int .i16 a.g)
   ∧ w'.cell? ⟨d, 0, none⟩ = some (.int .i8 b.s) ∧ w'.cell? ⟨d, 1, none⟩ = some (.int .i8 b.p) ∧ w'.cell? ⟨d, 2, none⟩ = some (.int .i8 b.k) ∧ w'.cell? ⟨d, 3, none⟩ = some (.int .i8 b.r) ∧ w'.cell? ⟨d, 4, none⟩ = some (.int .i16 b.g)
theorem MeetS.keep {W0 w1 w2 : World} {c d : Nat} {a b : Gang} (hc : c < W0.heap.size) (hd : d < W0.heap.size) (h : MeetS W0 c d a b w1) (k : Below w1.heap.size w1 w2) : MeetS W0 c d a b w2 := by
  obtain ⟨h0, h1, h2, h3, h4, h5, g1, g2, g3, g4, g5⟩ := h
  have hl : c < w1.heap.size := Nat.lt_of_lt_of_le hc h0.size
  have hl2 : d < w1.heap.size := Nat.lt_of_lt_of_le hd h0.size
  have q : ∀ o, w2.cell? ⟨c, o, none⟩ = w1.cell? ⟨c, o, none⟩ := fun o => k.cell (p := ⟨c, o, none⟩) hl
  have r : ∀ o, w2.cell? ⟨d, o, none⟩ = w1.cell? ⟨d, o, none⟩ := fun o => k.cell (p := ⟨d, o, none⟩) hl2
  exact ⟨ext_trans h0 k, (q _).trans h1, (q _).trans h2, (q _).trans h3, (q _).trans h4, (q _).trans h5, (r _).trans g1, (r _).trans g2, (r _).trans g3, (r _).trans g4, (r _).trans g5⟩
set_option maxHeartbeats 4000000 in
theorem implMeetAt_calls (rows : List Row) (hr : ∀ x ∈ rows, x.ok) (a b : Gang) (ha : a.ok) (hb : b.ok) (v : Value) (w : World) (hs : Sl w w.heap.size Row.c 2 v rows) :
    Calls Try.prog 29 #[v, a.v, b.v] w fun e w' => e = .returned (.tuple #[.int .i64 (meetAt rows a b).1, .int .i64 (meetAt rows a b).2.1, .int .i64 (meetAt rows a b).2.2]) ∧ Below w.heap.size w w' := by
  have HR := Lib.hid hr
  have HG := Lib.hid (show ∀ g ∈ [a, b], g.ok from by intro g hg; simp at hg; rcases hg with rfl | rfl <;> assumption)
  have HS := Lib.hid hs
  obtain ⟨A, cap, rfl, hl, hm, hcell⟩ := hs.row
  clear hs hr ha hb
  have hb0 := ext_alloc (ext_alloc ((Below.refl w.heap.size w).alloc (Nat.le_refl _) (.cells #[.int .i8 a.s, .int .i8 a.p, .int .i8 a.k, .int .i8 a.r, .int .i16 a.g] 55)) (.cells #[.int .i8 b.s, .int .i8 b.p, .int .i8 b.k, .int .i8 b.r, .int .i16 b.g] 55)) (.cells #[.int .i8 a.s, .int .i8 a.p, .int .i8 a.k, .int .i8 a.r, .int .i16 a.g, .int .i8 b.s, .int .i8 b.p, .int .i8 b.k, .int .i8 b.r, .int .i16 b.g] 55)
  have hat := Gang.at_alloc3 w a 55 (.cells #[.int .i8 b.s, .int .i8 b.p, .int .i8 b.k, .int .i8 b.r, .int .i16 b.g] 55) (.cells #[.int .i8 a.s, .int .i8 a.p, .int .i8 a.k, .int .i8 a.r, .int .i16 a.g, .int .i8 b.s, .int .i8 b.p, .int .i8 b.k, .int .i8 b.r, .int .i16 b.g] 55)
  have hat2 := Gang.at_alloc2 (w.alloc (.cells #[.int .i8 a.s, .int .i8 a.p, .int .i8 a.k, .int .i8 a.r, .int .i16 a.g] 55)) b 55 (.cells #[.int .i8 a.s, .int .i8 a.p, .int .i8 a.k, .int .i8 a.r, .int .i16 a.g, .int .i8 b.s, .int .i8 b.p, .int .i8 b.k, .int .i8 b.r, .int .i16 b.g] 55)
  rw [show (w.alloc (.cells #[.int .i8 a.s, .int .i8 a.p, .int .i8 a.k, .int .i8 a.r, .int .i16 a.g] 55)).heap.size = w.heap.size + 1 from by simp] at hat2
  have htwo := Sl.two ((w.alloc (.cells #[.int .i8 a.s, .int .i8 a.p, .int .i8 a.k, .int .i8 a.r, .int .i16 a.g] 55)).alloc (.cells #[.int .i8 b.s, .int .i8 b.p, .int .i8 b.k, .int .i8 b.r, .int .i16 b.g] 55)) a b (w.heap.size + 1 + 1) (by simp) 55
  have hS := HS.out.ext hb0
  have hsz : w.heap.size + 1 < (((w.alloc (.cells #[.int .i8 a.s, .int .i8 a.p, .int .i8 a.k, .int .i8 a.r, .int .i16 a.g] 55)).alloc (.cells #[.int .i8 b.s, .int .i8 b.p, .int .i8 b.k, .int .i8 b.r, .int .i16 b.g] 55)).alloc (.cells #[.int .i8 a.s, .int .i8 a.p, .int .i8 a.k, .int .i8 a.r, .int .i16 a.g, .int .i8 b.s, .int .i8 b.p, .int .i8 b.k, .int .i8 b.r, .int .i16 b.g] 55)).heap.size := by simp
  have HB := Lib.hid hb0
  have HA1 := Lib.hid hat
  have HA2 := Lib.hid hat2
  have HT := Lib.hid htwo
  have HS2 := Lib.hid hS
  have HZ := Lib.hid hsz
  clear hb0 hat hat2 htwo hS hsz HS
  unfold Gang.v
  go_enter Try.func29, Try.ntmps29
  go_wp2_with fail
  refine (gangCode_calls rows HR.out [a, b] HG.out _ _ _ HS2.out HT.out).mono ?_
  rintro e W1 ⟨rfl, hbW⟩
  have HB := Lib.hid (ext_trans HB.out hbW)
  have HA1 := Lib.hid (Gang.at_ext HA1.out hbW (by have := HZ.out; omega))
  have HA2 := Lib.hid (Gang.at_ext HA2.out hbW HZ.out)
  have HS2 := Lib.hid (HS2.out.ext hbW)
  have HZ := Lib.hid (Nat.lt_of_lt_of_le HZ.out hbW.size)
  clear hbW HT
  obtain ⟨W, rfl⟩ : ∃ W : World, W = W1 := ⟨_, rfl⟩
  by_cases hc : asked rows [a, b] = 0
  · have HE := Lib.hid (show meetAt rows a b = _ from if_pos hc)
    have HM := Lib.hid (Meets.of hc)
    rw [hc]
    clear hc
    have h6 := HM.out.h6
    go_wp2_with fail
    go_loopw [10, 11, 25] (fun p q i wr => ∃ k : Nat, k ≤ rows.length + 1 ∧ i = .int .i64 k ∧ p = .int .i64 (meetN rows a b k).1 ∧ q = .int .i64 (meetN rows a b k).2 ∧ Below W.heap.size W wr) (fun _ _ i _ => rows.length + 1 - (intOf i).toNat)
    case atStart => exact ⟨0, by omega, rfl, rfl, rfl, Below.refl _ _⟩
    case round =>
      obtain ⟨k, hk, rfl, rfl, rfl, hb⟩ := hrel
      obtain ⟨wo, rfl⟩ : ∃ wo : World, wo = wr := ⟨_, rfl⟩
      obtain ⟨⟨n0, n1⟩, n2, n3⟩ := HM.out.n k
      by_cases hlt : k ≤ rows.length
      · have hq : decide ((k : Int) < (rows.length : Int) + 1) = true := by rw [decide_eq_true_eq]; omega
        obtain ⟨⟨w0, w1⟩, w2, w3⟩ := HM.out.works k
        obtain ⟨m0, m1⟩ := HM.out.m k
        have HMX := Lib.hid (show max (daysS a (workS (rows.take k))) (daysS b (workS (rows.drop k))) = mMeet rows a b k from rfl)
        have hSw := Lib.hid (HS2.out.ext hb)
        obtain ⟨zh, hzh⟩ : ∃ z : Value, z = .slice A k cap := ⟨_, rfl⟩
        obtain ⟨zl, hzl⟩ : ∃ z : Value, z = .slice (if cap = k then A else A.map (·.add (k * 2))) (rows.length - k) (cap - k) := ⟨_, rfl⟩
        have hHi := fun W => cutHi_run A rows.length cap k (by omega) W
        have hLo := fun W => cutLo_run A rows.length cap k (by omega) (by omega) W
        have hsh := Lib.hid (show Sl wo wo.heap.size Row.c 2 zh (rows.take k) from hzh ▸ hSw.out.cutHi k hlt)
        have hsl := Lib.hid (show Sl wo wo.heap.size Row.c 2 zl (rows.drop k) from hzl ▸ hSw.out.cutLo k hlt)
        have hrh := Lib.hid (show (rows.take k).length ≤ 6 from by rw [List.length_take]; omega)
        have hrl := Lib.hid (show (rows.drop k).length ≤ 6 from by rw [List.length_drop]; omega)
        have hvh := Lib.hid (show ∀ x ∈ rows.take k, vRowB x = true from fun x hx => HM.out.hr x (List.mem_of_mem_take hx))
        have hvl := Lib.hid (show ∀ x ∈ rows.drop k, vRowB x = true from fun x hx => HM.out.hr x (List.mem_of_mem_drop hx))
        have hst := Lib.hid (show meetN rows a b (k + 1) = if ((mayAllB a (rows.take k) && mayAllB b (rows.drop k)) && (decide ((meetN rows a b k).2 < 0) || decide (mMeet rows a b k < (meetN rows a b k).2))) = true then ((k : Int), mMeet rows a b k) else meetN rows a b k from rfl)
        rw [← hzh] at hHi
        rw [← hzl] at hLo
        clear hcell hzh hzl
        generalize hTK : rows.take k = tk at *
        generalize hDR : rows.drop k = dr at *
        generalize hMM : mMeet rows a b k = mm at *
        generalize hMN : meetN rows a b k = M at *
        clear hMM hMN hTK hDR
        have hAa := Gang.at_ext HA1.out hb (by have := HZ.out; omega)
        have hAb := Gang.at_ext HA2.out hb HZ.out
        have hS : MeetS wo w.heap.size (w.heap.size + 1) a b wo := ⟨Below.refl _ _, hAa.1, hAa.2.1, hAa.2.2.1, hAa.2.2.2.1, hAa.2.2.2.2, hAb.1, hAb.2.1, hAb.2.2.1, hAb.2.2.2.1, hAb.2.2.2.2⟩
        have hsz := Nat.lt_of_lt_of_le HZ.out hb.size
        have hs1 : w.heap.size < wo.heap.size := by omega
        have hbo := Lib.hid hb
        clear hAa hAb
        obtain ⟨q1, hq1⟩ : ∃ q, mayAllB a tk = q := ⟨_, rfl⟩
        obtain ⟨q2, hq2⟩ : ∃ q, mayAllB b dr = q := ⟨_, rfl⟩
        have hst2 := Lib.hid (hst.out.trans (by rw [hq1, hq2]))
        have qa := Lib.hid (show ∀ W, Below wo.heap.size wo W → Calls Try.prog 59 #[(.agg #[.int .i8 a.s, .int .i8 a.p, .int .i8 a.k, .int .i8 a.r, .int .i16 a.g]), zh] W (fun e w' => e = .returned (.bool q1) ∧ Below W.heap.size W w') from fun W h => hq1 ▸ mayAll_calls a tk zh W (hsh.out.ext h))
        have qb := Lib.hid (show ∀ W, Below wo.heap.size wo W → Calls Try.prog 59 #[(.agg #[.int .i8 b.s, .int .i8 b.p, .int .i8 b.k, .int .i8 b.r, .int .i16 b.g]), zl] W (fun e w' => e = .returned (.bool q2) ∧ Below W.heap.size W w') from fun W h => hq2 ▸ mayAll_calls b dr zl W (hsl.out.ext h))
        have pa := Lib.hid (show ∀ W, Below wo.heap.size wo W → Calls Try.prog 61 #[zh] W (fun e w' => e = .returned (.int .i64 (workS tk)) ∧ Below W.heap.size W w') from fun W h => workOf_calls tk hrh.out hvh.out zh W (hsh.out.ext h))
        have pb := Lib.hid (show ∀ W, Below wo.heap.size wo W → Calls Try.prog 61 #[zl] W (fun e w' => e = .returned (.int .i64 (workS dr)) ∧ Below W.heap.size W w') from fun W h => workOf_calls dr hrl.out hvl.out zl W (hsl.out.ext h))
        have da := Lib.hid (show ∀ W, Below wo.heap.size wo W → Calls Try.prog 60 #[(.agg #[.int .i8 a.s, .int .i8 a.p, .int .i8 a.k, .int .i8 a.r, .int .i16 a.g]), .int .i64 (workS tk)] W (fun e w' => e = .returned (.int .i64 (daysS a (workS tk))) ∧ Below W.heap.size W w') from fun W h => implDays_calls a HM.out.ha (workS tk) w0 w1 W)
        have db := Lib.hid (show ∀ W, Below wo.heap.size wo W → Calls Try.prog 60 #[(.agg #[.int .i8 b.s, .int .i8 b.p, .int .i8 b.k, .int .i8 b.r, .int .i16 b.g]), .int .i64 (workS dr)] W (fun e w' => e = .returned (.int .i64 (daysS b (workS dr))) ∧ Below W.heap.size W w') from fun W h => implDays_calls b HM.out.hb (workS dr) w2 w3 W)
        clear hst hq1 hq2
        cases q1
        · have hs2 := Lib.hid (hst2.out.trans (if_neg (by simp)))
          clear hst2
          obtain ⟨hB0, a1, a2, a3, a4, a5, b1, b2, b3, b4, b5⟩ := hS
          go_wp2_with fail
          first | (go_region_with (go_at_call 59; with_reducible refine (qa.out _ ?_).mono ?_; exact (Below.refl _ _).drew; rintro e w' ⟨rfl, hb⟩)) | fail
          all_goals
            go_wp2_with fail
            go_roundw
            case rel => exact ⟨k + 1, by omega, by go_num, by rw [hs2.out], by rw [hs2.out], ext_trans hbo.out (ext_trans ((Below.refl _ _).drew) (by assumption))⟩
            case measure => first | (simp [intOf]; done) | (simp [intOf]; omega)
        cases q2
        · have hs2 := Lib.hid (hst2.out.trans (if_neg (by simp)))
          clear hst2
          go_wp2_with fail
          go_region_held3 (MeetS wo w.heap.size (w.heap.size + 1) a b) (first | assumption | exact MeetS.keep hs1 hsz (by assumption) ((Below.refl _ _).drew) | exact MeetS.keep hs1 hsz (by assumption) (by assumption)) (first | (go_at_call 59; with_reducible refine (qa.out _ (And.left (b := _) (by assumption))).mono ?_; rintro e w' ⟨rfl, hb⟩) | (go_at_call 59; with_reducible refine (qb.out _ (And.left (b := _) (by assumption))).mono ?_; rintro e w' ⟨rfl, hb⟩))
          go_wp2_with fail
          go_roundw
          case rel => exact ⟨k + 1, by omega, by go_num, by rw [hs2.out], by rw [hs2.out], ext_trans hbo.out (And.left (b := _) (by assumption))⟩
          case measure => first | (simp [intOf]; done) | (simp [intOf]; omega)
        · go_wp2_with fail
          go_region_held3 (MeetS wo w.heap.size (w.heap.size + 1) a b) (first | assumption | exact MeetS.keep hs1 hsz (by assumption) ((Below.refl _ _).drew) | exact MeetS.keep hs1 hsz (by assumption) (by assumption)) (first | (go_at_call 59; with_reducible refine (qa.out _ (And.left (b := _) (by assumption))).mono ?_; rintro e w' ⟨rfl, hb⟩) | (go_at_call 59; with_reducible refine (qb.out _ (And.left (b := _) (by assumption))).mono ?_; rintro e w' ⟨rfl, hb⟩))
          go_wp2_with fail
          go_region_held3 (MeetS wo w.heap.size (w.heap.size + 1) a b) (first | assumption | exact MeetS.keep hs1 hsz (by assumption) ((Below.refl _ _).drew) | exact MeetS.keep hs1 hsz (by assumption) (by assumption)) (first | (go_at_call 61; with_reducible refine (pa.out _ (And.left (b := _) (by assumption))).mono ?_; rintro e w' ⟨rfl, hb⟩) | (go_at_call 61; with_reducible refine (pb.out _ (And.left (b := _) (by assumption))).mono ?_; rintro e w' ⟨rfl, hb⟩) | (go_at_call 60; with_reducible refine (da.out _ (And.left (b := _) (by assumption))).mono ?_; rintro e w' ⟨rfl, hb⟩) | (go_at_call 60; with_reducible refine (db.out _ (And.left (b := _) (by assumption))).mono ?_; rintro e w' ⟨rfl, hb⟩))
          have hmx2 : (if daysS a (workS tk) < daysS b (workS dr) then daysS b (workS dr) else daysS a (workS tk)) = mm := by
            rw [← HMX.out]
            split <;> omega
          rw [hmx2]
          clear hmx2
          have hB9 := Lib.hid (show Below wo.heap.size wo _ from And.left (b := _) (by assumption))
          by_cases hneg : M.2 < 0
          · have hd : decide (M.2 < 0) = true := by rw [decide_eq_true_eq]; exact hneg
            have hs2 := Lib.hid (hst2.out.trans (if_pos (by rw [hd]; rfl)))
            clear hst2 hneg
            go_wp2_with fail
            go_roundw
            case rel => exact ⟨k + 1, by omega, by go_num, by rw [hs2.out], by rw [hs2.out], ext_trans hbo.out hB9.out⟩
            case measure => first | (simp [intOf]; done) | (simp [intOf]; omega)
          · have hd : decide (M.2 < 0) = false := by rw [decide_eq_false_iff_not]; exact hneg
            obtain ⟨q, hq9⟩ : ∃ q, decide (mm < M.2) = q := ⟨_, rfl⟩
            have hs2 := Lib.hid (hst2.out.trans (by rw [hd, hq9, Bool.true_and, Bool.true_and, Bool.false_or]))
            clear hst2 hneg
            cases q
            · have hs3 := Lib.hid (hs2.out.trans (if_neg (by decide)))
              clear hs2
              go_wp2_with fail
              go_roundw
              case rel => exact ⟨k + 1, by omega, by go_num, by rw [hs3.out], by rw [hs3.out], ext_trans hbo.out hB9.out⟩
              case measure => first | (simp [intOf]; done) | (simp [intOf]; omega)
            · have hs3 := Lib.hid (hs2.out.trans (if_pos rfl))
              clear hs2
              go_wp2_with fail
              go_roundw
              case rel => exact ⟨k + 1, by omega, by go_num, by rw [hs3.out], by rw [hs3.out], ext_trans hbo.out hB9.out⟩
              case measure => first | (simp [intOf]; done) | (simp [intOf]; omega)
      · obtain rfl : k = rows.length + 1 := by omega
        have hq : decide (((rows.length + 1 : Nat) : Int) < (rows.length : Int) + 1) = false := by rw [decide_eq_false_iff_not]; omega
        have hBB := Lib.hid (ext_trans HB.out hb)
        generalize meetN rows a b (rows.length + 1) = M at *
        by_cases hneg : M.2 < 0
        · have hE2 := Lib.hid (HE.out.trans (if_pos hneg))
          have hd : decide (M.2 < 0) = true := by rw [decide_eq_true_eq]; exact hneg
          clear HE hneg
          go_wp2_with fail
          go_ret3
          exact ⟨ret_int3 (by rw [hE2.out]) (by rw [hE2.out]) (by rw [hE2.out]), hBB.out⟩
        · have hE2 := Lib.hid (HE.out.trans (if_neg hneg))
          have hd : decide (M.2 < 0) = false := by rw [decide_eq_false_iff_not]; exact hneg
          clear HE hneg
          go_wp2_with fail
          go_ret3
          exact ⟨ret_int3 (by rw [hE2.out]) (by rw [hE2.out]) (by rw [hE2.out]), hBB.out⟩
  · have HE := Lib.hid (show meetAt rows a b = (0, 0, asked rows [a, b]) from if_neg hc)
    have hcb : (asked rows [a, b] == 0) = false := by simpa using hc
    have hcb2 : (asked rows [a, b] != 0) = true := by simpa using hc
    clear hc
    go_wp2_with fail
    go_ret3
    exact ⟨ret_int3 (by rw [HE.out]) (by rw [HE.out]) (by rw [HE.out]), HB.out⟩
end Go.Proofs.Ytjomnenljojoiab
