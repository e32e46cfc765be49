/-
The law on MeetAt, walked: it answers true. Conditions: numbers are of their kinds, slices can be read.
-/
import Derived.Test.YtjomnenljojoiabG8
set_option linter.unusedVariables false
set_option linter.unusedSimpArgs false
set_option maxRecDepth 100000
namespace Go.Proofs.Ytjomnenljojoiab
open Go.RowKit
set_option maxHeartbeats 2000000 in
theorem law_FnExactMeetAt (w : World) (rows : List Row) (v : Value) (hs : Sl w w.heap.size Row.c 2 v rows) (hr : ∀ x ∈ rows, x.ok) (a : Gang) (ha : a.ok) (b : Gang) (hb : b.ok) :
    Calls Try.prog 7 #[v, a.v, b.v] w fun e w' => e = .returned (.bool true) ∧ Below w.heap.size w w' := by
  have hS : MeetS ((w.alloc (.cells #[.int .i8 a.s, .int .i8 a.p, .int .i8 a.k, .int .i8 a.r, .int .i16 a.g] 50)).alloc (.cells #[.int .i8 b.s, .int .i8 b.p, .int .i8 b.k, .int .i8 b.r, .int .i16 b.g] 50)) w.heap.size (w.heap.size + 1) a b ((w.alloc (.cells #[.int .i8 a.s, .int .i8 a.p, .int .i8 a.k, .int .i8 a.r, .int .i16 a.g] 50)).alloc (.cells #[.int .i8 b.s, .int .i8 b.p, .int .i8 b.k, .int .i8 b.r, .int .i16 b.g] 50)) := by
    refine ⟨Below.refl _ _, ?_, ?_, ?_, ?_, ?_, ?_, ?_, ?_, ?_, ?_⟩ <;> simp
  have hB := Lib.hid (ext_alloc ((Below.refl w.heap.size w).alloc (Nat.le_refl _) (.cells #[.int .i8 a.s, .int .i8 a.p, .int .i8 a.k, .int .i8 a.r, .int .i16 a.g] 50)) (.cells #[.int .i8 b.s, .int .i8 b.p, .int .i8 b.k, .int .i8 b.r, .int .i16 b.g] 50))
  have hsz : w.heap.size + 1 < ((w.alloc (.cells #[.int .i8 a.s, .int .i8 a.p, .int .i8 a.k, .int .i8 a.r, .int .i16 a.g] 50)).alloc (.cells #[.int .i8 b.s, .int .i8 b.p, .int .i8 b.k, .int .i8 b.r, .int .i16 b.g] 50)).heap.size := by simp
  have HSL := Lib.hid (hs.ext hB.out)
  have sm := Lib.hid (show ∀ z W, Sl W W.heap.size Row.c 2 z rows → Calls Try.prog 26 #[z, .agg #[.int .i8 a.s, .int .i8 a.p, .int .i8 a.k, .int .i8 a.r, .int .i16 a.g], .agg #[.int .i8 b.s, .int .i8 b.p, .int .i8 b.k, .int .i8 b.r, .int .i16 b.g]] W (fun e w' => e = .returned (.tuple #[.int .i64 (meetAt rows a b).1, .int .i64 (meetAt rows a b).2.1, .int .i64 (meetAt rows a b).2.2]) ∧ Below W.heap.size W w') from fun z W h => specMeetAt_calls rows hr a b ha hb z W h)
  have im := Lib.hid (show ∀ z W, Sl W W.heap.size Row.c 2 z rows → Calls Try.prog 29 #[z, .agg #[.int .i8 a.s, .int .i8 a.p, .int .i8 a.k, .int .i8 a.r, .int .i16 a.g], .agg #[.int .i8 b.s, .int .i8 b.p, .int .i8 b.k, .int .i8 b.r, .int .i16 b.g]] W (fun e w' => e = .returned (.tuple #[.int .i64 (meetAt rows a b).1, .int .i64 (meetAt rows a b).2.1, .int .i64 (meetAt rows a b).2.2]) ∧ Below W.heap.size W w') from fun z W h => implMeetAt_calls rows hr a b ha hb z W h)
  have ga := Lib.hid (show ∀ W, Calls Try.prog 28 #[.agg #[.int .i8 a.s, .int .i8 a.p, .int .i8 a.k, .int .i8 a.r, .int .i16 a.g]] W (fun e w' => e = .returned (.agg #[.int .i8 a.s, .int .i8 a.p, .int .i8 a.k, .int .i8 a.r, .int .i16 a.g]) ∧ Below W.heap.size W w') from fun W => toGang_calls a W)
  have gb := Lib.hid (show ∀ W, Calls Try.prog 28 #[.agg #[.int .i8 b.s, .int .i8 b.p, .int .i8 b.k, .int .i8 b.r, .int .i16 b.g]] W (fun e w' => e = .returned (.agg #[.int .i8 b.s, .int .i8 b.p, .int .i8 b.k, .int .i8 b.r, .int .i16 b.g]) ∧ Below W.heap.size W w') from fun W => toGang_calls b W)
  have hlen := Lib.hid hs.len
  unfold Gang.v
  generalize meetAt rows a b = F at sm im
  clear hs hr ha hb
  go_enter Try.func7, Try.ntmps7
  go_wp2_with fail
  refine (szRowS_calls rows v _ _ (by omega) (by omega) HSL.out).mono ?_
  rintro e w1 ⟨rfl, rfl⟩
  by_cases hl : (1048576 : Int) < rows.length
  · rw [if_pos hl]
    go_wp2_with fail
    go_ret
    exact ⟨rfl, hB.out⟩
  rw [if_neg hl]
  have hn : rows.length ≤ 1048576 := by omega
  generalize (w.alloc (.cells #[.int .i8 a.s, .int .i8 a.p, .int .i8 a.k, .int .i8 a.r, .int .i16 a.g] 50)).alloc (.cells #[.int .i8 b.s, .int .i8 b.p, .int .i8 b.k, .int .i8 b.r, .int .i16 b.g] 50) = W0 at *
  have hs1 : w.heap.size < W0.heap.size := by omega
  go_wp2_with fail
  go_region_held3 (MeetS W0 w.heap.size (w.heap.size + 1) a b) (first | assumption | exact MeetS.keep hs1 hsz (by assumption) ((Below.refl _ _).drew) | exact MeetS.keep hs1 hsz (by assumption) (by assumption)) (first | (go_at_call 28; with_reducible refine (ga.out _).mono ?_; rintro e w' ⟨rfl, hb⟩) | (go_at_call 28; with_reducible refine (gb.out _).mono ?_; rintro e w' ⟨rfl, hb⟩) | (go_at_call 27; refine (toRowS_calls rows v _ (HSL.out.ext (And.left (b := _) (by assumption))) hn).mono ?_; rintro e w' ⟨v1, rfl, hO, hb⟩) | (go_at_call 26; with_reducible refine (sm.out _ _ (by repeat (first | exact Own.sl Row.c_len (by assumption) | refine Sl.ext ?_ (by assumption) | refine Sl.ext ?_ ((Below.refl _ _).drew)))).mono ?_; rintro e w' ⟨rfl, hb⟩))
  go_wp2_with fail
  refine (toRowS_calls rows v _ (HSL.out.ext (And.left (b := _) (by assumption))) hn).mono ?_
  rintro e w9 ⟨v2, rfl, hO2, hb9⟩
  have hS9 : MeetS W0 w.heap.size (w.heap.size + 1) a b w9 := MeetS.keep hs1 hsz (by assumption) hb9
  have hO2 := Lib.hid (hO2.more (Nat.le_refl _))
  have hsl2 := Lib.hid (hO2.out.sl Row.c_len)
  clear hb9
  go_wp2_with fail
  go_region_held3 (MeetS W0 w.heap.size (w.heap.size + 1) a b) (first | assumption | exact MeetS.keep hs1 hsz (by assumption) ((Below.refl _ _).drew) | exact MeetS.keep hs1 hsz (by assumption) (by assumption)) (first | (go_at_call 28; with_reducible refine (ga.out _).mono ?_; rintro e w' ⟨rfl, hb⟩) | (go_at_call 28; with_reducible refine (gb.out _).mono ?_; rintro e w' ⟨rfl, hb⟩) | (go_at_call 29; with_reducible refine (im.out _ _ (by repeat (first | exact hsl2.out | refine Sl.ext ?_ (by assumption) | refine Sl.ext ?_ ((Below.refl _ _).drew)))).mono ?_; rintro e w' ⟨rfl, hb⟩))
  go_wp2_with fail
  refine (toRowS_calls rows v _ (HSL.out.ext (And.left (b := _) (by assumption))) hn).mono ?_
  rintro e w10 ⟨v3, rfl, hO3, hb10⟩
  go_wp2_with fail
  refine (eqRowS_calls rows rows v2 v3 _ (by repeat (first | exact hsl2.out | refine Sl.ext ?_ (by assumption) | refine Sl.ext ?_ ((Below.refl _ _).drew))) (hO3.sl Row.c_len)).mono ?_
  rintro e w11 ⟨rfl, hb11⟩
  have hd : decide (rows = rows) = true := by simp
  rw [hd]
  go_wp2_with fail
  go_ret
  exact ⟨rfl, ext_trans hB.out (ext_trans (ext_trans (And.left (b := _) (by assumption)) hb10) hb11)⟩
end Go.Proofs.Ytjomnenljojoiab
