/-
Levels: as many numbers as slabs, all within bounds; limits. Of both programs. Conditions: slices can be read.
-/
import Derived.Test.YthlcmiediedcfaaDoorBP2
set_option linter.unusedVariables false
set_option linter.unusedSimpArgs false
set_option maxRecDepth 100000
namespace Go.Proofs.YthlcmiediedcfaaDoor
open Go.RowKit
def numsB (w h : Int) (sl : List Slab) (xs : List Int) (lo hi : Int) : Bool := xs.all (fun n => inB n lo hi) && (sqOk w h sl && decide (xs.length = sl.length))
def levB (w h : Int) (sl : List Slab) (xs : List Int) : Bool := numsB w h sl xs (-100) 100
def tripC (w h : Int) (sl : List Slab) (xs : List Int) (fine : Bool) : Int := if levB w h sl xs = true then (if fine = true then 0 else 2) else 1
theorem numsB_ok {w h : Int} {sl : List Slab} {xs : List Int} {lo hi : Int} (hv : numsB w h sl xs lo hi = true) : sqOk w h sl = true ∧ xs.length = sl.length ∧ ∀ n ∈ xs, lo ≤ n ∧ n ≤ hi := by
  simp only [numsB, Bool.and_eq_true, List.all_eq_true, decide_eq_true_eq, inB_true] at hv
  exact ⟨hv.2.1, hv.2.2, hv.1⟩
theorem tripC_ok {w h : Int} {sl : List Slab} {xs : List Int} {fine : Bool} (hc : tripC w h sl xs fine = 0) : levB w h sl xs = true ∧ fine = true := by
  unfold tripC at hc
  split at hc
  · split at hc
    · exact ⟨by assumption, by assumption⟩
    · cases hc
  · cases hc
theorem sqOk_len {w h : Int} {sl : List Slab} (hv : sqOk w h sl = true) : sl.length ≤ 60 := by simp only [sqOk, Bool.and_eq_true, decide_eq_true_eq] at hv; exact hv.1.2
theorem sqOk_small {w h : Int} {sl : List Slab} (hv : sqOk w h sl = true) : ∀ x ∈ sl, smallS x := by
  obtain ⟨⟨w0, w1⟩, ⟨h0, h1⟩, hl⟩ := sqOk_edges hv
  intro x hx
  have := hl x hx
  simp only [liesB, decide_eq_true_eq] at this
  unfold smallS
  omega
set_option maxHeartbeats 1000000 in
theorem sNums_calls (b o : Nat) (w h : Int) (z : Value) (sl : List Slab) (xs : List Int) (v : Value) (lo hi : Int) (W : World) (hq : SqIn W w h z sl) (ha : Sq.at_ W b o w h z) (hs : Sl W W.heap.size i64c 1 v xs) :
    Calls Tryd.prog 86 #[.pointer (some ⟨b, o, none⟩), v, .int .i64 lo, .int .i64 hi] W fun e w' => e = .returned (.bool (numsB w h sl xs lo hi)) ∧ Below W.heap.size W w' := by
  obtain ⟨A, cap, rfl, hl, hm, hcell⟩ := hs.i64
  have qo := Lib.hid (sok_calls b o w h z sl W hq ha)
  have HA := Lib.hid ha
  obtain ⟨A2, cap2, hz, -, -, -⟩ := hq.sl.slab
  have hsl := Lib.hid (show sl.length ≤ 9223372036854775807 from hq.sl.len)
  clear hs hq ha
  subst hz
  obtain ⟨R, hR0⟩ : ∃ R, R = numsB w h sl xs lo hi := ⟨_, rfl⟩
  rw [← hR0]
  have hR := Lib.hid hR0
  clear hR0
  go_enter Tryd.func86, Tryd.ntmps86
  go_wp2_with fail
  go_loop [9] (fun c => ∃ k : Nat, k ≤ xs.length ∧ c = .int .i64 (k : Int) ∧ (xs.take k).all (fun n => inB n lo hi) = true) (fun c => xs.length - (intOf c).toNat)
  case atStart => exact ⟨0, by omega, rfl, rfl⟩
  case round =>
    obtain ⟨k, hk, rfl, hall⟩ := hrel
    have HAl := Lib.hid hall
    clear hall
    by_cases hlt : k < xs.length
    · obtain ⟨b1, o1, rfl, hbb, c0⟩ := hcell k hlt
      clear hcell
      go_wp2_with fail
      refine (in_calls _ _ _ _).mono ?_
      rintro e w1 ⟨rfl, rfl⟩
      cases hB : inB xs[k] lo hi
      · have hE := Lib.hid (show R = false from by rw [hR.out, numsB, all_false_at _ xs k hlt hB, Bool.false_and])
        clear hB
        go_wp2_with fail
        go_ret
        exact ⟨ret_bool hE.out.symm, Below.refl _ _⟩
      · have hE := Lib.hid (take_all_succ _ xs k hlt HAl.out hB)
        clear hB
        go_wp2_with fail
        go_round
        case rel => exact ⟨k + 1, by omega, by go_num, hE.out⟩
        case measure => first | (simp [intOf]; done) | (simp [intOf]; omega)
    · have hE := Lib.hid (show R = (sqOk w h sl && decide (xs.length = sl.length)) from by rw [hR.out, numsB, all_of_take _ xs k (by omega) HAl.out, Bool.true_and])
      have a2 := HA.out.c2
      have hbl := HA.out.lt
      clear hR
      go_wp2_with fail
      refine qo.out.mono ?_
      rintro e w1 ⟨rfl, hb1⟩
      have a2 := (HA.out.ext hb1).c2
      have hbl := (HA.out.ext hb1).lt
      have HB1 := Lib.hid hb1
      clear hb1
      generalize sqOk w h sl = E at *
      cases E
      · go_wp2_with fail
        go_ret
        exact ⟨ret_bool (by rw [hE.out]; rfl), HB1.out⟩
      · have hs2 := hsl.out
        by_cases he : xs.length = sl.length
        · have hq1 : ((xs.length : Int) == (sl.length : Int)) = true := by rw [beq_iff_eq]; omega
          have hE2 := Lib.hid (show R = true from by rw [hE.out]; simp [he])
          have he := Lib.hid he
          go_wp2_with fail
          go_ret
          exact ⟨ret_bool hE2.out.symm, HB1.out⟩
        · have hq1 : ((xs.length : Int) == (sl.length : Int)) = false := by rw [beq_eq_false_iff_ne]; omega
          have hE2 := Lib.hid (show R = false from by rw [hE.out]; simp [he])
          have he := Lib.hid he
          go_wp2_with fail
          go_ret
          exact ⟨ret_bool hE2.out.symm, HB1.out⟩
theorem sLevels_calls (b o : Nat) (w h : Int) (z : Value) (sl : List Slab) (xs : List Int) (v : Value) (W : World) (hq : SqIn W w h z sl) (ha : Sq.at_ W b o w h z) (hs : Sl W W.heap.size i64c 1 v xs) :
    Calls Tryd.prog 47 #[.pointer (some ⟨b, o, none⟩), v] W fun e w' => e = .returned (.bool (levB w h sl xs)) ∧ Below W.heap.size W w' := by
  have qn := Lib.hid (sNums_calls b o w h z sl xs v (-100) 100 W hq ha hs)
  clear hq ha hs
  go_enter Tryd.func47, Tryd.ntmps47
  go_wp2_with fail
  refine qn.out.mono ?_
  rintro e w1 ⟨rfl, hb1⟩
  go_wp2_with fail
  go_ret
  exact ⟨rfl, hb1⟩
theorem lev1Fn (lo hi : Int) (b1 b2 : Nat) (w : World) (hb1 : b1 < w.heap.size) (hb2 : b2 < w.heap.size) (h1 : w.cell? ⟨b1, 0, none⟩ = some (.int .i64 lo)) (h2 : w.cell? ⟨b2, 0, none⟩ = some (.int .i64 hi)) (x : Int) :
    Tells Tryd.prog 119 #[.pointer (some ⟨b1, 0, none⟩), .pointer (some ⟨b2, 0, none⟩)] i64v (fun n => !inB n lo hi) w x := by
  intro W hW
  have c1 := (hW.cell (p := ⟨b1, 0, none⟩) hb1).trans h1
  have c2 := (hW.cell (p := ⟨b2, 0, none⟩) hb2).trans h2
  unfold i64v
  go_enter Tryd.func119, Tryd.ntmps119
  go_wp2_with fail
  refine (within_calls _ _ _ _).mono ?_
  rintro e w1 ⟨rfl, rfl⟩
  go_wp2_with fail
  go_ret
  exact ⟨rfl, Below.refl _ _⟩
set_option maxHeartbeats 1000000 in
theorem areLevels_calls (w h : Int) (z : Value) (sl : List Slab) (xs : List Int) (v : Value) (lo hi : Int) (W : World) (hq : SqIn W w h z sl) (hs : Sl W W.heap.size i64c 1 v xs) :
    Calls Tryd.prog 88 #[sqv w h z, v, .int .i64 lo, .int .i64 hi] W fun e w' => e = .returned (.bool (numsB w h sl xs lo hi)) ∧ Below W.heap.size W w' := by
  obtain ⟨A, cap, hz, -, -, -⟩ := hq.sl.slab
  subst hz
  obtain ⟨A2, cap2, rfl, hl, hm, hcell⟩ := hs.i64
  have eg := enters_of Tryd.func119 (by kernel_rfl) rfl
  have HQ := Lib.hid hq
  have HS := Lib.hid hs
  have HB := Lib.hid (ext_alloc (ext_alloc ((Below.refl W.heap.size W).alloc (Nat.le_refl _) (.cells #[.int .i8 w, .int .i8 h, .slice A sl.length cap] 38)) (.cells #[.int .i64 lo] 2)) (.cells #[.int .i64 hi] 2))
  have K0 := Lib.hid (((Bk.new W 38 #[.int .i8 w, .int .i8 h, .slice A sl.length cap] W.heap.size rfl).alloc (.cells #[.int .i64 lo] 2)).alloc (.cells #[.int .i64 hi] 2))
  have K1 := Lib.hid ((Bk.new (W.alloc (.cells #[.int .i8 w, .int .i8 h, .slice A sl.length cap] 38)) 2 #[.int .i64 lo] (W.heap.size + 1) (by simp)).alloc (.cells #[.int .i64 hi] 2))
  have K2 := Lib.hid (Bk.new ((W.alloc (.cells #[.int .i8 w, .int .i8 h, .slice A sl.length cap] 38)).alloc (.cells #[.int .i64 lo] 2)) 2 #[.int .i64 hi] (W.heap.size + 1 + 1) (by simp))
  have qv := Lib.hid (validSquare_calls w h hq.w0 hq.w1 hq.h0 hq.h1 sl hq.ok _ _ (hq.sl.ext HB.out))
  have hsl := Lib.hid (show sl.length ≤ 9223372036854775807 from hq.sl.len)
  obtain ⟨R, hR0⟩ : ∃ R, R = numsB w h sl xs lo hi := ⟨_, rfl⟩
  rw [← hR0]
  have hR := Lib.hid hR0
  clear hR0 hq hs hcell
  have k0 := K0.out.cell 0 _ rfl
  have k1 := K0.out.cell 1 _ rfl
  have k2 := K0.out.cell 2 _ rfl
  unfold sqv
  go_enter Tryd.func88, Tryd.ntmps88
  go_wp2_with fail
  refine qv.out.mono ?_
  rintro e w1 ⟨rfl, hb1⟩
  have HB1 := Lib.hid (ext_trans HB.out hb1)
  have K01 := Lib.hid (K0.out.ext hb1)
  have K11 := Lib.hid (K1.out.ext hb1)
  have K21 := Lib.hid (K2.out.ext hb1)
  clear hb1 k0 k1 k2
  have k2 := K01.out.cell 2 _ rfl
  cases hv : sqOk w h sl
  · have hE := Lib.hid (show R = false from by rw [hR.out, numsB, hv, Bool.false_and, Bool.and_false])
    clear hv
    go_wp2_with fail
    go_ret
    exact ⟨ret_bool hE.out.symm, HB1.out⟩
  · have hE := Lib.hid (show R = (xs.all (fun n => inB n lo hi) && decide (xs.length = sl.length)) from by rw [hR.out, numsB, hv, Bool.true_and])
    have hs2 := hsl.out
    clear hv hR
    by_cases he : xs.length = sl.length
    · have hq1 : ((xs.length : Int) == (sl.length : Int)) = true := by rw [beq_iff_eq]; omega
      have hE2 := Lib.hid (show R = !xs.any (fun n => !inB n lo hi) from by rw [hE.out, any_not]; simp [he])
      have he := Lib.hid he
      have qc := Lib.hid (containsFunci64 xs _ w1 (HS.out.ext HB1.out) 119 #[.pointer (some ⟨W.heap.size + 1, 0, none⟩), .pointer (some ⟨W.heap.size + 1 + 1, 0, none⟩)] (fun n => !inB n lo hi) eg (fun x _ => lev1Fn lo hi _ _ w1 K11.out.lt K21.out.lt (K11.out.cell 0 _ rfl) (K21.out.cell 0 _ rfl) x))
      rw [he.out] at qc
      generalize xs.any (fun n => !inB n lo hi) = D at *
      go_wp2_with fail
      refine qc.out.mono ?_
      rintro e w2 ⟨rfl, hb2⟩
      have HB2 := Lib.hid (ext_trans HB1.out hb2)
      clear hb2
      go_wp2_with fail
      go_ret
      exact ⟨ret_bool hE2.out.symm, HB2.out⟩
    · have hq1 : ((xs.length : Int) == (sl.length : Int)) = false := by rw [beq_eq_false_iff_ne]; omega
      have hE2 := Lib.hid (show R = false from by rw [hE.out]; simp [he])
      have he := Lib.hid he
      go_wp2_with fail
      go_ret
      exact ⟨ret_bool hE2.out.symm, HB1.out⟩
theorem validLevels_calls (w h : Int) (z : Value) (sl : List Slab) (xs : List Int) (v : Value) (W : World) (hq : SqIn W w h z sl) (hs : Sl W W.heap.size i64c 1 v xs) :
    Calls Tryd.prog 50 #[sqv w h z, v] W fun e w' => e = .returned (.bool (levB w h sl xs)) ∧ Below W.heap.size W w' := by
  obtain ⟨A, cap, hz, -, -, -⟩ := hq.sl.slab
  subst hz
  obtain ⟨A2, cap2, rfl, hl, hm, hcell⟩ := hs.i64
  have HB := Lib.hid ((Below.refl W.heap.size W).alloc (Nat.le_refl _) (.cells #[.int .i8 w, .int .i8 h, .slice A sl.length cap] 38))
  have K0 := Lib.hid (Bk.new W 38 #[.int .i8 w, .int .i8 h, .slice A sl.length cap] W.heap.size rfl)
  have qa := Lib.hid (areLevels_calls w h _ sl xs _ (-100) 100 _ (hq.ext HB.out) (hs.ext HB.out))
  clear hq hs hcell
  have k0 := K0.out.cell 0 _ rfl
  have k1 := K0.out.cell 1 _ rfl
  have k2 := K0.out.cell 2 _ rfl
  unfold sqv at *
  go_enter Tryd.func50, Tryd.ntmps50
  go_wp2_with fail
  refine qa.out.mono ?_
  rintro e w1 ⟨rfl, hb1⟩
  have HB1 := Lib.hid (ext_trans HB.out hb1)
  clear hb1 k0 k1 k2
  go_wp2_with fail
  go_ret
  exact ⟨rfl, HB1.out⟩
end Go.Proofs.YthlcmiediedcfaaDoor
