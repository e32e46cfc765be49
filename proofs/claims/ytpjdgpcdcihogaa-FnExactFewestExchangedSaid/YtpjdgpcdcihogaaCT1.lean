/-
Lists that cover trips; codes of indices. Of both programs. Conditions: slices can be read.
-/
import Derived.Test.YtpjdgpcdcihogaaTR2
set_option linter.unusedVariables false
set_option linter.unusedSimpArgs false
set_option maxRecDepth 100000
namespace Go.Proofs.Ytpjdgpcdcihogaa
open Go.RowKit
theorem firstOf2_calls (a b : Int) (v : Value) (w : World) (hs : Sl w w.heap.size i64c 1 v [a, b]) :
    Calls Try.prog 70 #[v] w fun e w' => e = .returned (.int .i64 (orI a b)) ∧ w = w' := by
  obtain ⟨A, cap, rfl, hl, hm, hcell⟩ := hs.i64
  obtain ⟨b1, o1, rfl, hb1, h0⟩ := hcell 0 (by simp)
  obtain ⟨b2, o2, he, hb2, h1⟩ := hcell 1 (by simp)
  obtain ⟨rfl, rfl⟩ : b2 = b1 ∧ o2 = o1 := by
    injection he with he
    injection he with e1 e2
    exact ⟨e1.symm, e2.symm⟩
  clear he hb2 hs hcell
  simp only [List.getElem_cons_zero, List.getElem_cons_succ, Nat.add_zero] at h0 h1
  simp only [List.length_cons, List.length_nil, Nat.zero_add, Nat.reduceAdd] at *
  by_cases ha : a = 0
  · subst ha
    have hR := Lib.hid (show orI 0 b = b from if_pos rfl)
    go_enter Try.func70, Try.ntmps70
    go_wp2_with fail
    refine wp_loop_rounds 3 ?_
    rw [rounds_succ]
    go_wp2_with fail
    rw [rounds_succ]
    by_cases hb : b = 0
    · subst hb
      go_wp2_with fail
      rw [rounds_succ]
      go_wp2_with fail
      go_ret
      exact ⟨ret_int hR.out.symm, rfl⟩
    · have hne : (b == 0) = false := by simpa using hb
      have hne2 : (b != 0) = true := by simpa using hb
      clear hb
      go_wp2_with fail
      go_ret
      exact ⟨ret_int hR.out.symm, rfl⟩
  · have hR := Lib.hid (show orI a b = a from if_neg ha)
    have hne : (a == 0) = false := by simpa using ha
    have hne2 : (a != 0) = true := by simpa using ha
    clear ha
    go_enter Try.func70, Try.ntmps70
    go_wp2_with fail
    refine wp_loop_rounds 3 ?_
    rw [rounds_succ]
    go_wp2_with fail
    go_ret
    exact ⟨ret_int hR.out.symm, rfl⟩
def idxB (n : Nat) (i : Int) : Bool := inB i 0 ((n : Int) - 1)
def idxC (w h : Int) (sl : List Slab) (xs : List Int) : Int := if sqOk w h sl = true then (if xs.all (idxB sl.length) = true then 0 else 2) else 1
def covP (xs : List Int) (p : Pair) : Bool := decide (p.a ∈ xs) || decide (p.b ∈ xs)
def coversB (ps : List Pair) (xs : List Int) : Bool := ps.all (covP xs)
set_option maxHeartbeats 1000000 in
theorem l00Has_calls (xs : List Int) (v : Value) (x : Int) (W : World) (hs : Sl W W.heap.size i64c 1 v xs) :
    Calls Try.prog 73 #[v, .int .i64 x] W fun e w' => e = .returned (.bool (decide (x ∈ xs))) ∧ W = w' := by
  obtain ⟨A, cap, rfl, hl, hm, hcell⟩ := hs.i64
  clear hs
  go_enter Try.func73, Try.ntmps73
  go_wp2_with fail
  go_loop [5] (fun c => ∃ k : Nat, k ≤ xs.length ∧ c = .int .i64 (k : Int) ∧ (xs.take k).all (fun n => !(n == x)) = true) (fun c => xs.length - (intOf c).toNat)
  case atStart => exact ⟨0, by omega, rfl, rfl⟩
  case round =>
    obtain ⟨k, hk, rfl, hall⟩ := hrel
    have HA := Lib.hid hall
    clear hall
    by_cases hlt : k < xs.length
    · obtain ⟨b1, o1, rfl, hbb, c0⟩ := hcell k hlt
      clear hcell
      by_cases he : xs[k] = x
      · have hE := Lib.hid (show decide (x ∈ xs) = true from by rw [decide_eq_true_eq, ← he]; exact List.getElem_mem hlt)
        have hq : (xs[k] == x) = true := by simp [he]
        have he := Lib.hid he
        go_wp2_with fail
        go_ret
        exact ⟨ret_bool hE.out.symm, rfl⟩
      · have hE := Lib.hid (take_all_succ _ xs k hlt HA.out (by simp [he]))
        have hq : (xs[k] == x) = false := by simp [he]
        have he := Lib.hid he
        go_wp2_with fail
        go_round
        case rel => exact ⟨k + 1, by omega, by go_num, hE.out⟩
        case measure => first | (simp [intOf]; done) | (simp [intOf]; omega)
    · have hE := Lib.hid (show decide (x ∈ xs) = false from by
        have h1 := all_of_take _ xs k (by omega) HA.out
        rw [decide_eq_false_iff_not]
        intro hm
        have := List.all_eq_true.1 h1 x hm
        simp at this)
      go_wp2_with fail
      go_ret
      exact ⟨ret_bool hE.out.symm, rfl⟩
set_option maxHeartbeats 1000000 in
theorem sCovers_calls (ps : List Pair) (v : Value) (xs : List Int) (u : Value) (W : World) (hs : Sl W W.heap.size Pair.c 2 v ps) (ht : Sl W W.heap.size i64c 1 u xs) :
    Calls Try.prog 69 #[v, u] W fun e w' => e = .returned (.bool (coversB ps xs)) ∧ W = w' := by
  obtain ⟨A, cap, rfl, hl, hm, hcell⟩ := hs.pair
  obtain ⟨A2, cap2, rfl, -, -, -⟩ := ht.i64
  have HT := Lib.hid ht
  clear hs ht
  obtain ⟨R, hR0⟩ : ∃ R, R = coversB ps xs := ⟨_, rfl⟩
  rw [← hR0]
  have hR := Lib.hid hR0
  clear hR0
  go_enter Try.func69, Try.ntmps69
  go_wp2_with fail
  go_loop [5] (fun c => ∃ k : Nat, k ≤ ps.length ∧ c = .int .i64 (k : Int) ∧ (ps.take k).all (covP xs) = true) (fun c => ps.length - (intOf c).toNat)
  case atStart => exact ⟨0, by omega, rfl, rfl⟩
  case round =>
    obtain ⟨k, hk, rfl, hall⟩ := hrel
    have HA := Lib.hid hall
    clear hall
    by_cases hlt : k < ps.length
    · obtain ⟨b1, o1, rfl, hbb, c0, c1⟩ := hcell k hlt
      clear hcell
      have q1 := Lib.hid (l00Has_calls xs _ ps[k].a W HT.out)
      have q2 := Lib.hid (l00Has_calls xs _ ps[k].b W HT.out)
      have hno := Lib.hid (show decide (ps[k].a ∈ xs) = false → decide (ps[k].b ∈ xs) = false → R = false from fun h1 h2 => by rw [hR.out]; exact all_false_at _ ps k hlt (by simp only [covP, h1, h2]; rfl))
      have hyes := Lib.hid (show (decide (ps[k].a ∈ xs) = true ∨ decide (ps[k].b ∈ xs) = true) → (ps.take (k + 1)).all (covP xs) = true from fun h => take_all_succ _ ps k hlt HA.out (by simp only [covP]; rcases h with h | h <;> simp [h]))
      generalize decide (ps[k].a ∈ xs) = m1 at *
      generalize decide (ps[k].b ∈ xs) = m2 at *
      go_wp2_with fail
      refine q1.out.mono ?_
      rintro e w1 ⟨rfl, rfl⟩
      cases m1
      · go_wp2_with fail
        refine q2.out.mono ?_
        rintro e w1 ⟨rfl, rfl⟩
        cases m2
        · have hE := Lib.hid (hno.out (by first | rfl | trivial) (by first | rfl | trivial))
          go_wp2_with fail
          go_ret
          exact ⟨ret_bool hE.out.symm, rfl⟩
        · have hE := Lib.hid (hyes.out (by simp))
          go_wp2_with fail
          go_round
          case rel => exact ⟨k + 1, by omega, by go_num, hE.out⟩
          case measure => first | (simp [intOf]; done) | (simp [intOf]; omega)
      · have hE := Lib.hid (hyes.out (by simp))
        go_wp2_with fail
        go_round
        case rel => exact ⟨k + 1, by omega, by go_num, hE.out⟩
        case measure => first | (simp [intOf]; done) | (simp [intOf]; omega)
    · have hE := Lib.hid (show R = true from by rw [hR.out]; exact all_of_take _ ps k (by omega) HA.out)
      go_wp2_with fail
      go_ret
      exact ⟨ret_bool hE.out.symm, rfl⟩
theorem sIndex_calls (b o : Nat) (w h : Int) (z : Value) (sl : List Slab) (i : Int) (W : World) (hq : SqIn W w h z sl) (ha : Sq.at_ W b o w h z) :
    Calls Try.prog 68 #[.pointer (some ⟨b, o, none⟩), .int .i64 i] W fun e w' => e = .returned (.bool (idxB sl.length i)) ∧ W = w' := by
  obtain ⟨A, cap, hz, hl, hm, -⟩ := hq.sl.slab
  subst hz
  obtain ⟨c0, c1, c2, lt⟩ := ha
  have hx := wrapIn ((sl.length : Int) - 1) (by omega) (by omega)
  clear hq
  go_enter Try.func68, Try.ntmps68
  go_wp2_with fail
  refine (in_calls _ _ _ _).mono ?_
  rintro e w1 ⟨rfl, rfl⟩
  go_wp2_with fail
  go_ret
  exact ⟨rfl, rfl⟩
theorem cov1Fn (xs : List Int) (v : Value) (b1 : Nat) (w : World) (hb1 : b1 < w.heap.size) (h1 : w.cell? ⟨b1, 0, none⟩ = some v) (hs : Sl w w.heap.size i64c 1 v xs) (p : Pair) :
    Tells Try.prog 120 #[.pointer (some ⟨b1, 0, none⟩)] Pair.v (fun p => !covP xs p) w p := by
  intro W hW
  obtain ⟨A, cap, rfl, hl, hm, -⟩ := hs.i64
  have c1 := (hW.cell (p := ⟨b1, 0, none⟩) hb1).trans h1
  have l1 : b1 < W.heap.size := Nat.lt_of_lt_of_le hb1 hW.size
  have HS := Lib.hid (hs.ext hW)
  have HB := Lib.hid ((Below.refl W.heap.size W).alloc (Nat.le_refl _) (.cells #[.int .i64 p.a, .int .i64 p.b] 98))
  have q1 := Lib.hid (containsI64 xs _ p.a _ (HS.out.ext HB.out))
  have q2 := Lib.hid (containsI64 xs _ p.b _ (HS.out.ext HB.out))
  have hR := Lib.hid (show (fun p => !covP xs p) p = !(decide (p.a ∈ xs) || decide (p.b ∈ xs)) from rfl)
  clear hs hW h1 hb1
  generalize decide (p.a ∈ xs) = m1 at *
  generalize decide (p.b ∈ xs) = m2 at *
  unfold Pair.v
  go_enter Try.func120, Try.ntmps120
  go_wp2_with fail
  refine q1.out.mono ?_
  rintro e w1 ⟨rfl, rfl⟩
  cases m1
  · go_wp2_with fail
    refine q2.out.mono ?_
    rintro e w1 ⟨rfl, rfl⟩
    cases m2
    all_goals
      go_wp2_with fail
      go_ret
      exact ⟨ret_bool (by rw [hR.out]; rfl), HB.out⟩
  · go_wp2_with fail
    go_ret
    exact ⟨ret_bool (by rw [hR.out]; rfl), HB.out⟩
theorem coversAll_calls (ps : List Pair) (v : Value) (xs : List Int) (u : Value) (W : World) (hs : Sl W W.heap.size Pair.c 2 v ps) (ht : Sl W W.heap.size i64c 1 u xs) :
    Calls Try.prog 72 #[v, u] W fun e w' => e = .returned (.bool (coversB ps xs)) ∧ Below W.heap.size W w' := by
  obtain ⟨A, cap, rfl, -, -, -⟩ := hs.pair
  obtain ⟨A2, cap2, rfl, -, -, -⟩ := ht.i64
  have eg := enters_of Try.func120 (by kernel_rfl) rfl
  have HB := Lib.hid ((Below.refl W.heap.size W).alloc (Nat.le_refl _) (.cells #[.slice A2 xs.length cap2] 29))
  have K := Lib.hid (Bk.new W 29 #[.slice A2 xs.length cap2] W.heap.size rfl)
  have qc := Lib.hid (containsFuncPair ps _ _ (hs.ext HB.out) 120 #[.pointer (some ⟨W.heap.size, 0, none⟩)] (fun p => !covP xs p) eg (fun x _ => cov1Fn xs _ W.heap.size _ K.out.lt (K.out.cell 0 _ rfl) (ht.ext HB.out) x))
  have hR := Lib.hid (show coversB ps xs = !ps.any (fun p => !covP xs p) from (any_not _ _).symm)
  clear hs ht
  generalize ps.any (fun p => !covP xs p) = D at *
  go_enter Try.func72, Try.ntmps72
  go_wp2_with fail
  refine qc.out.mono ?_
  rintro e w1 ⟨rfl, hb1⟩
  have HB1 := Lib.hid (ext_trans HB.out hb1)
  clear hb1
  go_wp2_with fail
  go_ret
  exact ⟨ret_bool hR.out.symm, HB1.out⟩
theorem sizeSlab_any (A : Option Addr) (n cap : Nat) (W : World) : Calls Try.prog 116 #[.slice A n cap] W fun e w' => e = .returned (.int .i64 (n : Int)) ∧ W = w' := by
  go_enter Try.func116, Try.ntmps116
  go_wp2_with fail
  go_ret
  exact ⟨rfl, rfl⟩
theorem idx1Fn (n : Nat) (A : Option Addr) (cap b1 : Nat) (hn : n ≤ 9223372036854775807) (w : World) (hb1 : b1 < w.heap.size) (h1 : w.cell? ⟨b1, 2, none⟩ = some (.slice A n cap)) (hsz : ∀ W, Calls Try.prog 116 #[.slice A n cap] W fun e w' => e = .returned (.int .i64 (n : Int)) ∧ W = w') (x : Int) :
    Tells Try.prog 118 #[.pointer (some ⟨b1, 0, none⟩)] i64v (fun i => !idxB n i) w x := by
  intro W hW
  have c1 := (hW.cell (p := ⟨b1, 2, none⟩) hb1).trans h1
  have l1 : b1 < W.heap.size := Nat.lt_of_lt_of_le hb1 hW.size
  have hx := wrapIn ((n : Int) - 1) (by omega) (by omega)
  have HZ := Lib.hid hsz
  clear hW h1 hb1 hsz
  unfold i64v
  go_enter Try.func118, Try.ntmps118
  go_wp2_with fail
  refine (HZ.out _).mono ?_
  rintro e w1 ⟨rfl, rfl⟩
  go_wp2_with fail
  refine (within_calls _ _ _ _).mono ?_
  rintro e w1 ⟨rfl, rfl⟩
  go_wp2_with fail
  go_ret
  exact ⟨rfl, Below.refl _ _⟩
set_option maxHeartbeats 1000000 in
theorem indexCode_calls (w h : Int) (z : Value) (sl : List Slab) (xs : List Int) (v : Value) (W : World) (hq : SqIn W w h z sl) (hs : Sl W W.heap.size i64c 1 v xs) :
    Calls Try.prog 71 #[sqv w h z, v] W fun e w' => e = .returned (.int .i64 (idxC w h sl xs)) ∧ Below W.heap.size W w' := by
  obtain ⟨A, cap, hz, -, -, -⟩ := hq.sl.slab
  subst hz
  obtain ⟨A2, cap2, rfl, -, -, -⟩ := hs.i64
  have eg := enters_of Try.func118 (by kernel_rfl) rfl
  have HQ := Lib.hid hq
  have HS := Lib.hid hs
  have HB := Lib.hid ((Below.refl W.heap.size W).alloc (Nat.le_refl _) (.cells #[.int .i8 w, .int .i8 h, .slice A sl.length cap] 34))
  have K0 := Lib.hid (Bk.new W 34 #[.int .i8 w, .int .i8 h, .slice A sl.length cap] W.heap.size rfl)
  have qv := Lib.hid (validSquare_calls w h hq.w0 hq.w1 hq.h0 hq.h1 sl hq.ok _ _ (hq.sl.ext HB.out))
  have hR := Lib.hid (show idxC w h sl xs = if sqOk w h sl = true then (if xs.all (idxB sl.length) = true then 0 else 2) else 1 from rfl)
  have hln := Lib.hid hq.sl.len
  clear hq hs
  have k0 := K0.out.cell 0 _ rfl
  have k1 := K0.out.cell 1 _ rfl
  have k2 := K0.out.cell 2 _ rfl
  unfold sqv
  go_enter Try.func71, Try.ntmps71
  go_wp2_with fail
  refine qv.out.mono ?_
  rintro e w1 ⟨rfl, hb1⟩
  have HB1 := Lib.hid (ext_trans HB.out hb1)
  have K01 := Lib.hid (K0.out.ext hb1)
  clear hb1 k0 k1 k2
  generalize sqOk w h sl = E at *
  cases E
  · go_wp2_with fail
    go_ret
    exact ⟨ret_int (by rw [hR.out]; rfl), HB1.out⟩
  · have qc := Lib.hid (containsFunci64 xs _ w1 (HS.out.ext HB1.out) 118 #[.pointer (some ⟨W.heap.size, 0, none⟩)] (fun i => !idxB sl.length i) eg (fun x _ => idx1Fn sl.length A cap W.heap.size hln.out w1 K01.out.lt (K01.out.cell 2 _ rfl) (fun W' => by
      have := sizeSlab_any A sl.length cap W'
      exact this) x))
    have hR2 := Lib.hid (show idxC w h sl xs = if (!xs.any (fun i => !idxB sl.length i)) = true then 0 else 2 from by rw [hR.out, if_pos rfl, any_not])
    clear hR
    generalize xs.any (fun i => !idxB sl.length i) = D at *
    go_wp2_with fail
    refine qc.out.mono ?_
    rintro e w2 ⟨rfl, hb2⟩
    have HB2 := Lib.hid (ext_trans HB1.out hb2)
    clear hb2
    cases D
    all_goals
      go_wp2_with fail
      refine (unless_calls _ _ _).mono ?_
      rintro e w3 ⟨rfl, rfl⟩
      go_wp2_with fail
      go_ret
      exact ⟨ret_int (by rw [hR2.out]; simp), HB2.out⟩
end Go.Proofs.Ytpjdgpcdcihogaa
