/-
What the laws do with squares: sizes, copies, comparisons, marks. Conditions: numbers are of their kinds; slices can be read.
-/
import Derived.Test.YteflpdfajfljfaaLaw
import Derived.Test.YteflpdfajfljfaaMark2
set_option linter.unusedVariables false
set_option linter.unusedSimpArgs false
set_option maxRecDepth 100000
namespace Go.Proofs.Yteflpdfajfljfaa
open Go.RowKit
theorem szSquare_calls (w h : Int) (z : Value) (sl : List Slab) (l : Int) (W : World) (h0 : 0 ≤ l) (h1 : l ≤ 1048576) (hs : Sl W W.heap.size Slab.c 4 z sl) :
    Calls Try.prog 10 #[.agg #[.int .i8 w, .int .i8 h, z], .int .i64 l] W fun e w' => e = .returned (.int .i64 (if l < sl.length then -1 else l - sl.length)) ∧ Below W.heap.size W w' := by
  obtain ⟨A, cap, rfl, hl, hm, -⟩ := hs.slab
  have hB := (Below.refl W.heap.size W).alloc (Nat.le_refl _) (.cells #[.int .i8 w, .int .i8 h, .slice A sl.length cap] 25)
  have HB := Lib.hid hB
  have HS := Lib.hid (hs.ext hB)
  clear hB hs
  go_enter Try.func10, Try.ntmps10
  go_wp2_with fail
  refine (szSlabS_calls sl _ l _ h0 h1 HS.out).mono ?_
  rintro e w1 ⟨rfl, rfl⟩
  by_cases hl : l < sl.length
  · rw [if_pos hl]
    go_wp2_with fail
    go_ret
    exact ⟨rfl, HB.out⟩
  · rw [if_neg hl]
    have hd : decide (l - (sl.length : Int) < 0) = false := by rw [decide_eq_false_iff_not]; omega
    go_wp2_with fail
    go_ret
    exact ⟨rfl, HB.out⟩
theorem gby_set' (w : World) (g j : Nat) (u : Value) : w.grownBy (w.setCell ⟨g, j, none⟩ u) (some g) := ⟨rfl, rfl, rfl, by simp [World.setCell], fun k hk hne => Below.heap_setCell _ _ _ _ (fun e => hne (by rw [e]))⟩
theorem cell_ret {P : Program} {fn : Func} {t : Nat} {R : Ending → World → Prop} {a : Act} {W : World} {T : TypeId} {d : TypeDesc} (hr : fn.results = #[.cell t T]) {p : Nat} (hp : a.tmps.getD t undef = .pointer (some ⟨p, 0, none⟩)) {cs : Array Value} {T' : TypeId} (hb : Bk W p T' cs)
    (hu : P.underlying T = some d) (hrow : d.isRow = true) (hi : (P.info? T).map (·.size) = some cs.size) (hd : a.defers = []) (hR : R (.returned (.agg cs)) W) : bodyPost P fn R .ret a W := by
  refine bodyPost_ret (v := .agg cs) ?_ hd hR
  have := run_loadVar_mid (P := P) W p 0 T cs.toList _ (fun j v hj => by rw [Nat.zero_add]; exact hb.cell j v (by simpa using hj)) hu hrow (by simpa using hi)
  have hp2 : a.tmps[t]?.getD undef = .pointer (some ⟨p, 0, none⟩) := by simpa using hp
  simp [results, hr, hp2, this, asAddr, Sem.run_bind, Result.andThen]
theorem toSquare_calls (w h : Int) (z : Value) (sl : List Slab) (W : World) (hs : Sl W W.heap.size Slab.c 4 z sl) (hn : sl.length ≤ 1048576) :
    Calls Try.prog 12 #[.agg #[.int .i8 w, .int .i8 h, z]] W fun e w' => ∃ z', e = .returned (.agg #[.int .i8 w, .int .i8 h, z']) ∧ Own w' W.heap.size 127 Slab.c 4 z' sl ∧ Below W.heap.size W w' := by
  obtain ⟨A, cap, rfl, hl, hm, -⟩ := hs.slab
  have HS := Lib.hid hs
  have hb2 := Lib.hid (show ∀ (w h : Int) (z : Value) (O1 O2 : Obj), Below W.heap.size W (((W.alloc O1).alloc O2).alloc (.cells #[.int .i8 w, .int .i8 h, z] 34)) from fun w h z O1 O2 => ext_alloc (ext_alloc ((Below.refl _ _).alloc (Nat.le_refl _) _) _) _)
  have k3 := Lib.hid (show ∀ (O1 O2 : Obj), Bk (((W.alloc O1).alloc O2).alloc (.cells #[.int .i8 w, .int .i8 h, .slice none 0 0] 34)) (W.heap.size + 1 + 1) 34 #[.int .i8 w, .int .i8 h, .slice none 0 0] from fun O1 O2 => Bk.new _ _ _ _ (by simp))
  have k2 := Lib.hid (show ∀ (O1 O3 : Obj), Bk (((W.alloc O1).alloc (.cells #[.int .i8 0, .int .i8 0, .slice none 0 0] 34)).alloc O3) (W.heap.size + 1) 34 #[.int .i8 0, .int .i8 0, .slice none 0 0] from fun O1 O3 => (Bk.new _ _ _ _ (by simp)).alloc _)
  clear hs
  go_enter Try.func12, Try.ntmps12
  go_wp2_with fail
  refine (toSlabS_calls sl _ _ (HS.out.ext (hb2.out _ _ _ _ _)) hn).mono ?_
  rintro e w1 ⟨v1, rfl, hO, hb1⟩
  obtain ⟨A4, cap4, rfl, -, -, -⟩ := (hO.sl Slab.c_len).slab
  have j2 := (k2.out _ _).ext hb1
  have j3 := (k3.out _ _).ext hb1
  have HB1 := Lib.hid (ext_trans (hb2.out _ _ _ _ _) hb1)
  have HO := Lib.hid hO
  have c0 := j3.cell 0 _ rfl
  have c1 := j3.cell 1 _ rfl
  have c2 := j3.cell 2 _ rfl
  have d0 := j2.cell 0 _ rfl
  have d1 := j2.cell 1 _ rfl
  have d2 := j2.cell 2 _ rfl
  have f0 := j3.frz 0
  have f1 := j3.frz 1
  have f2 := j3.frz 2
  have g0 := j2.frz 0
  have g1 := j2.frz 1
  have g2 := j2.frz 2
  have hbase := Lib.hid (fun k hk => hO.base k hk)
  have m2 := Lib.hid ((((j2.oth 2 (.slice A4 sl.length cap4) (show W.heap.size + 1 ≠ W.heap.size + 1 + 1 by omega)).set 0 (.int .i8 w)).set 1 (.int .i8 h)).set 2 (.slice A4 sl.length cap4))
  clear hb1 hO j2 j3
  go_wp2_with fail
  (try simp only [Exit.inBlock, Exit.then])
  refine cell_ret Try.results12 rfl m2.out Try.underlying34 rfl (by kernel_rfl) rfl ?_
  refine ⟨.slice A4 sl.length cap4, rfl, (HO.out.keep fun k hk => ?_).more (by simp; omega), ?_⟩
  · have hk1 := hbase.out k hk
    simp at hk1
    rw [Below.heap_setCell _ _ _ _ (show k ≠ W.heap.size + 1 by omega), Below.heap_setCell _ _ _ _ (show k ≠ W.heap.size + 1 by omega), Below.heap_setCell _ _ _ _ (show k ≠ W.heap.size + 1 by omega), Below.heap_setCell _ _ _ _ (show k ≠ W.heap.size + 1 + 1 by omega)]
  · have h0 := HB1.out.size
    exact (((HB1.out.grown (gby_set' _ _ _ _) h0 (fun j hj => by injection hj with hj; omega)).grown (gby_set' _ _ _ _) (by simpa [World.setCell] using h0) (fun j hj => by injection hj with hj; omega)).grown (gby_set' _ _ _ _) (by simpa [World.setCell] using h0) (fun j hj => by injection hj with hj; omega)).grown (gby_set' _ _ _ _) (by simpa [World.setCell] using h0) (fun j hj => by injection hj with hj; omega)
theorem eqSquare_calls (w h w2 h2 : Int) (z u : Value) (xs ys : List Slab) (W : World) (hs : Sl W W.heap.size Slab.c 4 z xs) (ht : Sl W W.heap.size Slab.c 4 u ys) (hw : w = w2) (hh : h = h2) :
    Calls Try.prog 16 #[.agg #[.int .i8 w, .int .i8 h, z], .agg #[.int .i8 w2, .int .i8 h2, u]] W fun e w' => e = .returned (.bool (decide (xs = ys))) ∧ Below W.heap.size W w' := by
  subst hw; subst hh
  obtain ⟨A, cap, rfl, -, -, -⟩ := hs.slab
  obtain ⟨A2, cap2, rfl, -, -, -⟩ := ht.slab
  have hB := ext_alloc ((Below.refl W.heap.size W).alloc (Nat.le_refl _) (.cells #[.int .i8 w, .int .i8 h, .slice A xs.length cap] 34)) (.cells #[.int .i8 w, .int .i8 h, .slice A2 ys.length cap2] 34)
  have HB := Lib.hid hB
  have HS := Lib.hid (hs.ext hB)
  have HT := Lib.hid (ht.ext hB)
  have n0 : (w != w) = false := by simp
  have n1 : (h != h) = false := by simp
  clear hB hs ht
  go_enter Try.func16, Try.ntmps16
  go_wp2_with fail
  refine (eqSlabS_calls xs ys _ _ _ HS.out HT.out).mono ?_
  rintro e w1 ⟨rfl, hb1⟩
  have HB1 := Lib.hid (ext_trans HB.out hb1)
  clear hb1
  cases hq : decide (xs = ys)
  all_goals
    have HQ := Lib.hid hq
    clear hq
    go_wp2_with fail
    go_ret
    exact ⟨ret_bool HQ.out.symm, HB1.out⟩
theorem markSquare_calls (w h : Int) (z : Value) (xs : List Slab) (W : World) (B : Nat) (hB : B ≤ W.heap.size) (hO : Own W B 127 Slab.c 4 z xs) (k : Int) (hk0 : 0 ≤ k) (hk1 : k ≤ 1000000) (hn : xs.length ≤ 1048576) :
    Calls Try.prog 17 #[.agg #[.int .i8 w, .int .i8 h, z], .int .i64 k] W fun e w' => e = .returned (.int .i64 (k + 4 * xs.length)) ∧ Below B W w' ∧ (∀ (b : Nat), b < W.heap.size → z.ownBlock ≠ some b → w'.heap[b]? = W.heap[b]?) := by
  obtain ⟨A, cap, rfl, -, -, -⟩ := (hO.sl Slab.c_len).slab
  have hb := (Below.refl W.heap.size W).alloc (Nat.le_refl _) (.cells #[.int .i8 w, .int .i8 h, .slice A xs.length cap] 34)
  have HB := Lib.hid hb
  have HO := Lib.hid (hO.ext hb)
  clear hb hO
  go_enter Try.func17, Try.ntmps17
  go_wp2_with fail
  refine (markSlabS_calls xs _ _ B (Nat.le_trans hB HB.out.size) HO.out k hk0 (by omega) hn).mono ?_
  rintro e w1 ⟨rfl, -, hb1, hg1⟩
  have HB1 := Lib.hid (show Below B W w1 from (HB.out.mono hB).trans hb1)
  have HG := Lib.hid hg1
  clear hb1 hg1
  go_wp2_with fail
  go_ret
  refine ⟨rfl, HB1.out, fun b hb hne => ?_⟩
  exact (HG.out.block b (Nat.lt_of_lt_of_le hb HB.out.size) (fun he => hne he.symm)).trans (HB.out.block b hb)
end Go.Proofs.Yteflpdfajfljfaa
