/-
What the laws do with grounds: size, copy, compare, mark. How a ground is opened. Conditions: slices can be read.
-/
import Derived.Test.YthlcmiediedcfaaDoorGL1
set_option linter.unusedVariables false
set_option linter.unusedSimpArgs false
set_option maxRecDepth 100000
namespace Go.Proofs.YthlcmiediedcfaaDoor
open Go.RowKit
/-- A ground, but for its slice value. -/
structure Gd where
  w : Int
  h : Int
  hs : List Int
  gl : List Cell
def Gd.v (q : Gd) (z : Value) : Value := .agg (gdA q.w q.h q.hs z)
structure Gd.ok (q : Gd) : Prop where
  w0 : -128 ≤ q.w
  w1 : q.w ≤ 127
  h0 : -128 ≤ q.h
  h1 : q.h ≤ 127
  hl : q.hs.length = 81
  h16 : ∀ n ∈ q.hs, -32768 ≤ n ∧ n ≤ 32767
  gl : ∀ p ∈ q.gl, p.ok
theorem Gd.ok.in_ {q : Gd} (k : q.ok) {W : World} {z : Value} (hs : Sl W W.heap.size Cell.c 2 z q.gl) : GdIn W q.w q.h q.hs q.gl z := ⟨k.w0, k.w1, k.h0, k.h1, k.hl, k.h16, k.gl, hs⟩
theorem szGround_calls (w h : Int) (hs : List Int) (hl : hs.length = 81) (z : Value) (gl : List Cell) (l : Int) (W : World) (h0 : 0 ≤ l) (h1 : l ≤ 1048576) (hz : Sl W W.heap.size Cell.c 2 z gl) :
    Calls Tryd.prog 21 #[.agg (gdA w h hs z), .int .i64 l] W fun e w' => e = .returned (.int .i64 (if l < gl.length then -1 else l - gl.length)) ∧ Below W.heap.size W w' := by
  obtain ⟨A, cap, rfl, hlc, hm, -⟩ := hz.cell
  have hB := (Below.refl W.heap.size W).alloc (Nat.le_refl _) (.cells (gdA w h hs (.slice A gl.length cap)) 49)
  have HB := Lib.hid hB
  have HS := Lib.hid (hz.ext hB)
  have ga83 := gdA_z w h hs (.slice A gl.length cap) hl
  clear hB hz
  go_enter Tryd.func21, Tryd.ntmps21
  go_wp2_with fail
  refine (szCellS_calls gl _ l _ h0 h1 HS.out).mono ?_
  rintro e w1 ⟨rfl, rfl⟩
  by_cases hl : l < gl.length
  · rw [if_pos hl]
    go_wp2_with fail
    go_ret
    exact ⟨rfl, HB.out⟩
  · rw [if_neg hl]
    have hd : decide (l - (gl.length : Int) < 0) = false := by rw [decide_eq_false_iff_not]; omega
    go_wp2_with fail
    go_ret
    exact ⟨rfl, HB.out⟩
theorem zeroG : Tryd.zeroCells54 = gdA 0 0 z81 (.slice none 0 0) := by kernel_rfl
theorem z81_len : z81.length = 81 := rfl
theorem gdA_set0 (a w h : Int) (hs : List Int) (z : Value) : (gdA a h hs z).setIfInBounds 0 (.int .i8 w) = gdA w h hs z := by simp [gdA]
theorem gdA_set1 (a w h : Int) (hs : List Int) (z : Value) : (gdA w a hs z).setIfInBounds 1 (.int .i8 h) = gdA w h hs z := by simp [gdA]
theorem gdA_set83 (w h : Int) (hs : List Int) (hl : hs.length = 81) (y z : Value) : (gdA w h hs y).setIfInBounds 83 z = gdA w h hs z := by
  apply Array.ext'
  simp [gdA, List.set_append, hl]
theorem gdA_put2 (w h : Int) (xs hs : List Int) (hx : xs.length = 81) (hl : hs.length = 81) (z : Value) : (writeAt (gdA w h xs z).toList 2 (hA hs).toList).toArray = gdA w h hs z := by
  have := writeAt_mid (hA xs).toList (hA hs).toList (by simp [hA, hl, hx]) [.int .i8 w, .int .i8 h] [z]
  simp only [List.length_cons, List.length_nil] at this
  have e : (gdA w h xs z).toList = [.int .i8 w, .int .i8 h] ++ (hA xs).toList ++ [z] := by simp [gdA, hA]
  rw [e, this]
  apply Array.ext'
  simp [gdA, hA]
theorem gdA_all (w h a b : Int) (xs hs : List Int) (hx : xs.length = 81) (hl : hs.length = 81) (y z : Value) : (writeAt (gdA a b xs y).toList 0 (gdA w h hs z).toList).toArray = gdA w h hs z := by
  rw [writeAt_all _ _ (by simp [gdA, hx, hl])]
theorem load_hA' {W : World} {g : Nat} {T : TypeId} {w h : Int} {hs : List Int} {z : Value} (hl : hs.length = 81) (hb : Bk W g T (gdA w h hs z)) : (loadVar 46 ⟨g, 2, none⟩).run Tryd.prog W = .ok (.agg (hA hs)) W := load_hA hl hb
set_option maxHeartbeats 1000000 in
theorem toGround_calls (w h : Int) (hs : List Int) (hl : hs.length = 81) (z : Value) (gl : List Cell) (W : World) (hz : Sl W W.heap.size Cell.c 2 z gl) (hn : gl.length ≤ 1048576) :
    Calls Tryd.prog 23 #[.agg (gdA w h hs z)] W fun e w' => ∃ z', e = .returned (.agg (gdA w h hs z')) ∧ Own w' W.heap.size 98 Cell.c 2 z' gl ∧ Below W.heap.size W w' := by
  obtain ⟨A, cap, rfl, hlc, hm, -⟩ := hz.cell
  have HZ := Lib.hid hz
  have hzg := Lib.hid zeroG
  have K0 := Lib.hid (((Bk.new W 49 (gdA w h hs (.slice A gl.length cap)) W.heap.size rfl).alloc (.cells (gdA 0 0 z81 (.slice none 0 0)) 54)).alloc (.cells (gdA 0 0 z81 (.slice none 0 0)) 54))
  have K1 := Lib.hid ((Bk.new (W.alloc (.cells (gdA w h hs (.slice A gl.length cap)) 49)) 54 (gdA 0 0 z81 (.slice none 0 0)) (W.heap.size + 1) (by simp)).alloc (.cells (gdA 0 0 z81 (.slice none 0 0)) 54))
  have K2 := Lib.hid (Bk.new ((W.alloc (.cells (gdA w h hs (.slice A gl.length cap)) 49)).alloc (.cells (gdA 0 0 z81 (.slice none 0 0)) 54)) 54 (gdA 0 0 z81 (.slice none 0 0)) (W.heap.size + 1 + 1) (by simp))
  have HB := Lib.hid (ext_alloc (ext_alloc ((Below.refl W.heap.size W).alloc (Nat.le_refl _) (.cells (gdA w h hs (.slice A gl.length cap)) 49)) (.cells (gdA 0 0 z81 (.slice none 0 0)) 54)) (.cells (gdA 0 0 z81 (.slice none 0 0)) 54))
  rw [← hzg.out] at K0 K1 K2 HB
  clear hz
  go_enter Tryd.func23, Tryd.ntmps23
  go_upto_region 2 with (fail)
  generalize ((W.alloc (.cells (gdA w h hs (.slice A gl.length cap)) 49)).alloc _).alloc _ = W1 at *
  rw [hzg.out] at K1 K2
  have a0 := K0.out.cell 0 _ (gdA_0 _ _ _ _)
  have a1 := K0.out.cell 1 _ (gdA_1 _ _ _ _)
  have c0 := K2.out.cell 0 _ (gdA_0 _ _ _ _)
  have c1 := K2.out.cell 1 _ (gdA_1 _ _ _ _)
  have f0 := K2.out.frz 0
  have f1 := K2.out.frz 1
  go_upto_region 4 with (fail)
  have K24 := Lib.hid ((K2.out.set 0 (.int .i8 w)).set 1 (.int .i8 h))
  rw [gdA_set0, gdA_set1] at K24
  have K04 := Lib.hid ((K0.out.oth (g' := W.heap.size + 1 + 1) 0 (.int .i8 w) (by omega)).oth (g' := W.heap.size + 1 + 1) 1 (.int .i8 h) (by omega))
  have K14 := Lib.hid ((K1.out.oth (g' := W.heap.size + 1 + 1) 0 (.int .i8 w) (by omega)).oth (g' := W.heap.size + 1 + 1) 1 (.int .i8 h) (by omega))
  have HB4 := Lib.hid ((HB.out.setCell (p := ⟨W.heap.size + 1 + 1, 0, none⟩) (by simp <;> omega) (.int .i8 w)).setCell (p := ⟨W.heap.size + 1 + 1, 1, none⟩) (by simp <;> omega) (.int .i8 h))
  generalize (W1.setCell ⟨W.heap.size + 1 + 1, 0, none⟩ (.int .i8 w)).setCell ⟨W.heap.size + 1 + 1, 1, none⟩ (.int .i8 h) = W4 at *
  clear a0 a1 c0 c1 f0 f1 hzg
  have ld := load_hA' hl K04.out
  go_wp2_with (refine wpList_load_w rfl 46 (.tmp 10) rfl _ rfl _ ld ?_)
  refine (toA81_calls hs hl _).mono ?_
  rintro e w5 ⟨rfl, hb5⟩
  have K25 := Lib.hid (K24.out.ext hb5)
  have K05 := Lib.hid (K04.out.ext hb5)
  have K15 := Lib.hid (K14.out.ext hb5)
  have HB5 := Lib.hid (ext_trans HB4.out hb5)
  clear hb5 ld
  go_wp2_with (refine wpList_store_m rfl 46 (.tmp 13) (.tmp 12) rfl _ 2 (hA hs) rfl rfl _ _ K25.out (by rw [hA_size, hl, gdA_size _ _ _ _ z81_len]; omega) (by rw [hA_size, hl]; exact a81_sz _) (hA_one hs) ?_)
  intro w6 hK6 hG6
  rw [gdA_put2 w h z81 hs z81_len hl] at hK6
  have K26 := Lib.hid hK6
  have K06 := Lib.hid (show Bk w6 W.heap.size _ _ from (hG6.block _ K05.out.lt (fun e => by injection e with e; omega)).trans K05.out)
  have K16 := Lib.hid (show Bk w6 (W.heap.size + 1) _ _ from (hG6.block _ K15.out.lt (fun e => by injection e with e; omega)).trans K15.out)
  have HB6 := Lib.hid (HB5.out.grown hG6 HB5.out.size (fun j hj => by injection hj with hj; omega))
  clear hK6 hG6
  have a83 := K06.out.cell 83 _ (gdA_z _ _ _ _ hl)
  go_wp2_with fail
  refine (toCellS_calls gl _ _ (HZ.out.ext HB6.out) hn).mono ?_
  rintro e w7 ⟨v7, rfl, hO7, hb7⟩
  obtain ⟨A7, cap7, rfl, -, -, -⟩ := (hO7.sl Cell.c_len).cell
  have K27 := Lib.hid (K26.out.ext hb7)
  have K17 := Lib.hid (K16.out.ext hb7)
  have HB7 := Lib.hid (ext_trans HB6.out hb7)
  have HO7 := Lib.hid hO7
  have hs6 := Lib.hid (show W.heap.size + 1 + 1 < w6.heap.size from K26.out.lt)
  clear hO7 hb7 a83
  have c83 := K27.out.cell 83 _ (gdA_z _ _ _ _ hl)
  have f83 := K27.out.frz 83
  go_upto_region 6 with (fail)
  have K28 := Lib.hid (K27.out.set 83 (.slice A7 gl.length cap7))
  rw [gdA_set83 w h hs hl] at K28
  have K18 := Lib.hid (K17.out.oth (g' := W.heap.size + 1 + 1) 83 (.slice A7 gl.length cap7) (by omega))
  have HO8 := Lib.hid (show Own (w7.setCell ⟨W.heap.size + 1 + 1, 83, none⟩ (.slice A7 gl.length cap7)) w6.heap.size 98 Cell.c 2 _ gl from HO7.out.keep (fun j hj => by have h1 := HO7.out.base j hj; have h2 := hs6.out; rw [Below.heap_setCell _ _ _ _ (show j ≠ _ by simp <;> omega)]))
  have HB8 := Lib.hid (HB7.out.setCell (p := ⟨W.heap.size + 1 + 1, 83, none⟩) (by simp <;> omega) (.slice A7 gl.length cap7))
  generalize w7.setCell ⟨W.heap.size + 1 + 1, 83, none⟩ (.slice A7 gl.length cap7) = w8 at *
  clear c83 f83
  have ldg := load_gd hl K28.out
  go_wp2_with (first | (refine wpList_load_w rfl 54 (.tmp 3) rfl _ rfl _ ldg ?_) | (refine wpList_store_m rfl 54 (.tmp 2) (.tmp 18) rfl _ 0 (gdA w h hs (.slice A7 gl.length cap7)) rfl rfl _ _ K18.out (by rw [gdA_size _ _ _ _ hl, gdA_size _ _ _ _ z81_len]; omega) (by rw [gdA_size _ _ _ _ hl]; exact gd_sz _) (gdA_one _ _ _ _ _ _) ?_))
  intro w9 hK9 hG9
  rw [gdA_all _ _ _ _ _ _ z81_len hl] at hK9
  have K9 := Lib.hid hK9
  have HO9 := Lib.hid (HO8.out.keep (fun j hj => hG9.block j (HO8.out.lt j hj) (fun e => by injection e with e; have h1 := HO8.out.base j hj; have h2 := hs6.out; omega)))
  have HB9 := Lib.hid (HB8.out.grown hG9 HB8.out.size (fun j hj => by injection hj with hj; omega))
  have hs6b := Lib.hid (show W.heap.size ≤ w6.heap.size from by have := hs6.out; omega)
  clear hK9 hG9 ldg
  go_wp2_with fail
  exact cellret Tryd.results23 rfl (load_gd hl K9.out) rfl ⟨_, rfl, HO9.out.more hs6b.out, HB9.out⟩
set_option maxHeartbeats 1000000 in
theorem eqGround_calls (w h : Int) (hs : List Int) (hl : hs.length = 81) (z u : Value) (gl : List Cell) (W : World) (hz : Sl W W.heap.size Cell.c 2 z gl) (hu : Sl W W.heap.size Cell.c 2 u gl) :
    Calls Tryd.prog 25 #[.agg (gdA w h hs z), .agg (gdA w h hs u)] W fun e w' => e = .returned (.bool true) ∧ Below W.heap.size W w' := by
  obtain ⟨A, cap, rfl, -, -, -⟩ := hz.cell
  obtain ⟨A2, cap2, rfl, -, -, -⟩ := hu.cell
  have hB := ext_alloc ((Below.refl W.heap.size W).alloc (Nat.le_refl _) (.cells (gdA w h hs (.slice A gl.length cap)) 54)) (.cells (gdA w h hs (.slice A2 gl.length cap2)) 54)
  have HB := Lib.hid hB
  have HS := Lib.hid (hz.ext hB)
  have HT := Lib.hid (hu.ext hB)
  have K0 := Lib.hid ((Bk.new W 54 (gdA w h hs (.slice A gl.length cap)) W.heap.size rfl).alloc (.cells (gdA w h hs (.slice A2 gl.length cap2)) 54))
  have K1 := Lib.hid (Bk.new (W.alloc (.cells (gdA w h hs (.slice A gl.length cap)) 54)) 54 (gdA w h hs (.slice A2 gl.length cap2)) (W.heap.size + 1) (by simp))
  have n0 : (w != w) = false := by simp
  have n1 : (h != h) = false := by simp
  clear hB hz hu
  go_enter Tryd.func25, Tryd.ntmps25
  go_upto_region 1 with (fail)
  generalize (W.alloc (.cells (gdA w h hs (.slice A gl.length cap)) 54)).alloc (.cells (gdA w h hs (.slice A2 gl.length cap2)) 54) = W1 at *
  have a0 := K0.out.cell 0 _ (gdA_0 _ _ _ _)
  have a1 := K0.out.cell 1 _ (gdA_1 _ _ _ _)
  have b0 := K1.out.cell 0 _ (gdA_0 _ _ _ _)
  have b1 := K1.out.cell 1 _ (gdA_1 _ _ _ _)
  have l0 := load_hA' hl K0.out
  have l1 := load_hA' hl K1.out
  go_wp2_with (first | (refine wpList_load_w rfl 46 (.tmp 15) rfl _ rfl _ l0 ?_) | (refine wpList_load_w rfl 46 (.tmp 17) rfl _ rfl _ l1 ?_))
  refine (eqA81_calls hs hl _).mono ?_
  rintro e w2 ⟨rfl, hb2⟩
  have HS2 := Lib.hid (HS.out.ext hb2)
  have HT2 := Lib.hid (HT.out.ext hb2)
  have HB2 := Lib.hid (ext_trans HB.out hb2)
  have a83 := (K0.out.ext hb2).cell 83 _ (gdA_z _ _ _ _ hl)
  have b83 := (K1.out.ext hb2).cell 83 _ (gdA_z _ _ _ _ hl)
  clear hb2 l0 l1 a0 a1 b0 b1
  go_wp2_with fail
  refine (eqCellS_calls gl gl _ _ _ HS2.out HT2.out).mono ?_
  rintro e w3 ⟨rfl, hb3⟩
  have hd : decide (gl = gl) = true := by simp
  rw [hd]
  go_wp2_with fail
  go_ret
  exact ⟨rfl, ext_trans HB2.out hb3⟩
theorem markGround_calls (w h : Int) (hs : List Int) (hl : hs.length = 81) (z : Value) (xs : List Cell) (W : World) (B : Nat) (hB : B ≤ W.heap.size) (hO : Own W B 98 Cell.c 2 z xs) (k : Int) (hk0 : 0 ≤ k) (hk1 : k ≤ 10000000) (hn : xs.length ≤ 1048576) :
    Calls Tryd.prog 37 #[.agg (gdA w h hs z), .int .i64 k] W fun e w' => e = .returned (.int .i64 (k + 2 * xs.length)) ∧ Own w' B 98 Cell.c 2 z (cellMarks k xs.length) ∧ W.grownBy w' z.ownBlock := by
  obtain ⟨A, cap, rfl, -, -, -⟩ := (hO.sl Cell.c_len).cell
  have HO := Lib.hid (hO.alloc (.cells (gdA w h hs (.slice A xs.length cap)) 54))
  have ga83 := gdA_z w h hs (.slice A xs.length cap) hl
  have qm := Lib.hid (markCellS_calls xs _ (W.alloc (.cells (gdA w h hs (.slice A xs.length cap)) 54)) B (Nat.le_trans hB (by simp)) HO.out k hk0 hk1 hn)
  clear hO
  go_enter Tryd.func37, Tryd.ntmps37
  go_wp2_with fail
  refine qm.out.mono ?_
  rintro e w1 ⟨rfl, hO1, -, hg1⟩
  go_wp2_with fail
  go_ret
  exact ⟨rfl, hO1, (World.grownBy_alloc W _ _).trans hg1⟩
theorem heldGround_calls (w h : Int) (hs : List Int) (hl : hs.length = 81) (z : Value) (n : Nat) (W : World) (k : Int) (hz : Sl W W.heap.size Cell.c 2 z (cellMarks k n)) (hk0 : 0 ≤ k) (hk1 : k ≤ 10000000) (hn : n ≤ 1048576) :
    Calls Tryd.prog 38 #[.agg (gdA w h hs z), .int .i64 k] W fun e w' => e = .returned (.int .i64 (k + 2 * n)) ∧ Below W.heap.size W w' := by
  obtain ⟨A, cap, rfl, -, -, -⟩ := hz.cell
  have hB := (Below.refl W.heap.size W).alloc (Nat.le_refl _) (.cells (gdA w h hs (.slice A (cellMarks k n).length cap)) 54)
  have HB := Lib.hid hB
  have ga83 := gdA_z w h hs (.slice A (cellMarks k n).length cap) hl
  have qm := Lib.hid (heldCellS_calls n _ _ k (hz.ext hB) hk0 hk1 hn)
  have hd : decide (k + 2 * (n : Int) < 0) = false := by rw [decide_eq_false_iff_not]; omega
  clear hB hz
  go_enter Tryd.func38, Tryd.ntmps38
  go_wp2_with fail
  refine qm.out.mono ?_
  rintro e w1 ⟨rfl, hb1⟩
  go_wp2_with fail
  go_ret
  exact ⟨rfl, ext_trans HB.out hb1⟩
section
variable {H : Type} {enc : TypeId × Value → H} {w : World} {cs : List Value} {base b0 : Nat} {spare : Nat → Bool} {held : Bool} {v : Value} {d : DataW H} {p : List MemPlace} {r : Reach}
theorem Rd.i16s : ∀ (n : Nat) (cs : List Value), cs.length = n → (∀ i, i < n → Rd enc Tryd.prog w 44 ((cs.drop i).take 1)) → ∃ xs : List Int, cs = xs.map (Value.int .i16) ∧ ∀ x ∈ xs, -32768 ≤ x ∧ x ≤ 32767
  | 0, cs, hl, _ => ⟨[], by simpa using hl, by simp⟩
  | n + 1, [], hl, _ => by simp at hl
  | n + 1, c :: cs, hl, hr => by
    have h0 := hr 0 (by omega)
    obtain ⟨m, e0, w0⟩ := h0.int Tryd.underlying44
    simp at e0
    subst e0
    obtain ⟨xs, e1, hx⟩ := Rd.i16s n cs (by simpa using hl) (fun i hi => by simpa using hr (i + 1) (by omega))
    refine ⟨m :: xs, by simp [e1], ?_⟩
    intro x hx'
    rcases List.mem_cons.1 hx' with rfl | h
    · exact wf_i16 w0
    · exact hx x h
theorem Rd.Ground (h : Rd enc Tryd.prog w 49 cs) : ∃ (q : Gd) (z : Value), cs = (gdA q.w q.h q.hs z).toList ∧ Sl w w.heap.size Cell.c 2 z q.gl ∧ q.ok := by
  obtain ⟨hl, hf⟩ := h.struct Tryd.underlying49
  have hC : Tryd.prog.cellsOf 49 = 84 := by kernel_rfl
  have h1 : Tryd.prog.cellsOf 29 = 1 := by kernel_rfl
  have h81 : Tryd.prog.cellsOf 46 = 81 := by kernel_rfl
  have h9 : Tryd.prog.cellsOf 45 = 9 := by kernel_rfl
  have h2 : Tryd.prog.cellsOf 44 = 1 := by kernel_rfl
  have hS : Tryd.prog.cellsOf 47 = 1 := by kernel_rfl
  rw [hC] at hl
  have f0 : Rd enc Tryd.prog w 29 ((cs.drop 0).take (Tryd.prog.cellsOf 29)) := hf 0 _ rfl
  have f1 : Rd enc Tryd.prog w 29 ((cs.drop 1).take (Tryd.prog.cellsOf 29)) := hf 1 _ rfl
  have f2 : Rd enc Tryd.prog w 46 ((cs.drop 2).take (Tryd.prog.cellsOf 46)) := hf 2 _ rfl
  have f3 : Rd enc Tryd.prog w 47 ((cs.drop 83).take (Tryd.prog.cellsOf 47)) := hf 3 _ rfl
  rw [h1] at f0 f1
  rw [h81] at f2
  rw [hS] at f3
  obtain ⟨n0, e0, w0⟩ := f0.int Tryd.underlying29
  obtain ⟨n1, e1, w1⟩ := f1.int Tryd.underlying29
  obtain ⟨-, fr⟩ := f2.array Tryd.underlying46
  rw [h9] at fr
  obtain ⟨hs, e2, hb⟩ := Rd.i16s (enc := enc) (w := w) 81 ((cs.drop 2).take 81) (by simp [hl]) (fun i hi => by
    have hrow := fr (i / 9) (by omega)
    obtain ⟨-, fc⟩ := hrow.array Tryd.underlying45
    rw [h2] at fc
    have hc := fc (i % 9) (by omega)
    have e : ((((cs.drop 2).take 81).drop (i / 9 * 9)).take 9).drop (i % 9 * 1) = ((((cs.drop 2).take 81).drop i).take (9 - i % 9)) := by
      rw [List.drop_take, List.drop_drop]
      congr 2 <;> omega
    rw [e, List.take_take, Nat.min_eq_left (by omega)] at hc
    exact hc)
  obtain ⟨z, gl, e3, hs3, hok⟩ := f3.slice Cell.c 2 Cell.ok Tryd.underlying47 (by kernel_rfl) (by omega) Cell.c_len (fun cs' hr => hr.Cell)
  obtain ⟨a0, b0⟩ := wf_i8 w0
  obtain ⟨a1, b1⟩ := wf_i8 w1
  refine ⟨⟨n0, n1, hs, gl⟩, z, ?_, hs3, a0, b0, a1, b1, ?_, hb, hok⟩
  · have hcut : cs = (cs.drop 0).take 1 ++ ((cs.drop 1).take 1 ++ ((cs.drop 2).take 81 ++ (cs.drop 83).take 1)) := by
      have t1 : cs = cs.take 1 ++ cs.drop 1 := (List.take_append_drop 1 cs).symm
      have t2 : cs.drop 1 = (cs.drop 1).take 1 ++ cs.drop 2 := by rw [← List.drop_drop (i := 1) (j := 1)]; exact (List.take_append_drop 1 _).symm
      have t3 : cs.drop 2 = (cs.drop 2).take 81 ++ cs.drop 83 := by rw [← List.drop_drop (i := 81) (j := 2)]; exact (List.take_append_drop 81 _).symm
      have t4 : cs.drop 83 = (cs.drop 83).take 1 := by rw [List.take_of_length_le]; simp [hl]
      rw [← t4, ← t3, ← t2, List.drop_zero, ← t1]
    rw [hcut, e0, e1, e2, e3]
    simp [gdA]
  · have := congrArg List.length e2
    simp [hl] at this
    exact this.symm
theorem opnGround (hval : Value.okWide Tryd.prog w r b0 49 v) (h : DataW.Trod enc Tryd.prog w base spare held 49 v d p) : ∃ (q : Gd) (z : Value), v = q.v z ∧ Sl w w.heap.size Cell.c 2 z q.gl ∧ q.ok := by
  obtain ⟨a, ha, _⟩ := Go.WideShapes.okWide_struct Tryd.underlying49 hval
  obtain ⟨q, z, hq, hs, hok⟩ := (Rd.of_trod h).Ground
  exact ⟨q, z, agg_of_cells ⟨a, ha⟩ hq, hs, hok⟩
end
end Go.Proofs.YthlcmiediedcfaaDoor
