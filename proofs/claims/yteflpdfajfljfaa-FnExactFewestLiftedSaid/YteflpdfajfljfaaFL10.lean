/-
FewestLifted of both. Conditions: numbers are of their kinds; slices can be read.
-/
import Derived.Test.YteflpdfajfljfaaFL5
import Derived.Test.YteflpdfajfljfaaFL9
set_option linter.unusedVariables false
set_option linter.unusedSimpArgs false
set_option maxRecDepth 100000
namespace Go.Proofs.Yteflpdfajfljfaa
open Go.RowKit
def RetF2 {α : Type} (W : World) (E : TypeId) (c : α → List Value) (sz : Nat) (r : List α × Int) (e : Ending) (w' : World) : Prop := ∃ v, e = .returned (.tuple #[v, .int .i64 r.2]) ∧ Own w' W.heap.size E c sz v r.1 ∧ Below W.heap.size W w'
theorem RetF2.mk {α : Type} {W w' : World} {E : TypeId} {c : α → List Value} {sz : Nat} {r : List α × Int} {v : Value} {b : Int} (h2 : b = r.2) (ho : Own w' W.heap.size E c sz v r.1) (hb : Below W.heap.size W w') : RetF2 W E c sz r (.returned (.tuple #[v, .int .i64 b])) w' := ⟨v, by rw [h2], ho, hb⟩
noncomputable def fewestLifted (w h : Int) (sl : List Slab) (fr tg : Cell) : List Int × Int := if cellC w h sl [fr, tg] = 0 then (fewL w h (cvS sl) fr tg, 0) else ([], cellC w h sl [fr, tg])
theorem fewestLifted_ok {w h : Int} {sl : List Slab} {fr tg : Cell} (hc : cellC w h sl [fr, tg] = 0) : fewestLifted w h sl fr tg = (fewL w h (cvS sl) fr tg, 0) := if_pos hc
theorem fewestLifted_no {w h : Int} {sl : List Slab} {fr tg : Cell} (hc : cellC w h sl [fr, tg] ≠ 0) : fewestLifted w h sl fr tg = ([], cellC w h sl [fr, tg]) := if_neg hc
theorem fewL_len {w h : Int} {cv : Cell → Int} {fr tg : Cell} (hw : w ≤ 12) (hh : h ≤ 12) (hf : gpB w h fr = true) (ht : gpB w h tg = true) : (fewL w h cv fr tg).length ≤ 23 := by
  unfold fewL
  split
  · rename_i hx
    obtain ⟨E, j, now, s, hE, hj, hL⟩ := hx.choose_spec
    have h1 := LayT.len ⟨now, s, hL⟩
    have h2 := hE.le22 hw hh ht fr hf
    have h3 := onI_01 cv fr
    omega
  · simp
theorem fewestLifted_len (w h : Int) (sl : List Slab) (fr tg : Cell) : (fewestLifted w h sl fr tg).1.length ≤ 23 := by
  by_cases hc : cellC w h sl [fr, tg] = 0
  · rw [fewestLifted_ok hc]
    obtain ⟨hv, hg⟩ := cellC_ok hc
    obtain ⟨⟨-, hw⟩, ⟨-, hh⟩, -⟩ := sqOk_edges hv
    exact fewL_len hw hh (hg fr (by simp)) (hg tg (by simp))
  · rw [fewestLifted_no hc]
    simp
set_option maxHeartbeats 2000000 in
theorem implFewestLifted_calls (w h : Int) (z : Value) (sl : List Slab) (fr : Cell) (hf : fr.ok) (tg : Cell) (ht : tg.ok) (W : World) (hq : SqIn W w h z sl) :
    Calls Try.prog 33 #[sqv w h z, fr.v, tg.v] W (RetF2 W 2 i64c 1 (fewestLifted w h sl fr tg)) := by
  obtain ⟨A, cap, hz, -, -, -⟩ := hq.sl.slab
  subst hz
  have HQ := Lib.hid hq
  have HB := Lib.hid (ext_alloc (ext_alloc ((Below.refl W.heap.size W).alloc (Nat.le_refl _) (.cells #[.int .i8 w, .int .i8 h, .slice A sl.length cap] 34)) (.cells #[.int .i8 fr.x, .int .i8 fr.y] 36)) (.cells #[.int .i8 tg.x, .int .i8 tg.y] 36))
  have K0 := Lib.hid (((Bk.new W 34 #[.int .i8 w, .int .i8 h, .slice A sl.length cap] W.heap.size rfl).alloc (.cells #[.int .i8 fr.x, .int .i8 fr.y] 36)).alloc (.cells #[.int .i8 tg.x, .int .i8 tg.y] 36))
  have K1 := Lib.hid ((Bk.new (W.alloc (.cells #[.int .i8 w, .int .i8 h, .slice A sl.length cap] 34)) 36 #[.int .i8 fr.x, .int .i8 fr.y] (W.heap.size + 1) (by simp)).alloc (.cells #[.int .i8 tg.x, .int .i8 tg.y] 36))
  have K2 := Lib.hid (Bk.new ((W.alloc (.cells #[.int .i8 w, .int .i8 h, .slice A sl.length cap] 34)).alloc (.cells #[.int .i8 fr.x, .int .i8 fr.y] 36)) 36 #[.int .i8 tg.x, .int .i8 tg.y] (W.heap.size + 1 + 1) (by simp))
  have hpt : ∀ x ∈ [fr, tg], x.ok := by intro x hx; simp at hx; rcases hx with rfl | rfl <;> assumption
  have qa := Lib.hid (fun W' hq' hs' => cellCode_calls w h (.slice A sl.length cap) sl [fr, tg] hpt (.slice (some ⟨W.heap.size + 1 + 1 + 1, 0, none⟩) 2 2) W' hq' hs')
  have qs := Lib.hid (fun (w3 : World) (e3 : w3.heap.size = W.heap.size + 1 + 1 + 1) => Sl.litw Cell.c 2 Cell.c_len w3 [fr, tg] #[.int .i8 fr.x, .int .i8 fr.y, .int .i8 tg.x, .int .i8 tg.y] (by simp [Cell.c]) (W.heap.size + 1 + 1 + 1) e3.symm 36 (by simp))
  have k0 := K0.out.cell 0 _ rfl
  have k1 := K0.out.cell 1 _ rfl
  have k2 := K0.out.cell 2 _ rfl
  have f0 := K1.out.cell 0 _ rfl
  have f1 := K1.out.cell 1 _ rfl
  have t0 := K2.out.cell 0 _ rfl
  have t1 := K2.out.cell 1 _ rfl
  have hsz := Lib.hid (show (((W.alloc (.cells #[.int .i8 w, .int .i8 h, .slice A sl.length cap] 34)).alloc (.cells #[.int .i8 fr.x, .int .i8 fr.y] 36)).alloc (.cells #[.int .i8 tg.x, .int .i8 tg.y] 36)).heap.size = W.heap.size + 1 + 1 + 1 from by simp)
  clear hq hpt
  unfold sqv Cell.v at *
  go_enter Try.func33, Try.ntmps33
  go_wp2_with fail
  have HB1 := Lib.hid (ext_alloc HB.out (.cells #[.int .i8 fr.x, .int .i8 fr.y, .int .i8 tg.x, .int .i8 tg.y] 36))
  refine (qa.out _ (HQ.out.ext HB1.out) (qs.out _ hsz.out)).mono ?_
  rintro e w1 ⟨rfl, hb1⟩
  have HB2 := Lib.hid (ext_trans HB1.out hb1)
  have K0' := Lib.hid ((K0.out.alloc (.cells #[.int .i8 fr.x, .int .i8 fr.y, .int .i8 tg.x, .int .i8 tg.y] 36)).ext hb1)
  have K1' := Lib.hid ((K1.out.alloc (.cells #[.int .i8 fr.x, .int .i8 fr.y, .int .i8 tg.x, .int .i8 tg.y] 36)).ext hb1)
  have K2' := Lib.hid ((K2.out.alloc (.cells #[.int .i8 fr.x, .int .i8 fr.y, .int .i8 tg.x, .int .i8 tg.y] 36)).ext hb1)
  clear hb1 qa qs k0 k1 k2 f0 f1 t0 t1 K0 K1 K2 HB HB1 hsz
  dsimp only
  by_cases hc : cellC w h sl [fr, tg] = 0
  · have hE := Lib.hid (fewestLifted_ok hc)
    obtain ⟨hv, hg⟩ := cellC_ok hc
    have qf := Lib.hid (fewest_callsS w h (.slice A sl.length cap) sl fr tg hv (hg fr (by simp)) (hg tg (by simp)) w1 (HQ.out.ext HB2.out))
    rw [hc]
    clear hc hv hg
    have k0 := K0'.out.cell 0 _ rfl
    have k1 := K0'.out.cell 1 _ rfl
    have k2 := K0'.out.cell 2 _ rfl
    have f0 := K1'.out.cell 0 _ rfl
    have f1 := K1'.out.cell 1 _ rfl
    have t0 := K2'.out.cell 0 _ rfl
    have t1 := K2'.out.cell 1 _ rfl
    unfold sqv Cell.v at qf
    go_wp2_with fail
    refine qf.out.mono ?_
    rintro e w2 ⟨⟨u, rfl, hO⟩, hb2⟩
    go_wp2_with fail
    go_ret2
    rw [hE.out]
    exact RetF2.mk rfl (hO.more HB2.out.size) (ext_trans HB2.out hb2)
  · have hE := Lib.hid (fewestLifted_no hc)
    have hcb2 : (cellC w h sl [fr, tg] != 0) = true := by simpa using hc
    generalize cellC w h sl [fr, tg] = C at *
    clear hc
    go_wp2_with fail
    go_ret2
    rw [hE.out]
    exact RetF2.mk rfl (Own.nil_ _ _ _ _ _) HB2.out
set_option maxHeartbeats 2000000 in
theorem specFewestLifted_calls (w h : Int) (z : Value) (sl : List Slab) (fr : Cell) (hf : fr.ok) (tg : Cell) (ht : tg.ok) (W : World) (hq : SqIn W w h z sl) :
    Calls Try.prog 32 #[sqv w h z, fr.v, tg.v] W (RetF2 W 2 i64c 1 (fewestLifted w h sl fr tg)) := by
  obtain ⟨A, cap, hz, -, -, -⟩ := hq.sl.slab
  subst hz
  have HQ := Lib.hid hq
  have HB := Lib.hid (ext_alloc (ext_alloc ((Below.refl W.heap.size W).alloc (Nat.le_refl _) (.cells #[.int .i8 w, .int .i8 h, .slice A sl.length cap] 34)) (.cells #[.int .i8 fr.x, .int .i8 fr.y] 36)) (.cells #[.int .i8 tg.x, .int .i8 tg.y] 36))
  have K0 := Lib.hid (((Bk.new W 34 #[.int .i8 w, .int .i8 h, .slice A sl.length cap] W.heap.size rfl).alloc (.cells #[.int .i8 fr.x, .int .i8 fr.y] 36)).alloc (.cells #[.int .i8 tg.x, .int .i8 tg.y] 36))
  have K1 := Lib.hid ((Bk.new (W.alloc (.cells #[.int .i8 w, .int .i8 h, .slice A sl.length cap] 34)) 36 #[.int .i8 fr.x, .int .i8 fr.y] (W.heap.size + 1) (by simp)).alloc (.cells #[.int .i8 tg.x, .int .i8 tg.y] 36))
  have K2 := Lib.hid (Bk.new ((W.alloc (.cells #[.int .i8 w, .int .i8 h, .slice A sl.length cap] 34)).alloc (.cells #[.int .i8 fr.x, .int .i8 fr.y] 36)) 36 #[.int .i8 tg.x, .int .i8 tg.y] (W.heap.size + 1 + 1) (by simp))
  have qa := Lib.hid (fun W' hq' ha' => sCells_calls W.heap.size 0 w h (.slice A sl.length cap) sl fr tg hf ht W' hq' ha')
  have f0 := K1.out.cell 0 _ rfl
  have f1 := K1.out.cell 1 _ rfl
  have t0 := K2.out.cell 0 _ rfl
  have t1 := K2.out.cell 1 _ rfl
  clear hq
  unfold sqv Cell.v at *
  go_enter Try.func32, Try.ntmps32
  go_wp2_with fail
  refine (qa.out _ (HQ.out.ext HB.out) ⟨K0.out.cell 0 _ rfl, K0.out.cell 1 _ rfl, K0.out.cell 2 _ rfl, K0.out.lt⟩).mono ?_
  rintro e w1 ⟨rfl, hb1⟩
  have HB2 := Lib.hid (ext_trans HB.out hb1)
  have K0' := Lib.hid (K0.out.ext hb1)
  have K1' := Lib.hid (K1.out.ext hb1)
  have K2' := Lib.hid (K2.out.ext hb1)
  clear hb1 qa f0 f1 t0 t1 K0 K1 K2 HB
  dsimp only
  by_cases hc : cellC w h sl [fr, tg] = 0
  · have hE := Lib.hid (fewestLifted_ok hc)
    obtain ⟨hv, hg⟩ := cellC_ok hc
    have qf := Lib.hid (sFewest_calls W.heap.size 0 w h (.slice A sl.length cap) sl fr tg hv (hg fr (by simp)) (hg tg (by simp)) w1 (HQ.out.ext HB2.out) ⟨K0'.out.cell 0 _ rfl, K0'.out.cell 1 _ rfl, K0'.out.cell 2 _ rfl, K0'.out.lt⟩)
    rw [hc]
    clear hc hv hg
    have f0 := K1'.out.cell 0 _ rfl
    have f1 := K1'.out.cell 1 _ rfl
    have t0 := K2'.out.cell 0 _ rfl
    have t1 := K2'.out.cell 1 _ rfl
    unfold Cell.v at qf
    go_wp2_with fail
    refine qf.out.mono ?_
    rintro e w2 ⟨⟨u, rfl, hO⟩, hb2⟩
    go_wp2_with fail
    go_ret2
    rw [hE.out]
    exact RetF2.mk rfl (hO.more HB2.out.size) (ext_trans HB2.out hb2)
  · have hE := Lib.hid (fewestLifted_no hc)
    have hcb2 : (cellC w h sl [fr, tg] != 0) = true := by simpa using hc
    generalize cellC w h sl [fr, tg] = C at *
    have hO0 := Lib.hid (Own.empty (α := Int) (c := i64c) (sz := 1) (E := 2) w1 W.heap.size w1.heap.size rfl HB2.out.size)
    have HB3 := Lib.hid (HB2.out.alloc HB2.out.size (.cells #[] 2))
    clear hc
    go_wp2_with fail
    go_ret2
    rw [hE.out]
    exact RetF2.mk rfl hO0.out HB3.out
end Go.Proofs.Yteflpdfajfljfaa
