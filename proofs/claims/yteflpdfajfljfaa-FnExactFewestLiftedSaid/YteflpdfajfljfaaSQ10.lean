/-
Codes of corners, JointsAt: of the program. Conditions: numbers are of their kinds; slices can be read.
-/
import Derived.Test.YteflpdfajfljfaaSQ9
set_option linter.unusedVariables false
set_option linter.unusedSimpArgs false
set_option maxRecDepth 100000
namespace Go.Proofs.Yteflpdfajfljfaa
open Go.RowKit
def ptB (w h : Int) (p : Cell) : Bool := inB p.x 0 w && inB p.y 0 h
def cornC (w h : Int) (sl : List Slab) (pts : List Cell) : Int := if sqOk w h sl = true then (if pts.all (ptB w h) = true then 0 else 2) else 1
theorem cornFn (w h : Int) (z : Value) (sl : List Slab) (b : Nat) (W : World) (hq : SqIn W w h z sl) (hb : Sq.at_ W b 0 w h z) (p : Cell) (hp : p.ok) :
    Tells Try.prog 105 #[.pointer (some ⟨b, 0, none⟩)] Cell.v (fun p => !ptB w h p) W p := by
  intro W' hW
  obtain ⟨A, cap, hz, -, -, -⟩ := hq.sl.slab
  subst hz
  obtain ⟨c0, c1, c2, hl⟩ := hb.ext hW
  have HQ := Lib.hid ((hq.ext hW).ext ((Below.refl _ _).alloc (Nat.le_refl _) (.cells #[.int .i8 p.x, .int .i8 p.y] 36)))
  have qp := Lib.hid (isPoint_calls w h _ sl p hp _ HQ.out)
  have hR := Lib.hid (show (!ptB w h p) = !(inB p.x 0 w && inB p.y 0 h) from rfl)
  generalize (inB p.x 0 w && inB p.y 0 h) = E at *
  unfold sqv Cell.v at *
  go_enter Try.func105, Try.ntmps105
  go_wp2_with fail
  refine qp.out.mono ?_
  rintro e w1 ⟨rfl, hb1⟩
  go_wp2_with fail
  go_ret
  exact ⟨ret_bool hR.out.symm, ext_of_alloc hb1⟩
theorem any_not {α : Type} (p : α → Bool) (xs : List α) : (!xs.any (fun x => !p x)) = xs.all p := by
  induction xs with
  | nil => rfl
  | cons x xs ih => simp [List.any_cons, List.all_cons, ← ih]
set_option maxHeartbeats 1000000 in
theorem cornerCode_calls (w h : Int) (z : Value) (sl : List Slab) (pts : List Cell) (hp : ∀ x ∈ pts, x.ok) (v : Value) (W : World) (hq : SqIn W w h z sl) (hs : Sl W W.heap.size Cell.c 2 v pts) :
    Calls Try.prog 49 #[sqv w h z, v] W fun e w' => e = .returned (.int .i64 (cornC w h sl pts)) ∧ Below W.heap.size W w' := by
  obtain ⟨A, cap, hz, -, -, -⟩ := hq.sl.slab
  subst hz
  have eg := Lib.hid (enters_of Try.func105 (by kernel_rfl) rfl)
  have hB := (Below.refl W.heap.size W).alloc (Nat.le_refl _) (.cells #[.int .i8 w, .int .i8 h, .slice A sl.length cap] 34)
  have HB := Lib.hid hB
  have HQ := Lib.hid (hq.ext hB)
  have HS := Lib.hid (hs.ext hB)
  have K0 := Lib.hid (Bk.new W 34 #[.int .i8 w, .int .i8 h, .slice A sl.length cap] W.heap.size rfl)
  have qv := Lib.hid (validSquare_calls w h hq.w0 hq.w1 hq.h0 hq.h1 sl hq.ok _ _ HQ.out.sl)
  clear hB hq hs
  cases hv : sqOk w h sl
  · have hR := Lib.hid (show cornC w h sl pts = 1 from by rw [cornC, hv]; rfl)
    rw [hv] at qv
    clear hv
    unfold sqv at *
    go_enter Try.func49, Try.ntmps49
    go_wp2_with fail
    refine qv.out.mono ?_
    rintro e w1 ⟨rfl, hb1⟩
    go_wp2_with fail
    go_ret
    exact ⟨ret_int hR.out.symm, ext_trans HB.out hb1⟩
  · have hR := Lib.hid (show cornC w h sl pts = (if pts.all (ptB w h) = true then 0 else 2) from by rw [cornC, hv]; rfl)
    have hA := Lib.hid (any_not (ptB w h) pts)
    rw [hv] at qv
    clear hv
    unfold sqv at *
    go_enter Try.func49, Try.ntmps49
    go_wp2_with fail
    refine qv.out.mono ?_
    rintro e w1 ⟨rfl, hb1⟩
    have HB1 := Lib.hid (ext_trans HB.out hb1)
    have HQ1 := Lib.hid (HQ.out.ext hb1)
    have HS1 := Lib.hid (HS.out.ext hb1)
    have k0 := Lib.hid (K0.out.ext hb1)
    clear hb1
    go_wp2_with fail
    refine (containsFuncCell pts v _ HS1.out _ _ _ eg.out (fun x hx => cornFn w h _ sl _ _ HQ1.out ⟨k0.out.cell 0 _ rfl, k0.out.cell 1 _ rfl, k0.out.cell 2 _ rfl, k0.out.lt⟩ x (hp x hx))).mono ?_
    rintro e w2 ⟨rfl, hb2⟩
    have HB2 := Lib.hid (ext_trans HB1.out hb2)
    clear hb2
    go_wp2_with fail
    refine (unless_calls _ _ _).mono ?_
    rintro e w3 ⟨rfl, rfl⟩
    rw [hA.out]
    generalize pts.all (ptB w h) = q at *
    cases q
    all_goals
      go_wp2_with fail
      go_ret
      exact ⟨ret_int hR.out.symm, HB2.out⟩
theorem sl1c (W : World) (p : Cell) (g : Nat) (hg : g = W.heap.size) (E : TypeId) : Sl (W.alloc (.cells #[.int .i8 p.x, .int .i8 p.y] E)) (W.alloc (.cells #[.int .i8 p.x, .int .i8 p.y] E)).heap.size Cell.c 2 (.slice (some ⟨g, 0, none⟩) 1 1) [p] :=
  Sl.litw Cell.c 2 Cell.c_len W [p] _ rfl g hg E (by simp)
theorem sqOk_edges {w h : Int} {sl : List Slab} (hv : sqOk w h sl = true) : (1 ≤ w ∧ w ≤ 12) ∧ (1 ≤ h ∧ h ≤ 12) ∧ ∀ t ∈ sl, liesB w h t = true := by
  simp only [sqOk, Bool.and_eq_true, edgeB, decide_eq_true_eq] at hv
  obtain ⟨⟨⟨h1, h2⟩, h3⟩, h4⟩ := hv
  exact ⟨h1, h2, by have := slabsOk_lies h4 (Nat.le_refl _); rwa [List.take_length] at this⟩
theorem cornC_ok {w h : Int} {sl : List Slab} {pts : List Cell} (hc : cornC w h sl pts = 0) : sqOk w h sl = true ∧ ∀ p ∈ pts, (0 ≤ p.x ∧ p.x ≤ w) ∧ (0 ≤ p.y ∧ p.y ≤ h) := by
  unfold cornC at hc
  split at hc
  · rename_i h1
    split at hc
    · rename_i h2
      refine ⟨h1, fun p hp => ?_⟩
      have := List.all_eq_true.1 h2 p hp
      simpa [ptB, inB] using this
    · omega
  · omega
/-- What JointsAt answers. -/
def jointsAt (w h : Int) (sl : List Slab) (p : Cell) : List Int × Int := if cornC w h sl [p] = 0 then (waysOf sl p.x p.y, 0) else ([], cornC w h sl [p])
def RetL2 (w : World) (r : List Int × Int) (e : Ending) (w' : World) : Prop :=
  ∃ v, e = .returned (.tuple #[v, .int .i64 r.2]) ∧ Own w' w.heap.size 2 i64c 1 v r.1 ∧ Below w.heap.size w w'
theorem RetL2.mk {w w' : World} {r : List Int × Int} {v : Value} {b : Int} (h2 : b = r.2) (ho : Own w' w.heap.size 2 i64c 1 v r.1) (hb : Below w.heap.size w w') : RetL2 w r (.returned (.tuple #[v, .int .i64 b])) w' := ⟨v, by rw [h2], ho, hb⟩
set_option maxHeartbeats 1000000 in
theorem implJointsAt_calls (w h : Int) (z : Value) (sl : List Slab) (p : Cell) (hp : p.ok) (W : World) (hq : SqIn W w h z sl) :
    Calls Try.prog 14 #[sqv w h z, p.v] W (RetL2 W (jointsAt w h sl p)) := by
  obtain ⟨A, cap, hz, -, -, -⟩ := hq.sl.slab
  subst hz
  have hB := ext_alloc ((Below.refl W.heap.size W).alloc (Nat.le_refl _) (.cells #[.int .i8 w, .int .i8 h, .slice A sl.length cap] 34)) (.cells #[.int .i8 p.x, .int .i8 p.y] 36)
  have HB := Lib.hid (ext_alloc hB (.cells #[.int .i8 p.x, .int .i8 p.y] 36))
  have HQ := Lib.hid (hq.ext HB.out)
  have HS := Lib.hid (sl1c ((W.alloc (.cells #[.int .i8 w, .int .i8 h, .slice A sl.length cap] 34)).alloc (.cells #[.int .i8 p.x, .int .i8 p.y] 36)) p (W.heap.size + 1 + 1) (by simp) 36)
  have K0 := Lib.hid (((Bk.new W 34 #[.int .i8 w, .int .i8 h, .slice A sl.length cap] W.heap.size rfl).alloc (.cells #[.int .i8 p.x, .int .i8 p.y] 36)).alloc (.cells #[.int .i8 p.x, .int .i8 p.y] 36))
  have K1 := Lib.hid ((Bk.new (W.alloc (.cells #[.int .i8 w, .int .i8 h, .slice A sl.length cap] 34)) 36 #[.int .i8 p.x, .int .i8 p.y] (W.heap.size + 1) (by simp)).alloc (.cells #[.int .i8 p.x, .int .i8 p.y] 36))
  clear hB hq
  obtain ⟨R, hR0⟩ : ∃ R, R = jointsAt w h sl p := ⟨_, rfl⟩
  rw [← hR0]
  have hR := Lib.hid hR0
  clear hR0
  have qc := Lib.hid (fun W (hq : SqIn W w h (.slice A sl.length cap) sl) v hs => cornerCode_calls w h _ sl [p] (by simpa using hp) v W hq hs)
  unfold sqv Cell.v at *
  go_enter Try.func14, Try.ntmps14
  go_wp2_with fail
  refine (qc.out _ HQ.out _ HS.out).mono ?_
  rintro e w1 ⟨rfl, hb1⟩
  have HB1 := Lib.hid (ext_trans HB.out hb1)
  have HQ1 := Lib.hid (HQ.out.ext hb1)
  have k0 := K0.out.ext hb1
  have k1 := K1.out.ext hb1
  have s0 := k0.cell 0 _ rfl
  have s1 := k0.cell 1 _ rfl
  have s2 := k0.cell 2 _ rfl
  have t0 := k1.cell 0 _ rfl
  have t1 := k1.cell 1 _ rfl
  clear hb1 k0 k1
  by_cases hc : cornC w h sl [p] = 0
  · have hE := Lib.hid (show R = (waysOf sl p.x p.y, 0) from hR.out.trans (if_pos hc))
    obtain ⟨hv, hpts⟩ := cornC_ok hc
    obtain ⟨⟨w0, w1'⟩, ⟨h0, h1⟩, hl⟩ := sqOk_edges hv
    obtain ⟨⟨x0, x1⟩, y0, y1⟩ := hpts p (by simp)
    have qw := Lib.hid (ways_calls w h _ sl p ⟨x0, by omega⟩ ⟨y0, by omega⟩ _ HQ1.out)
    rw [hc]
    clear hc hv hpts hl
    unfold sqv Cell.v at qw
    go_wp2_with fail
    refine qw.out.mono ?_
    rintro e w2 ⟨g, c, rfl, hO, hb2⟩
    have HO := Lib.hid (hO.more HB1.out.size)
    have HB2 := Lib.hid (ext_trans HB1.out hb2)
    generalize waysOf sl p.x p.y = us at *
    clear hO hb2
    go_wp2_with fail
    go_ret2
    rw [hE.out]
    exact RetL2.mk rfl HO.out HB2.out
  · have hE := Lib.hid (show R = ([], cornC w h sl [p]) from hR.out.trans (if_neg hc))
    have hcb : (cornC w h sl [p] == 0) = false := by simpa using hc
    have hcb2 : (cornC w h sl [p] != 0) = true := by simpa using hc
    clear hc
    go_wp2_with fail
    go_ret2
    rw [hE.out]
    exact RetL2.mk (v := .slice none 0 0) rfl (Own.nil_ _ _ _ _ _) HB1.out
end Go.Proofs.Yteflpdfajfljfaa
