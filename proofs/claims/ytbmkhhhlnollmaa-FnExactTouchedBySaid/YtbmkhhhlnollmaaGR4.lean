/-
GrowCrack of the program. Conditions: numbers are of their kinds; slices can be read.
-/
import Derived.Test.YtbmkhhhlnollmaaGR3
set_option linter.unusedVariables false
set_option linter.unusedSimpArgs false
set_option maxRecDepth 100000
namespace Go.Proofs.Ytbmkhhhlnollmaa
open Go.RowKit
def growC (w h : Int) (sl : List Slab) (pts : List Cell) (ways : List Int) (years : Int) : Int :=
  if cornC w h sl pts = 0 then (if (inB years 0 60 && ways.all (fun t => inB t 0 3)) = true then 0 else 2) else cornC w h sl pts
theorem growC_told (w h : Int) (sl : List Slab) (pts : List Cell) (way years : Int) : toldC w h sl pts (inB way 0 3 && inB years 0 60) = growC w h sl pts [way] years := by
  unfold toldC growC cornC
  rw [show [way].all (fun t => inB t 0 3) = inB way 0 3 from by simp]
  cases sqOk w h sl <;> cases pts.all (ptB w h) <;> cases inB way 0 3 <;> cases inB years 0 60 <;> simp
theorem growCodeFn (t : Int) (W : World) : Tells Try.prog 126 #[] i64v (fun t => !inB t 0 3) W t := by
  intro W' hW
  unfold i64v
  go_enter Try.func126, Try.ntmps126
  go_wp2_with fail
  refine (within_calls _ _ _ _).mono ?_
  rintro e w1 ⟨rfl, rfl⟩
  go_wp2_with fail
  go_ret
  exact ⟨rfl, Below.refl _ _⟩
set_option maxHeartbeats 1000000 in
theorem growCode_calls (w h : Int) (z : Value) (sl : List Slab) (pts : List Cell) (hp : ∀ x ∈ pts, x.ok) (v : Value) (ways : List Int) (u : Value) (years : Int) (W : World) (hq : SqIn W w h z sl) (hs : Sl W W.heap.size Cell.c 2 v pts) (ht : Sl W W.heap.size i64c 1 u ways) :
    Calls Try.prog 75 #[sqv w h z, v, u, .int .i64 years] W fun e w' => e = .returned (.int .i64 (growC w h sl pts ways years)) ∧ Below W.heap.size W w' := by
  obtain ⟨A, cap, hz, -, -, -⟩ := hq.sl.slab
  subst hz
  have eg := Lib.hid (enters_of Try.func126 (by kernel_rfl) rfl)
  have hB := (Below.refl W.heap.size W).alloc (Nat.le_refl _) (.cells #[.int .i8 w, .int .i8 h, .slice A sl.length cap] 34)
  have HB := Lib.hid hB
  have qc := Lib.hid (cornerCode_calls w h _ sl pts hp v _ (hq.ext hB) (hs.ext hB))
  have HT := Lib.hid (ht.ext hB)
  obtain ⟨R, hR0⟩ : ∃ R, R = growC w h sl pts ways years := ⟨_, rfl⟩
  rw [← hR0]
  have hR := Lib.hid hR0
  clear hB hq hs ht hR0
  unfold sqv at *
  go_enter Try.func75, Try.ntmps75
  go_wp2_with fail
  refine qc.out.mono ?_
  rintro e w1 ⟨rfl, hb1⟩
  have HB1 := Lib.hid (ext_trans HB.out hb1)
  have HT1 := Lib.hid (HT.out.ext hb1)
  clear hb1
  by_cases hc : cornC w h sl pts = 0
  · have hE := Lib.hid (hR.out.trans (if_pos hc))
    have hA := Lib.hid (any_not (fun t => inB t 0 3) ways)
    rw [hc]
    clear hc
    cases hy : inB years 0 60
    · have hE2 := Lib.hid (hE.out.trans (if_neg (by rw [hy]; simp)))
      have HY := Lib.hid hy
      clear hy
      go_wp2_with fail
      refine (within_calls _ _ _ _).mono ?_
      rintro e w2 ⟨rfl, rfl⟩
      rw [HY.out]
      go_wp2_with fail
      refine (unless_calls _ _ _).mono ?_
      rintro e w2 ⟨rfl, rfl⟩
      go_wp2_with fail
      go_ret
      exact ⟨ret_int hE2.out.symm, HB1.out⟩
    · have HY := Lib.hid hy
      rw [hy] at hE
      clear hy
      go_wp2_with fail
      refine (within_calls _ _ _ _).mono ?_
      rintro e w2 ⟨rfl, rfl⟩
      rw [HY.out]
      go_wp2_with fail
      refine (containsFunci64 ways u _ HT1.out _ _ _ eg.out (fun t _ => growCodeFn t _)).mono ?_
      rintro e w3 ⟨rfl, hb3⟩
      have HB3 := Lib.hid (ext_trans HB1.out hb3)
      clear hb3
      go_wp2_with fail
      refine (unless_calls _ _ _).mono ?_
      rintro e w4 ⟨rfl, rfl⟩
      rw [hA.out]
      generalize ways.all (fun t => inB t 0 3) = q at *
      cases q
      all_goals
        go_wp2_with fail
        go_ret
        exact ⟨ret_int hE.out.symm, HB3.out⟩
  · have hE := Lib.hid (hR.out.trans (if_neg hc))
    have hcb : (cornC w h sl pts == 0) = false := by simpa using hc
    have hcb2 : (cornC w h sl pts != 0) = true := by simpa using hc
    clear hc
    go_wp2_with fail
    go_ret
    exact ⟨ret_int hE.out.symm, HB1.out⟩
def growCrack (w h : Int) (sl : List Slab) (p : Cell) (way years : Int) : List Cell × Int := if growC w h sl [p] [way] years = 0 then (growL sl years.toNat [p] p way, 0) else ([], growC w h sl [p] [way] years)
theorem growC_ok {w h : Int} {sl : List Slab} {pts : List Cell} {ways : List Int} {years : Int} (hc : growC w h sl pts ways years = 0) : cornC w h sl pts = 0 ∧ (0 ≤ years ∧ years ≤ 60) ∧ ∀ t ∈ ways, 0 ≤ t ∧ t ≤ 3 := by
  unfold growC at hc
  split at hc
  · rename_i h1
    split at hc
    · rename_i h2
      simp only [Bool.and_eq_true, List.all_eq_true] at h2
      exact ⟨h1, inB_true.1 h2.1, fun t ht => inB_true.1 (h2.2 t ht)⟩
    · omega
  · exact absurd hc (by assumption)
def RetC2 (w : World) (r : List Cell × Int) (e : Ending) (w' : World) : Prop :=
  ∃ v, e = .returned (.tuple #[v, .int .i64 r.2]) ∧ Own w' w.heap.size 36 Cell.c 2 v r.1 ∧ Below w.heap.size w w'
theorem RetC2.mk {w w' : World} {r : List Cell × Int} {v : Value} {b : Int} (h2 : b = r.2) (ho : Own w' w.heap.size 36 Cell.c 2 v r.1) (hb : Below w.heap.size w w') : RetC2 w r (.returned (.tuple #[v, .int .i64 b])) w' := ⟨v, by rw [h2], ho, hb⟩
theorem sl1i (W : World) (n : Int) (g : Nat) (hg : g = W.heap.size) (E : TypeId) : Sl (W.alloc (.cells #[.int .i64 n] E)) (W.alloc (.cells #[.int .i64 n] E)).heap.size i64c 1 (.slice (some ⟨g, 0, none⟩) 1 1) [n] :=
  Sl.litw i64c 1 i64c_len W [n] _ rfl g hg E (by simp)
set_option maxHeartbeats 1000000 in
theorem implGrowCrack_calls (w h : Int) (z : Value) (sl : List Slab) (p : Cell) (hp : p.ok) (way years : Int) (W : World) (hq : SqIn W w h z sl) :
    Calls Try.prog 31 #[sqv w h z, p.v, .int .i64 way, .int .i64 years] W (RetC2 W (growCrack w h sl p way years)) := by
  obtain ⟨A, cap, hz, -, -, -⟩ := hq.sl.slab
  subst hz
  have hB2 := ext_alloc ((Below.refl W.heap.size W).alloc (Nat.le_refl _) (.cells #[.int .i8 w, .int .i8 h, .slice A sl.length cap] 34)) (.cells #[.int .i8 p.x, .int .i8 p.y] 36)
  have hB3 := ext_alloc hB2 (.cells #[.int .i8 p.x, .int .i8 p.y] 36)
  have hB := ext_alloc hB3 (.cells #[.int .i64 way] 2)
  have HB := Lib.hid hB
  have HS := Lib.hid ((sl1c ((W.alloc (.cells #[.int .i8 w, .int .i8 h, .slice A sl.length cap] 34)).alloc (.cells #[.int .i8 p.x, .int .i8 p.y] 36)) p (W.heap.size + 1 + 1) (by simp) 36).alloc (.cells #[.int .i64 way] 2))
  have HT := Lib.hid (sl1i (((W.alloc (.cells #[.int .i8 w, .int .i8 h, .slice A sl.length cap] 34)).alloc (.cells #[.int .i8 p.x, .int .i8 p.y] 36)).alloc (.cells #[.int .i8 p.x, .int .i8 p.y] 36)) way (W.heap.size + 1 + 1 + 1) (by simp) 2)
  have qc := Lib.hid (growCode_calls w h _ sl [p] (by simpa using hp) _ [way] _ years _ (hq.ext hB) HS.out HT.out)
  have HQ := Lib.hid (hq.ext hB)
  have K0 := Lib.hid ((((Bk.new W 34 #[.int .i8 w, .int .i8 h, .slice A sl.length cap] W.heap.size rfl).alloc (.cells #[.int .i8 p.x, .int .i8 p.y] 36)).alloc (.cells #[.int .i8 p.x, .int .i8 p.y] 36)).alloc (.cells #[.int .i64 way] 2))
  have K1 := Lib.hid (((Bk.new (W.alloc (.cells #[.int .i8 w, .int .i8 h, .slice A sl.length cap] 34)) 36 #[.int .i8 p.x, .int .i8 p.y] (W.heap.size + 1) (by simp)).alloc (.cells #[.int .i8 p.x, .int .i8 p.y] 36)).alloc (.cells #[.int .i64 way] 2))
  obtain ⟨R, hR0⟩ : ∃ R, R = growCrack w h sl p way years := ⟨_, rfl⟩
  rw [← hR0]
  have hR := Lib.hid hR0
  clear hB hB2 hB3 hq hR0 HS HT
  unfold sqv Cell.v at *
  go_enter Try.func31, Try.ntmps31
  go_wp2_with fail
  refine qc.out.mono ?_
  rintro e w1 ⟨rfl, hb1⟩
  have HB1 := Lib.hid (ext_trans HB.out hb1)
  have HQ1 := Lib.hid (HQ.out.ext hb1)
  have k0 := K0.out.ext hb1
  have k1 := K1.out.ext hb1
  have s0 := k0.cell 0 _ rfl
  have s1 := k0.cell 1 _ rfl
  have s2 := k0.cell 2 _ rfl
  have t0 := k1.cell 0 _ rfl
  have t1 := k1.cell 1 _ rfl
  clear hb1 k0 k1
  by_cases hc : growC w h sl [p] [way] years = 0
  · have hE := Lib.hid (hR.out.trans (if_pos hc))
    obtain ⟨hc2, ⟨y0, y1⟩, hway⟩ := growC_ok hc
    obtain ⟨hv, hpts⟩ := cornC_ok hc2
    obtain ⟨⟨w0, w1'⟩, ⟨h0, h1⟩, hl⟩ := sqOk_edges hv
    obtain ⟨⟨x0, x1⟩, z0, z1⟩ := hpts p (by simp)
    obtain ⟨ny, hny⟩ : ∃ ny : Nat, years = (ny : Int) := ⟨years.toNat, (Int.toNat_of_nonneg y0).symm⟩
    subst hny
    have qg := Lib.hid (grow_calls w h _ sl hl ⟨w1', h1⟩ p ⟨x0, x1⟩ ⟨z0, z1⟩ way (hway way (by simp)) ny (by omega) _ HQ1.out)
    rw [hc]
    rw [show ((ny : Int)).toNat = ny from Int.toNat_natCast ny] at hE
    clear hc hc2 hv hpts hl hway hR
    unfold sqv Cell.v at qg
    generalize growL sl ny [p] p way = us at *
    go_wp2_with fail
    refine qg.out.mono ?_
    rintro e w2 ⟨g, c, rfl, hO, hb2⟩
    have HO := Lib.hid (hO.more HB1.out.size)
    have HB2 := Lib.hid (ext_trans HB1.out hb2)
    clear hO hb2
    go_wp2_with fail
    go_ret2
    rw [hE.out]
    exact RetC2.mk rfl HO.out HB2.out
  · have hE := Lib.hid (hR.out.trans (if_neg hc))
    have hcb : (growC w h sl [p] [way] years == 0) = false := by simpa using hc
    have hcb2 : (growC w h sl [p] [way] years != 0) = true := by simpa using hc
    clear hc hR
    go_wp2_with fail
    go_ret2
    rw [hE.out]
    exact RetC2.mk (v := .slice none 0 0) rfl (Own.nil_ _ _ _ _ _) HB1.out
end Go.Proofs.Ytbmkhhhlnollmaa
