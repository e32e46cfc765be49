/-
impl.bestPlan, FastestPlan, CheapestPlan. Conditions: numbers are of their kinds; slices can be read.
-/
import Derived.Test.YtkkkgpeilpfddaaG16
import Derived.Laws.EntriesVeiled
set_option linter.unusedVariables false
set_option linter.unusedSimpArgs false
set_option maxRecDepth 100000
namespace Go.Proofs.Ytkkkgpeilpfddaa
open Go.RowKit
def RetOw (w : World) (r : List Int × Int × Int) (e : Ending) (w' : World) : Prop :=
  ∃ v, e = .returned (.tuple #[v, .int .i64 r.2.1, .int .i64 r.2.2]) ∧ Own w' w.heap.size 2 i64c 1 v r.1 ∧ Below w.heap.size w w'
theorem RetOw.mk {w w' : World} {r : List Int × Int × Int} {v : Value} {a b : Int} (h1 : a = r.2.1) (h2 : b = r.2.2) (ho : Own w' w.heap.size 2 i64c 1 v r.1) (hb : Below w.heap.size w w') : RetOw w r (.returned (.tuple #[v, .int .i64 a, .int .i64 b])) w' := ⟨v, by rw [h1, h2], ho, hb⟩
theorem boxes_start (w : World) (v u nf cf : Value) (T1 T2 T3 T6 : TypeId) :
    (⟨w.heap.size, w.heap.size, w.heap.size + 1 + 1, w.heap.size + 1, w.heap.size + 1 + 1 + 1 + 1, w.heap.size + 1 + 1 + 1, w.heap.size + 1 + 1 + 1 + 1 + 1⟩ : Bx).S v u nf cf ((((((w.alloc (.cells #[v] T1)).alloc (.cells #[u] T2)).alloc (.cells #[nf] T3)).alloc (.cells #[.slice none 0 0] 24)).alloc (.cells #[.int .i64 (-1)] 2)).alloc (.cells #[cf] T6)) ([], -1) ∧
    Below w.heap.size w ((((((w.alloc (.cells #[v] T1)).alloc (.cells #[u] T2)).alloc (.cells #[nf] T3)).alloc (.cells #[.slice none 0 0] 24)).alloc (.cells #[.int .i64 (-1)] 2)).alloc (.cells #[cf] T6)) := by
  refine ⟨⟨?_, ?_, ?_, ?_, ?_, ⟨.slice none 0 0, ?_, PV.nil_ _ _ _ _⟩, ?_, ?_, ?_, ?_, ?_, ?_, ?_, ?_, ?_⟩, ?_⟩
  · exact ((((((Bk.new _ _ _ _ (by simp)).alloc _).alloc _).alloc _).alloc _).alloc _).cell 0 _ rfl
  · exact ((((Bk.new _ _ _ _ (by simp)).alloc _).alloc _).alloc _).cell 0 _ rfl
  · exact (((((Bk.new _ _ _ _ (by simp)).alloc _).alloc _).alloc _).alloc _).cell 0 _ rfl
  · exact (Bk.new _ _ _ _ (by simp)).cell 0 _ rfl
  · exact ((Bk.new _ _ _ _ (by simp)).alloc _)
  · exact (((Bk.new _ _ _ _ (by simp)).alloc _).alloc _)
  · exact ((((((Bk.new w T1 #[v] _ (by simp)).alloc _).alloc _).alloc _).alloc _).alloc _).lt
  · exact ((((Bk.new _ T3 #[nf] _ (by simp)).alloc _).alloc _).alloc _).lt
  · exact (((((Bk.new _ T2 #[u] _ (by simp)).alloc _).alloc _).alloc _).alloc _).lt
  · exact (Bk.new _ T6 #[cf] _ (by simp)).lt
  · exact ⟨by show w.heap.size ≠ w.heap.size + 1 + 1 + 1 + 1; omega, by show w.heap.size ≠ w.heap.size + 1 + 1 + 1; omega⟩
  · exact ⟨by show w.heap.size + 1 + 1 ≠ w.heap.size + 1 + 1 + 1 + 1; omega, by show w.heap.size + 1 + 1 ≠ w.heap.size + 1 + 1 + 1; omega⟩
  · exact ⟨by show w.heap.size + 1 ≠ w.heap.size + 1 + 1 + 1 + 1; omega, by show w.heap.size + 1 ≠ w.heap.size + 1 + 1 + 1; omega⟩
  · exact ⟨by show w.heap.size + 1 + 1 + 1 + 1 + 1 ≠ w.heap.size + 1 + 1 + 1 + 1; omega, by show w.heap.size + 1 + 1 + 1 + 1 + 1 ≠ w.heap.size + 1 + 1 + 1; omega⟩
  · show w.heap.size + 1 + 1 + 1 + 1 ≠ w.heap.size + 1 + 1 + 1; omega
  · exact ext_alloc (ext_alloc (ext_alloc (ext_alloc (ext_alloc ((Below.refl _ _).alloc (Nat.le_refl _) _) _) _) _) _) _
set_option maxHeartbeats 8000000 in
theorem bestPlan_calls (rows : List Row) (gangs : List Gang) (ha : asked rows gangs = 0) (w : World) (v u : Value) (gN : FuncId) (lbN : Array Value) (numb : Int → Int → Int × Bool)
    (HS : Sl w w.heap.size Row.c 2 v rows) (HT : Sl w w.heap.size Gang.c 5 u gangs) (HN : Numb gN lbN numb w) (eN : Enters Try.prog gN) :
    Calls Try.prog 54 #[v, u, .func (.func gN) #[] lbN] w (RetOw w (bestPlan (numOf numb rows gangs) rows gangs)) := by
  obtain ⟨RES, hRES⟩ : ∃ R, R = bestPlan (numOf numb rows gangs) rows gangs := ⟨_, rfl⟩
  rw [← hRES]
  unfold bestPlan at hRES
  have HE := Lib.hid hRES
  clear hRES
  have eC := Lib.hid (enters_of Try.func91 (by kernel_rfl) rfl)
  have HC := Lib.hid (choose_calls rows gangs ha w v u gN lbN numb ⟨w.heap.size, w.heap.size, w.heap.size + 1 + 1, w.heap.size + 1, w.heap.size + 1 + 1 + 1 + 1, w.heap.size + 1 + 1 + 1, w.heap.size + 1 + 1 + 1 + 1 + 1⟩ _ rfl ⟨by show w.heap.size ≤ w.heap.size + 1 + 1 + 1 + 1; omega, by show w.heap.size ≤ w.heap.size + 1 + 1 + 1; omega, Nat.le_refl _⟩ HS HT HN eN)
  obtain ⟨A, cap, rfl, -, -, -⟩ := HS.row
  obtain ⟨A2, cap2, rfl, -, -, -⟩ := HT.gang
  go_enter Try.func54, Try.ntmps54
  go_wp2_with fail
  obtain ⟨hX, hb⟩ := boxes_start w (.slice A rows.length cap) (.slice A2 gangs.length cap2) (.func (.func gN) #[] lbN) (.func (.func 91) #[] #[.pointer (some ⟨w.heap.size, 0, none⟩), .pointer (some ⟨w.heap.size + 1 + 1, 0, none⟩), .pointer (some ⟨w.heap.size + 1, 0, none⟩), .pointer (some ⟨w.heap.size + 1 + 1 + 1 + 1, 0, none⟩), .pointer (some ⟨w.heap.size + 1 + 1 + 1, 0, none⟩), .pointer (some ⟨w.heap.size + 1 + 1 + 1 + 1 + 1, 0, none⟩)]) 29 31 _ _
  refine (HC.out rows.length [] _ _ _ (by simp) (by simp) hb hX (PV.nil_ _ _ _ _)).mono ?_
  rintro e w2 ⟨rfl, hK, hX2⟩
  have hb2 := Lib.hid (hb.trans (hK.below hb.size (by show w.heap.size ≤ w.heap.size + 1 + 1 + 1 + 1; omega) (by show w.heap.size ≤ w.heap.size + 1 + 1 + 1; omega)))
  have c1 := hX2.hL.cell 0 _ rfl
  obtain ⟨bv, hB2, hpv⟩ := hX2.hB
  obtain ⟨A5, cap5, rfl, -, -, -⟩ := hpv.sl.i64
  have c2 := hB2.cell 0 _ rfl
  have HPV := Lib.hid hpv.ow
  clear hX hb hK hX2 hB2 hpv HC
  generalize bestOf (numOf numb rows gangs) (allN rows gangs rows.length []) ([], -1) = M at *
  by_cases hneg : M.2 < 0
  · have hd : decide (M.2 < 0) = true := by rw [decide_eq_true_eq]; exact hneg
    have hE2 := Lib.hid (HE.out.trans (if_pos hneg))
    clear hneg HE
    go_wp2_with fail
    go_ret3
    rw [hE2.out]
    exact RetOw.mk (v := .slice none 0 0) rfl rfl (Own.nil_ _ _ _ _ _) hb2.out
  · have hd : decide (M.2 < 0) = false := by rw [decide_eq_false_iff_not]; exact hneg
    have hE2 := Lib.hid (HE.out.trans (if_neg hneg))
    clear hneg HE
    go_wp2_with fail
    go_quiet (fail)
    go_wp2_with fail
    go_ret3
    rw [hE2.out]
    exact RetOw.mk rfl rfl (HPV.out.ext (ext_drewN (Below.refl _ _) _)) (ext_drewN hb2.out _)
set_option maxHeartbeats 4000000 in
theorem implFastestPlan_calls (rows : List Row) (hr : ∀ x ∈ rows, x.ok) (gangs : List Gang) (hg : ∀ x ∈ gangs, x.ok) (v u : Value) (w : World)
    (hs : Sl w w.heap.size Row.c 2 v rows) (ht : Sl w w.heap.size Gang.c 5 u gangs) :
    Calls Try.prog 21 #[v, u] w (RetOw w (fastest rows gangs)) := by
  have HS := Lib.hid hs
  have HT := Lib.hid ht
  have HG := Lib.hid hg
  have HR := Lib.hid hr
  have eN := Lib.hid (enters_of Try.func55 (by kernel_rfl) rfl)
  clear hs ht hg hr
  go_enter Try.func21, Try.ntmps21
  go_wp2_with fail
  refine (gangCode_calls rows HR.out gangs HG.out _ _ _ HS.out HT.out).mono ?_
  rintro e w1 ⟨rfl, hb1⟩
  have HB1 := Lib.hid hb1
  clear hb1
  by_cases hc : asked rows gangs = 0
  · have HC := Lib.hid hc
    have HE := Lib.hid (show fastest rows gangs = bestPlan (numFast rows gangs) rows gangs from if_pos hc)
    rw [hc]
    clear hc
    go_wp2_with fail
    refine (bestPlan_calls rows gangs HC.out w1 _ _ _ _ _ (HS.out.ext HB1.out) (HT.out.ext HB1.out) (numbFast w1) eN.out).mono ?_
    rintro e w2 ⟨z, rfl, hz, hb2⟩
    rw [numOf_fast, ← HE.out] at hz ⊢
    have HZ := Lib.hid hz
    have HBS := Lib.hid HB1.out.size
    have HB2 := Lib.hid (ext_trans HB1.out hb2)
    generalize fastest rows gangs = F at *
    clear hz hb2
    go_wp2_with fail
    go_ret3
    exact RetOw.mk rfl rfl (HZ.out.more HBS.out) HB2.out
  · have HE := Lib.hid (show fastest rows gangs = ([], 0, asked rows gangs) from if_neg hc)
    have hcb : (asked rows gangs == 0) = false := by simpa using hc
    have hcb2 : (asked rows gangs != 0) = true := by simpa using hc
    clear hc
    go_wp2_with fail
    go_ret3
    rw [HE.out]
    exact RetOw.mk (v := .slice none 0 0) rfl rfl (Own.nil_ _ _ _ _ _) HB1.out
set_option maxHeartbeats 4000000 in
theorem implCheapestPlan_calls (rows : List Row) (hr : ∀ x ∈ rows, x.ok) (gangs : List Gang) (hg : ∀ x ∈ gangs, x.ok) (days : Int) (v u : Value) (w : World)
    (hs : Sl w w.heap.size Row.c 2 v rows) (ht : Sl w w.heap.size Gang.c 5 u gangs) :
    Calls Try.prog 27 #[v, u, .int .i64 days] w (RetOw w (cheapest rows gangs days)) := by
  have hb0 := (Below.refl w.heap.size w).alloc (Nat.le_refl _) (.cells #[.int .i64 days] 2)
  have hB0 := Bk.new w 2 #[.int .i64 days] w.heap.size rfl
  have HS := Lib.hid (hs.ext hb0)
  have HT := Lib.hid (ht.ext hb0)
  have HG := Lib.hid hg
  have HR := Lib.hid hr
  have HB0 := Lib.hid hb0
  have HK0 := Lib.hid hB0
  have eN := Lib.hid (enters_of Try.func59 (by kernel_rfl) rfl)
  clear hs ht hg hr hb0 hB0
  go_enter Try.func27, Try.ntmps27
  go_wp2_with fail
  refine (gangCode_calls rows HR.out gangs HG.out _ _ _ HS.out HT.out).mono ?_
  rintro e w1 ⟨rfl, hb1⟩
  have HB1 := Lib.hid (ext_trans HB0.out hb1)
  have hK1 := HK0.out.ext hb1
  have hS1 := Lib.hid (HS.out.ext hb1)
  have hT1 := Lib.hid (HT.out.ext hb1)
  have c0 := hK1.cell 0 _ rfl
  have l0 := hK1.lt
  clear hb1 hK1
  by_cases hc : asked rows gangs = 0
  · have HC := Lib.hid hc
    rw [hc]
    cases hi : inB days 0 1000
    · have hcc : cheapCode rows gangs days = 2 := by simp [cheapCode, hc, hi]
      have HE := Lib.hid (show cheapest rows gangs days = ([], 0, 2) from by rw [cheapest, if_neg (by omega), hcc])
      have HI := Lib.hid hi
      clear hc hi hcc
      go_wp2_with fail
      refine (within_calls _ _ _ _).mono ?_
      rintro e w2 ⟨rfl, rfl⟩
      rw [HI.out]
      go_wp2_with fail
      refine (unless_calls _ _ _).mono ?_
      rintro e w2 ⟨rfl, rfl⟩
      go_wp2_with fail
      go_ret3
      rw [HE.out]
      exact RetOw.mk (v := .slice none 0 0) rfl rfl (Own.nil_ _ _ _ _ _) HB1.out
    have hcc : cheapCode rows gangs days = 0 := by simp [cheapCode, hc, hi]
    have HE := Lib.hid (show cheapest rows gangs days = bestPlan (numCheap rows gangs days) rows gangs from by rw [cheapest, if_pos hcc])
    have HI := Lib.hid hi
    clear hi hcc hc
    go_wp2_with fail
    refine (within_calls _ _ _ _).mono ?_
    rintro e w2 ⟨rfl, rfl⟩
    rw [HI.out]
    go_wp2_with fail
    refine (unless_calls _ _ _).mono ?_
    rintro e w2 ⟨rfl, rfl⟩
    go_wp2_with fail
    refine (bestPlan_calls rows gangs HC.out w1 _ _ _ _ _ hS1.out hT1.out (numbCheap w1 _ days l0 c0) eN.out).mono ?_
    rintro e w2 ⟨z, rfl, hz, hb2⟩
    rw [numOf_cheap, ← HE.out] at hz ⊢
    have HZ := Lib.hid hz
    have HBS := Lib.hid HB1.out.size
    have HB2 := Lib.hid (ext_trans HB1.out hb2)
    generalize cheapest rows gangs days = F at *
    clear hz hb2
    go_wp2_with fail
    go_ret3
    exact RetOw.mk rfl rfl (HZ.out.more HBS.out) HB2.out
  · have hcc : cheapCode rows gangs days = asked rows gangs := if_neg hc
    have HE := Lib.hid (show cheapest rows gangs days = ([], 0, asked rows gangs) from by rw [cheapest, if_neg (by omega), hcc])
    clear hcc
    have hcb : (asked rows gangs == 0) = false := by simpa using hc
    have hcb2 : (asked rows gangs != 0) = true := by simpa using hc
    clear hc
    go_wp2_with fail
    go_ret3
    rw [HE.out]
    exact RetOw.mk (v := .slice none 0 0) rfl rfl (Own.nil_ _ _ _ _ _) HB1.out
end Go.Proofs.Ytkkkgpeilpfddaa
